/- Texts of this claim laid together: Jk2, Jk3, Jk4, Awake08, Awk08, Jk5, JNum, JournalNumbers. -/
import Derived.Test.YtbpdbgcndfcilaaBJournalNumbers2
import Derived.Test.YtbpdbgcndfcilaaBJournalNumbers1
namespace Go.Proofs.Ytbpdbgcndfcilaa
open Go.RowKit Go.Sl
set_option maxRecDepth 20000

def JSt.appendB (j : JSt) (d : DSt) (l : List PImg) (held : Bool) : JSt × DSt × Int × Int := if j.broken then (j, d, 0, 4) else j.append d l held
set_option maxHeartbeats 1000000 in
theorem jk_Append {bJ bD : Nat} {j : JSt} {ch : List Blk} (hJ0 : Jk bJ bD j ch) (hj : j.Wf) {I : Imm} {d : DSt} {chD : List Blk} (hD : Dk I bD d chD) (hd : d.Few 900000) (hg6 : j.groups.length ≤ 900000)
    (aL : Option Addr) (capL : Nat) (gs : List Img) (hi : ImgsOk I aL gs) (hgl : gs.length ≤ 9223372036854775806) (held : Bool) :
    Tri Try.prog 14 #[.pointer (some ⟨bJ, 0, none⟩), .slice aL gs.length capL, .bool held] I [ch, chD] fun v J S' =>
      v = .tuple #[.int .i64 (j.appendB d (gs.map Img.pr) held).2.2.1, .int .i64 (j.appendB d (gs.map Img.pr) held).2.2.2] ∧ ∃ chJ chD', Jk bJ bD (j.appendB d (gs.map Img.pr) held).1 chJ ∧ Dk J bD (j.appendB d (gs.map Img.pr) held).2.1 chD' ∧ S' = [chJ, chD'] := by
  obtain ⟨g, chG, rfl, hG⟩ := hJ0
  have hm := fun bj bl br bs => jr_may4 bJ (j.at bD g) 73 bj bl br bs I [pBox bj (.pointer (some ⟨bJ, 0, none⟩)) 22, pBox bl (.slice aL gs.length capL) 47, pBox br (.bool held) 4, pBox bs (.int .i64 0) 3, jChunk bJ (j.at bD g), chG, chD] 4 rfl
    (fun hb => jk_Append1 bj bl br bs bJ bD j hj hb g chG hG d chD I hD 900000 hd (Nat.le_refl _) aL capL gs hi hgl hg6 held)
  refine Tri.lay (S2 := [jChunk bJ (j.at bD g), chG, chD]) (by simp) ?_
  refine Tri.drop ?_ (fun _ _ _ _ h => h)
  refine Tri.of (args := [.pointer (some ⟨bJ, 0, none⟩), .slice aL gs.length capL, .bool held]) tabOk Try.func14 rfl (by kernel_rfl) (by kernel_rfl) ?_
  conv => whnf
  intro b3
  conv => whnf
  intro b4
  conv => whnf
  intro b5
  conv => whnf
  intro b8
  repeat (first
    | refine LoadD.own 0 rfl _ rfl rfl ?_
    | refine LoadD.own 1 rfl _ rfl rfl ?_
    | refine LoadD.own 2 rfl _ rfl rfl ?_
    | refine LoadD.own 3 rfl _ rfl rfl ?_
    | refine LoadD.own 4 rfl _ rfl rfl ?_
    | refine LoadD.own 5 rfl _ rfl rfl ?_
    | refine LoadD.own 6 rfl _ rfl rfl ?_
    | refine LoadD.own 7 rfl _ rfl rfl ?_
    | refine LoadP.at 0 rfl _ rfl rfl ?_
    | refine LoadP.at 1 rfl _ rfl rfl ?_
    | refine LoadP.at 2 rfl _ rfl rfl ?_
    | refine LoadP.at 3 rfl _ rfl rfl ?_
    | refine LoadP.at 4 rfl _ rfl rfl ?_
    | refine LoadP.at 5 rfl _ rfl rfl ?_
    | refine LoadP.at 6 rfl _ rfl rfl ?_
    | refine LoadP.at 7 rfl _ rfl rfl ?_
    | refine StoreD.st 0 rfl rfl rfl ?_
    | refine StoreD.st 1 rfl rfl rfl ?_
    | refine StoreD.st 2 rfl rfl rfl ?_
    | refine StoreD.st 3 rfl rfl rfl ?_
    | refine StoreD.st 4 rfl rfl rfl ?_
    | refine StoreD.st 5 rfl rfl rfl ?_
    | refine StoreD.st 6 rfl rfl rfl ?_
    | refine StoreD.st 7 rfl rfl rfl ?_
    | refine CmpD.yes rfl ?_
    | refine CmpD.yes (by decide) ?_
    | refine CmpD.no (by decide) ?_
    | refine Chk.mk ⟨rfl, trivial⟩ ?_
    | refine Chk.mk ⟨rfl, rfl, trivial⟩ ?_
    | refine Chk.mk ⟨rfl, rfl, rfl, trivial⟩ ?_
    | refine Chk.mk ⟨rfl, rfl, rfl, rfl, trivial⟩ ?_
    | refine Chk.mk ⟨rfl, rfl, rfl, rfl, rfl, trivial⟩ ?_
    | refine Chk.mk ⟨rfl, rfl, rfl, rfl, rfl, rfl, trivial⟩ ?_)
  refine Tri.frameX (hm b3 b4 b5 b8) [3, 4, 5, 6, 0, 1, 2] rfl rfl ?_
  unfold JSt.appendB
  rintro v J A' hJ (⟨hb, rfl, rfl, rfl⟩ | ⟨hb, rfl, chJ, chD', h1, h2, rfl⟩)
  · refine LoadD.own 10 rfl [.int .i64 0] rfl rfl ?_
    rw [if_pos hb]
    exact Done.mk ⟨[jChunk bJ (j.at bD g) ++ chG, chD], (Drop.pick [11, 12, 13] _ rfl).trans (Drop.flat (by simp [St.at])), rfl, _, _, ⟨g, chG, rfl, hG⟩, hD, rfl⟩
  · rw [if_neg (by have hb : j.broken = false := hb; rw [hb]; simp)]
    refine LoadD.own 7 rfl [.int .i64 _] rfl rfl ?_
    exact Done.mk ⟨[chJ, chD'], (Drop.pick [8, 9] _ rfl).trans (Drop.flat (by simp [St.at])), rfl, _, _, h1, h2, rfl⟩
end Go.Proofs.Ytbpdbgcndfcilaa
namespace Go.Proofs.Ytbpdbgcndfcilaa
open Go.RowKit Go.Sl
set_option maxRecDepth 20000

def JSt.flush (j : JSt) (d : DSt) : JSt × DSt × Int := if j.broken then (j, d, 4) else if d.flush.2 ≠ 0 then ({ j with broken := true }, d.flush.1, d.flush.2) else ({ j with synced := j.next - 1 }, d.flush.1, 0)
theorem jk_Flush1 (bx bJ bD : Nat) (j : JSt) (hj : j.Wf) (hb : j.broken = false) (g : Hd) (chG : List Blk) (hG : OwnC chG 2 g.a g.len g.cap (gCells j.groups)) (d : DSt) (chD : List Blk) (I : Imm) (hD : Dk I bD d chD) :
    Tri Try.prog 84 #[.pointer (some ⟨bx, 0, none⟩)] I [pBox bx (.pointer (some ⟨bJ, 0, none⟩)) 22, jChunk bJ (j.at bD g), chG, chD] fun v J S' =>
      v = .int .i64 (j.flush d).2.2 ∧ ∃ chJ chD', Jk bJ bD (j.flush d).1 chJ ∧ Dk J bD (j.flush d).2.1 chD' ∧ S' = [chJ, chD'] := by
  have hn := hj.next
  unfold JSt.flush
  rw [if_neg (by rw [hb]; simp)]
  refine Tri.drop ?_ (fun _ _ _ _ h => h)
  refine Tri.of (args := [.pointer (some ⟨bx, 0, none⟩)]) tabOk Try.func84 rfl (by kernel_rfl) (by kernel_rfl) ?_
  refine CodeF.sched [[], [], [1], [1, 2], [1, 2, 3], [1, 2, 3, 4], [0, 1, 2, 3, 4, 5], [0, 1, 2, 3, 4, 5, 6]] [0, 1, 2, 3, 4, 5, 6, 7] (by kernel_rfl) ?_
  repeat (first
    | refine LoadD.own 0 rfl _ rfl rfl ?_
    | refine LoadD.own 1 rfl _ rfl rfl ?_
    | refine LoadD.own 2 rfl _ rfl rfl ?_
    | refine LoadD.own 3 rfl _ rfl rfl ?_
    | refine LoadP.at 0 rfl _ rfl rfl ?_
    | refine LoadP.at 1 rfl _ rfl rfl ?_
    | refine LoadP.at 2 rfl _ rfl rfl ?_
    | refine LoadP.at 3 rfl _ rfl rfl ?_
    | refine StoreD.st 0 rfl rfl rfl ?_
    | refine StoreD.st 1 rfl rfl rfl ?_
    | refine StoreD.st 2 rfl rfl rfl ?_
    | refine StoreD.st 3 rfl rfl rfl ?_
    | refine CmpD.yes rfl ?_
    | refine CmpD.yes (by decide) ?_
    | refine CmpD.no (by decide) ?_
    | refine Chk.mk ⟨rfl, trivial⟩ ?_
    | refine Chk.mk ⟨rfl, rfl, trivial⟩ ?_
    | refine Chk.mk ⟨rfl, rfl, rfl, trivial⟩ ?_
    | refine Chk.mk ⟨rfl, rfl, rfl, rfl, trivial⟩ ?_
    | refine Chk.mk ⟨rfl, rfl, rfl, rfl, rfl, trivial⟩ ?_
    | refine Chk.mk ⟨rfl, rfl, rfl, rfl, rfl, rfl, trivial⟩ ?_)
  refine Tri.frame1 3 rfl (dk_Flush hD) ?_
  rintro v J S' hJ ⟨rfl, chD', hD', rfl⟩
  refine ⟨_, rfl, ?_⟩
  repeat (first
    | refine LoadD.own 0 rfl _ rfl rfl ?_
    | refine LoadD.own 1 rfl _ rfl rfl ?_
    | refine LoadD.own 2 rfl _ rfl rfl ?_
    | refine LoadD.own 3 rfl _ rfl rfl ?_
    | refine LoadP.at 0 rfl _ rfl rfl ?_
    | refine LoadP.at 1 rfl _ rfl rfl ?_
    | refine LoadP.at 2 rfl _ rfl rfl ?_
    | refine LoadP.at 3 rfl _ rfl rfl ?_
    | refine StoreD.st 0 rfl rfl rfl ?_
    | refine StoreD.st 1 rfl rfl rfl ?_
    | refine StoreD.st 2 rfl rfl rfl ?_
    | refine StoreD.st 3 rfl rfl rfl ?_
    | refine CmpD.yes rfl ?_
    | refine CmpD.yes (by decide) ?_
    | refine CmpD.no (by decide) ?_
    | refine Chk.mk ⟨rfl, trivial⟩ ?_
    | refine Chk.mk ⟨rfl, rfl, trivial⟩ ?_
    | refine Chk.mk ⟨rfl, rfl, rfl, trivial⟩ ?_
    | refine Chk.mk ⟨rfl, rfl, rfl, rfl, trivial⟩ ?_
    | refine Chk.mk ⟨rfl, rfl, rfl, rfl, rfl, trivial⟩ ?_
    | refine Chk.mk ⟨rfl, rfl, rfl, rfl, rfl, rfl, trivial⟩ ?_)
  refine Tri.frame1 1 rfl (jr_did bJ (j.at bD g) _ J) ?_
  rintro v J S' hJ2 ⟨rfl, rfl, rfl⟩
  refine ⟨_, rfl, ?_⟩
  refine CmpD.split (fun c1 => ?_) (fun c1 => ?_)
  · rw [if_neg (by simpa using c1)]
    refine CodeF.sched [[], [], [1], [1, 2], [1, 2, 3], [1, 2, 3, 4], [0, 1, 2, 3, 4, 5], [0, 1, 2, 3, 4, 5, 6], [0, 1, 2, 3, 4, 5, 6, 7]] [0, 1, 2, 3, 4, 5, 6, 7, 8] (by kernel_rfl) ?_
    repeat (first
      | refine LoadD.own 0 rfl _ rfl rfl ?_
      | refine LoadD.own 1 rfl _ rfl rfl ?_
      | refine LoadD.own 2 rfl _ rfl rfl ?_
      | refine LoadD.own 3 rfl _ rfl rfl ?_
      | refine LoadP.at 0 rfl _ rfl rfl ?_
      | refine LoadP.at 1 rfl _ rfl rfl ?_
      | refine LoadP.at 2 rfl _ rfl rfl ?_
      | refine LoadP.at 3 rfl _ rfl rfl ?_
      | refine StoreD.st 0 rfl rfl rfl ?_
      | refine StoreD.st 1 rfl rfl rfl ?_
      | refine StoreD.st 2 rfl rfl rfl ?_
      | refine StoreD.st 3 rfl rfl rfl ?_
      | refine CmpD.yes rfl ?_
      | refine CmpD.yes (by decide) ?_
      | refine CmpD.no (by decide) ?_
      | refine Chk.mk ⟨rfl, trivial⟩ ?_
      | refine Chk.mk ⟨rfl, rfl, trivial⟩ ?_
      | refine Chk.mk ⟨rfl, rfl, rfl, trivial⟩ ?_
      | refine Chk.mk ⟨rfl, rfl, rfl, rfl, trivial⟩ ?_
      | refine Chk.mk ⟨rfl, rfl, rfl, rfl, rfl, trivial⟩ ?_
      | refine Chk.mk ⟨rfl, rfl, rfl, rfl, rfl, rfl, trivial⟩ ?_)
    refine ToD.i64 (show -9223372036854775808 ≤ j.next - 1 by omega) (show j.next - 1 ≤ _ by omega) ?_
    repeat (first
      | refine LoadD.own 0 rfl _ rfl rfl ?_
      | refine LoadD.own 1 rfl _ rfl rfl ?_
      | refine LoadD.own 2 rfl _ rfl rfl ?_
      | refine LoadD.own 3 rfl _ rfl rfl ?_
      | refine LoadP.at 0 rfl _ rfl rfl ?_
      | refine LoadP.at 1 rfl _ rfl rfl ?_
      | refine LoadP.at 2 rfl _ rfl rfl ?_
      | refine LoadP.at 3 rfl _ rfl rfl ?_
      | refine StoreD.st 0 rfl rfl rfl ?_
      | refine StoreD.st 1 rfl rfl rfl ?_
      | refine StoreD.st 2 rfl rfl rfl ?_
      | refine StoreD.st 3 rfl rfl rfl ?_
      | refine CmpD.yes rfl ?_
      | refine CmpD.yes (by decide) ?_
      | refine CmpD.no (by decide) ?_
      | refine Chk.mk ⟨rfl, trivial⟩ ?_
      | refine Chk.mk ⟨rfl, rfl, trivial⟩ ?_
      | refine Chk.mk ⟨rfl, rfl, rfl, trivial⟩ ?_
      | refine Chk.mk ⟨rfl, rfl, rfl, rfl, trivial⟩ ?_
      | refine Chk.mk ⟨rfl, rfl, rfl, rfl, rfl, trivial⟩ ?_
      | refine Chk.mk ⟨rfl, rfl, rfl, rfl, rfl, rfl, trivial⟩ ?_)
    refine Done.mk ⟨[jChunk bJ ({ j with synced := j.next - 1 }.at bD g) ++ chG, chD'], (Drop.pick [1, 2, 3] _ rfl).trans (Drop.flat ?_), rfl, _, _, ⟨g, chG, rfl, hG⟩, hD', rfl⟩
    rw [decide_eq_true c1]
    simp [St.at, hb]
    rfl
  · rw [if_pos c1]
    repeat (first
      | refine LoadD.own 0 rfl _ rfl rfl ?_
      | refine LoadD.own 1 rfl _ rfl rfl ?_
      | refine LoadD.own 2 rfl _ rfl rfl ?_
      | refine LoadD.own 3 rfl _ rfl rfl ?_
      | refine LoadP.at 0 rfl _ rfl rfl ?_
      | refine LoadP.at 1 rfl _ rfl rfl ?_
      | refine LoadP.at 2 rfl _ rfl rfl ?_
      | refine LoadP.at 3 rfl _ rfl rfl ?_
      | refine StoreD.st 0 rfl rfl rfl ?_
      | refine StoreD.st 1 rfl rfl rfl ?_
      | refine StoreD.st 2 rfl rfl rfl ?_
      | refine StoreD.st 3 rfl rfl rfl ?_
      | refine CmpD.yes rfl ?_
      | refine CmpD.yes (by decide) ?_
      | refine CmpD.no (by decide) ?_
      | refine Chk.mk ⟨rfl, trivial⟩ ?_
      | refine Chk.mk ⟨rfl, rfl, trivial⟩ ?_
      | refine Chk.mk ⟨rfl, rfl, rfl, trivial⟩ ?_
      | refine Chk.mk ⟨rfl, rfl, rfl, rfl, trivial⟩ ?_
      | refine Chk.mk ⟨rfl, rfl, rfl, rfl, rfl, trivial⟩ ?_
      | refine Chk.mk ⟨rfl, rfl, rfl, rfl, rfl, rfl, trivial⟩ ?_)
    refine Done.mk ⟨[jChunk bJ ({ j with broken := true }.at bD g) ++ chG, chD'], (Drop.pick [1, 2, 3] _ rfl).trans (Drop.flat ?_), rfl, _, _, ⟨g, chG, rfl, hG⟩, hD', rfl⟩
    rw [decide_eq_false c1]
    simp [St.at, hb]
theorem jk_Flush {bJ bD : Nat} {j : JSt} {ch : List Blk} (hJ0 : Jk bJ bD j ch) (hj : j.Wf) {I : Imm} {d : DSt} {chD : List Blk} (hD : Dk I bD d chD) :
    Tri Try.prog 18 #[.pointer (some ⟨bJ, 0, none⟩)] I [ch, chD] fun v J S' =>
      v = .int .i64 (j.flush d).2.2 ∧ ∃ chJ chD', Jk bJ bD (j.flush d).1 chJ ∧ Dk J bD (j.flush d).2.1 chD' ∧ S' = [chJ, chD'] := by
  obtain ⟨g, chG, rfl, hG⟩ := hJ0
  have hm := fun bx => jr_may1 bJ (j.at bD g) 84 bx I [pBox bx (.pointer (some ⟨bJ, 0, none⟩)) 22, jChunk bJ (j.at bD g), chG, chD] 1 rfl (fun hb => jk_Flush1 bx bJ bD j hj hb g chG hG d chD I hD)
  refine Tri.lay (S2 := [jChunk bJ (j.at bD g), chG, chD]) (by simp) ?_
  refine Tri.drop ?_ (fun _ _ _ _ h => h)
  refine Tri.of (args := [.pointer (some ⟨bJ, 0, none⟩)]) tabOk Try.func18 rfl (by kernel_rfl) (by kernel_rfl) ?_
  conv => whnf
  intro b3
  repeat (first
    | refine LoadD.own 0 rfl _ rfl rfl ?_
    | refine LoadD.own 1 rfl _ rfl rfl ?_
    | refine LoadD.own 2 rfl _ rfl rfl ?_
    | refine LoadD.own 3 rfl _ rfl rfl ?_
    | refine LoadP.at 0 rfl _ rfl rfl ?_
    | refine LoadP.at 1 rfl _ rfl rfl ?_
    | refine LoadP.at 2 rfl _ rfl rfl ?_
    | refine LoadP.at 3 rfl _ rfl rfl ?_
    | refine StoreD.st 0 rfl rfl rfl ?_
    | refine StoreD.st 1 rfl rfl rfl ?_
    | refine StoreD.st 2 rfl rfl rfl ?_
    | refine StoreD.st 3 rfl rfl rfl ?_
    | refine CmpD.yes rfl ?_
    | refine CmpD.yes (by decide) ?_
    | refine CmpD.no (by decide) ?_
    | refine Chk.mk ⟨rfl, trivial⟩ ?_
    | refine Chk.mk ⟨rfl, rfl, trivial⟩ ?_
    | refine Chk.mk ⟨rfl, rfl, rfl, trivial⟩ ?_
    | refine Chk.mk ⟨rfl, rfl, rfl, rfl, trivial⟩ ?_
    | refine Chk.mk ⟨rfl, rfl, rfl, rfl, rfl, trivial⟩ ?_
    | refine Chk.mk ⟨rfl, rfl, rfl, rfl, rfl, rfl, trivial⟩ ?_)
  refine Tri.frameX (hm b3) [3, 0, 1, 2] rfl rfl ?_
  rintro v J A' hJ (⟨hb, rfl, rfl, rfl⟩ | ⟨hb, rfl, chJ, chD', h1, h2, rfl⟩)
  · unfold JSt.flush
    rw [if_pos hb]
    exact Done.mk ⟨[jChunk bJ (j.at bD g) ++ chG, chD], (Drop.pick [5, 6, 7] _ rfl).trans (Drop.flat (by simp [St.at])), rfl, _, _, ⟨g, chG, rfl, hG⟩, hD, rfl⟩
  · exact Done.mk ⟨[chJ, chD'], (Drop.pick [4, 5] _ rfl).trans (Drop.flat (by simp [St.at])), rfl, _, _, h1, h2, rfl⟩
/-- groups let go, one by one -/
def relAll (seq : Int) : List (Int × Int) → Int → Int → Int → Int → List (Int × Int) × R5
  | [], s, t, u, h => ([], (s, t, u, h, 0))
  | g :: gs, s, t, u, h => if g.1 ≤ seq then (match dropS s t u h g.2 with
    | (s', t', u', h', e) => if e = 0 then relAll seq gs s' t' u' h' else (g :: gs, (s, t, u, h, e))) else (g :: gs, (s, t, u, h, 0))
def JSt.release (j : JSt) (seq : Int) : JSt × Int := if j.broken then (j, 4) else if j.synced < seq then (j, 2) else match relAll seq j.groups j.s j.t j.u j.h with
  | (gs, (s, t, u, h, e)) => ({ j with s := s, t := t, u := u, h := h, groups := gs }, e)
theorem dropS_mid {s t u h n : Int} (hr : Ok s t u h) {s' t' u' h' e : Int} (hp : dropS s t u h n = (s', t', u', h', e)) (he : e = 0) : Ok s' t' u' h' := by
  unfold dropS at hp
  subst he
  split at hp
  · simp at hp
  · rename_i h1
    simp only [Prod.mk.injEq] at hp
    obtain ⟨rfl, rfl, rfl, rfl, _⟩ := hp
    unfold Ok at hr h1 ⊢
    have := Int.emod_nonneg (t + n) (b := s) (by omega)
    have := Int.emod_lt_of_pos (t + n) (b := s) (by omega)
    omega
set_option maxHeartbeats 2000000 in
theorem jk_Release1 (bn bx bJ bD : Nat) (seq : Int) (j : JSt) (hj : j.Wf) (hb : j.broken = false) (g : Hd) (chG : List Blk) (hG : OwnC chG 2 g.a g.len g.cap (gCells j.groups)) (I : Imm) :
    Tri Try.prog 85 #[.pointer (some ⟨bn, 0, none⟩), .pointer (some ⟨bx, 0, none⟩)] I [pBox bn (.int .i64 seq) 3, pBox bx (.pointer (some ⟨bJ, 0, none⟩)) 22, jChunk bJ (j.at bD g), chG] fun v J S' =>
      I = J ∧ v = .int .i64 (j.release seq).2 ∧ ∃ chJ, Jk bJ bD (j.release seq).1 chJ ∧ S' = [chJ] := by
  unfold JSt.release
  rw [if_neg (by rw [hb]; simp)]
  refine Tri.drop ?_ (fun _ _ _ _ h => h)
  refine Tri.of (args := [.pointer (some ⟨bn, 0, none⟩), .pointer (some ⟨bx, 0, none⟩)]) tabOk Try.func85 rfl (by kernel_rfl) (by kernel_rfl) ?_
  refine CodeF.sched [[], [], [1], [1, 2], [1, 2, 3], [0, 1, 2, 3, 4]] [0, 1, 2, 3, 4, 5] (by kernel_rfl) ?_
  repeat (first
    | refine LoadD.own 0 rfl _ rfl rfl ?_
    | refine LoadD.own 1 rfl _ rfl rfl ?_
    | refine LoadD.own 2 rfl _ rfl rfl ?_
    | refine LoadD.own 3 rfl _ rfl rfl ?_
    | refine LoadP.at 0 rfl _ rfl rfl ?_
    | refine LoadP.at 1 rfl _ rfl rfl ?_
    | refine LoadP.at 2 rfl _ rfl rfl ?_
    | refine LoadP.at 3 rfl _ rfl rfl ?_
    | refine StoreD.st 0 rfl rfl rfl ?_
    | refine StoreD.st 1 rfl rfl rfl ?_
    | refine StoreD.st 2 rfl rfl rfl ?_
    | refine StoreD.st 3 rfl rfl rfl ?_
    | refine CmpD.yes rfl ?_
    | refine CmpD.yes (by decide) ?_
    | refine CmpD.no (by decide) ?_
    | refine Chk.mk ⟨rfl, trivial⟩ ?_
    | refine Chk.mk ⟨rfl, rfl, trivial⟩ ?_
    | refine Chk.mk ⟨rfl, rfl, rfl, trivial⟩ ?_
    | refine Chk.mk ⟨rfl, rfl, rfl, rfl, trivial⟩ ?_
    | refine Chk.mk ⟨rfl, rfl, rfl, rfl, rfl, trivial⟩ ?_
    | refine Chk.mk ⟨rfl, rfl, rfl, rfl, rfl, rfl, trivial⟩ ?_)
  refine CmpD.split (fun c1 => ?_) (fun c1 => ?_)
  · replace c1 : j.synced < seq := c1
    rw [if_pos c1]
    exact Done.mk ⟨[jChunk bJ (j.at bD g) ++ chG], (Drop.pick [2, 3] _ rfl).trans (Drop.flat (by simp [St.at])), rfl, rfl, _, ⟨g, chG, rfl, hG⟩, rfl⟩
  replace c1 : ¬ j.synced < seq := c1
  rw [if_neg c1]
  obtain ⟨W, hW⟩ : ∃ W, W = relAll seq j.groups j.s j.t j.u j.h := ⟨_, rfl⟩
  rw [← hW]
  refine CodeF.loopD [0, 1] (fun vs J' S' => ∃ (gs : List (Int × Int)) (g' : Hd) (chG' : List Blk) (s t u h : Int), gs.length ≤ 1000000 ∧ (∀ x ∈ gs, In64 x.1 ∧ In64 x.2) ∧ W = relAll seq gs s t u h ∧ Ok s t u h ∧ OwnC chG' 2 g'.a g'.len g'.cap (gCells gs) ∧ J' = I ∧
      vs = [.pointer (some ⟨bn, 0, none⟩), .pointer (some ⟨bx, 0, none⟩)] ∧
      S' = [pBox bn (.int .i64 seq) 3, pBox bx (.pointer (some ⟨bJ, 0, none⟩)) 22, jChunk bJ ({ j with s := s, t := t, u := u, h := h, groups := gs }.at bD g'), chG'])
    (fun _ _ S' => match S' with | [_, _, [(_, .cells c _ _)], _] => (match c[15]? with | some (Value.slice _ l _) => l | _ => 0) | _ => 0) ?_ ?_
  · exact ⟨_, Drop.refl _, j.groups, g, chG, j.s, j.t, j.u, j.h, hj.few, hj.groups, hW, hj.ring, hG, rfl, rfl, rfl⟩
  rintro vs gE J' S' hJ' ⟨gs, ⟨ga, gl, gc⟩, chG', s, t, u, h, hfew, hin, hWi, hr, hG', rfl, rfl, rfl⟩
  dsimp only at hG'
  have hr2 := hr
  unfold Ok at hr2
  have hgl : gs.length = gl := by have := hG'.n; rw [gCells_length] at this; omega
  refine CodeF.sched [[], [0], [0, 1], [0, 1, 2], [0, 1, 2, 3], [0, 1, 2, 3, 4], [0, 1, 2, 3, 4, 5], [0, 1, 2, 3, 4, 5, 6], [0, 1, 2, 3, 4, 5, 6, 7], [0, 1, 2, 3, 4, 5, 6, 7, 8], [0, 1, 2, 3, 4, 5, 6, 7, 8, 9], [0, 1, 2, 3, 4, 5, 6, 7, 8, 9, 10], [0, 1, 2, 3, 4, 5, 6, 7, 8, 9, 10, 11], [0, 1, 2, 3, 4, 5, 6, 7, 8, 9, 10, 11, 12], [0, 1, 2, 3, 4, 5, 6], [0, 1, 2, 3, 4, 5, 6, 7, 8, 9, 10, 11, 12, 13, 14], [0, 1, 2, 3, 4, 5, 6, 7, 8, 9, 10, 11, 12, 13, 14, 15]] [0, 1, 2, 3, 4, 5, 6, 7, 8, 9, 10, 11, 12, 13, 14, 15, 16] (by kernel_rfl) ?_
  repeat (first
    | refine LoadD.own 0 rfl _ rfl rfl ?_
    | refine LoadD.own 1 rfl _ rfl rfl ?_
    | refine LoadD.own 2 rfl _ rfl rfl ?_
    | refine LoadD.own 3 rfl _ rfl rfl ?_
    | refine LoadP.at 0 rfl _ rfl rfl ?_
    | refine LoadP.at 1 rfl _ rfl rfl ?_
    | refine LoadP.at 2 rfl _ rfl rfl ?_
    | refine LoadP.at 3 rfl _ rfl rfl ?_
    | refine StoreD.st 0 rfl rfl rfl ?_
    | refine StoreD.st 1 rfl rfl rfl ?_
    | refine StoreD.st 2 rfl rfl rfl ?_
    | refine StoreD.st 3 rfl rfl rfl ?_
    | refine CmpD.yes rfl ?_
    | refine CmpD.yes (by decide) ?_
    | refine CmpD.no (by decide) ?_
    | refine Chk.mk ⟨rfl, trivial⟩ ?_
    | refine Chk.mk ⟨rfl, rfl, trivial⟩ ?_
    | refine Chk.mk ⟨rfl, rfl, rfl, trivial⟩ ?_
    | refine Chk.mk ⟨rfl, rfl, rfl, rfl, trivial⟩ ?_
    | refine Chk.mk ⟨rfl, rfl, rfl, rfl, rfl, trivial⟩ ?_
    | refine Chk.mk ⟨rfl, rfl, rfl, rfl, rfl, rfl, trivial⟩ ?_)
  match gs, hgl, hG', hWi, hin, hfew with
  | [], hgl, hG', hWi, _, _ =>
    obtain rfl : gl = 0 := by simpa using hgl.symm
    refine CmpD.no (by show ¬ (0 : Int) < ((0 : Nat) : Int); decide) ?_
    refine Done.mk ?_
    rw [hWi, relAll]
    exact ⟨[jChunk bJ ({ j with s := s, t := t, u := u, h := h, groups := [] }.at bD ⟨ga, 0, gc⟩) ++ chG'], (Drop.pick [2, 3] _ rfl).trans (Drop.flat (by simp [St.at])), rfl, rfl, _, ⟨⟨ga, 0, gc⟩, chG', rfl, hG'⟩, rfl⟩
  | (gq, gb) :: gs, hgl, hG', hWi, hin, hfew =>
    simp only [List.length_cons] at hgl hfew
    have hi := hin (gq, gb) (by simp)
    rcases hG'.at' with q0 | ⟨bG, pre, post, TG, rfl, rfl, hpost⟩
    · have := hG'.le; omega
    have ht : ((pre ++ gCells ((gq, gb) :: gs) ++ post).drop pre.length).take 1 = [.int .i64 gq] := by
      rw [List.append_assoc, List.drop_left]; simp [gCells]
    have ht2 : ((pre ++ gCells ((gq, gb) :: gs) ++ post).drop (pre.length + 1)).take 1 = [.int .i64 gb] := by
      rw [List.append_assoc, ← List.drop_drop, List.drop_left]; simp [gCells]
    refine CmpD.yes (by show (0 : Int) < (gl : Int); omega) ?_
    repeat (first
      | refine LoadD.own 0 rfl _ rfl rfl ?_
      | refine LoadD.own 1 rfl _ rfl rfl ?_
      | refine LoadD.own 2 rfl _ rfl rfl ?_
      | refine LoadP.at 0 rfl _ rfl rfl ?_
      | refine LoadP.at 1 rfl _ rfl rfl ?_
      | refine LoadP.at 2 rfl _ rfl rfl ?_
      | refine StoreD.st 0 rfl rfl rfl ?_
      | refine StoreD.st 1 rfl rfl rfl ?_
      | refine StoreD.st 2 rfl rfl rfl ?_
      | refine CmpD.yes rfl ?_
      | refine CmpD.yes (by decide) ?_
      | refine CmpD.no (by decide) ?_
      | refine Chk.mk ⟨rfl, trivial⟩ ?_
      | refine Chk.mk ⟨rfl, rfl, trivial⟩ ?_
      | refine Chk.mk ⟨rfl, rfl, rfl, trivial⟩ ?_
      | refine Chk.mk ⟨rfl, rfl, rfl, rfl, trivial⟩ ?_
      | refine Chk.mk ⟨rfl, rfl, rfl, rfl, rfl, trivial⟩ ?_
      | refine Chk.mk ⟨rfl, rfl, rfl, rfl, rfl, rfl, trivial⟩ ?_)
    refine Chk.mk (by show (0 : Int) ≤ 0 ∧ (0 : Int) < (gl : Int); omega) ?_
    refine LoadP.at 3 rfl [.int .i64 gq] ht rfl ?_
    repeat (first
      | refine LoadD.own 0 rfl _ rfl rfl ?_
      | refine LoadD.own 1 rfl _ rfl rfl ?_
      | refine LoadD.own 2 rfl _ rfl rfl ?_
      | refine LoadP.at 0 rfl _ rfl rfl ?_
      | refine LoadP.at 1 rfl _ rfl rfl ?_
      | refine LoadP.at 2 rfl _ rfl rfl ?_
      | refine StoreD.st 0 rfl rfl rfl ?_
      | refine StoreD.st 1 rfl rfl rfl ?_
      | refine StoreD.st 2 rfl rfl rfl ?_
      | refine CmpD.yes rfl ?_
      | refine CmpD.yes (by decide) ?_
      | refine CmpD.no (by decide) ?_
      | refine Chk.mk ⟨rfl, trivial⟩ ?_
      | refine Chk.mk ⟨rfl, rfl, trivial⟩ ?_
      | refine Chk.mk ⟨rfl, rfl, rfl, trivial⟩ ?_
      | refine Chk.mk ⟨rfl, rfl, rfl, rfl, trivial⟩ ?_
      | refine Chk.mk ⟨rfl, rfl, rfl, rfl, rfl, trivial⟩ ?_
      | refine Chk.mk ⟨rfl, rfl, rfl, rfl, rfl, rfl, trivial⟩ ?_)
    refine CmpD.split (fun c2 => ?_) (fun c2 => ?_)
    rotate_left
    · refine Done.mk ?_
      rw [hWi, relAll, if_neg (by exact c2)]
      exact ⟨[jChunk bJ ({ j with s := s, t := t, u := u, h := h, groups := (gq, gb) :: gs }.at bD ⟨_, gl, gc⟩) ++ _], (Drop.pick [2, 3] _ rfl).trans (Drop.flat (by simp [St.at])), rfl, rfl, _, ⟨⟨_, gl, gc⟩, _, rfl, hG'⟩, rfl⟩
    refine CodeF.sched [[], [], [1], [1, 2], [1, 2, 3], [], [5], [5, 6], [5, 6, 7], [5, 6, 7, 8], [5, 6, 7, 8, 9], [5, 6, 7, 8, 9, 10], [1, 2, 3, 4, 5, 6, 7, 8, 9, 10, 11], [1, 2, 3, 4, 5, 6, 7, 8, 9, 10, 11, 12], [1, 2, 3, 4, 5, 6, 7, 8, 9, 10, 11, 12], [0, 1, 2, 3, 4, 5, 6, 7, 8, 9, 10, 11, 12, 13, 14], [0, 1, 2, 3, 4, 5, 6, 7, 8, 9, 10, 11, 12, 13, 14, 15]] [0, 1, 2, 3, 4, 5, 6, 7, 8, 9, 10, 11, 12, 13, 14, 15, 16] (by kernel_rfl) ?_
    repeat (first
      | refine LoadD.own 0 rfl _ rfl rfl ?_
      | refine LoadD.own 1 rfl _ rfl rfl ?_
      | refine LoadD.own 2 rfl _ rfl rfl ?_
      | refine LoadP.at 0 rfl _ rfl rfl ?_
      | refine LoadP.at 1 rfl _ rfl rfl ?_
      | refine LoadP.at 2 rfl _ rfl rfl ?_
      | refine StoreD.st 0 rfl rfl rfl ?_
      | refine StoreD.st 1 rfl rfl rfl ?_
      | refine StoreD.st 2 rfl rfl rfl ?_
      | refine CmpD.yes rfl ?_
      | refine CmpD.yes (by decide) ?_
      | refine CmpD.no (by decide) ?_
      | refine Chk.mk ⟨rfl, trivial⟩ ?_
      | refine Chk.mk ⟨rfl, rfl, trivial⟩ ?_
      | refine Chk.mk ⟨rfl, rfl, rfl, trivial⟩ ?_
      | refine Chk.mk ⟨rfl, rfl, rfl, rfl, trivial⟩ ?_
      | refine Chk.mk ⟨rfl, rfl, rfl, rfl, rfl, trivial⟩ ?_
      | refine Chk.mk ⟨rfl, rfl, rfl, rfl, rfl, rfl, trivial⟩ ?_)
    refine Chk.mk (by show (0 : Int) ≤ 0 ∧ (0 : Int) < (gl : Int); omega) ?_
    refine LoadP.at 3 rfl [.int .i64 gb] ht2 rfl ?_
    refine Tri.free (ring_Drop s t u h gb J' (by unfold In64; omega) (by unfold In64; omega) (by unfold In64; omega) (by unfold In64; omega) hi.2) ?_
    rintro v J2 _ hJ2 ⟨⟨s', t', u', h', e', rfl, hd⟩, rfl⟩
    repeat (first
      | refine LoadD.own 0 rfl _ rfl rfl ?_
      | refine LoadD.own 1 rfl _ rfl rfl ?_
      | refine LoadD.own 2 rfl _ rfl rfl ?_
      | refine LoadP.at 0 rfl _ rfl rfl ?_
      | refine LoadP.at 1 rfl _ rfl rfl ?_
      | refine LoadP.at 2 rfl _ rfl rfl ?_
      | refine StoreD.st 0 rfl rfl rfl ?_
      | refine StoreD.st 1 rfl rfl rfl ?_
      | refine StoreD.st 2 rfl rfl rfl ?_
      | refine CmpD.yes rfl ?_
      | refine CmpD.yes (by decide) ?_
      | refine CmpD.no (by decide) ?_
      | refine Chk.mk ⟨rfl, trivial⟩ ?_
      | refine Chk.mk ⟨rfl, rfl, trivial⟩ ?_
      | refine Chk.mk ⟨rfl, rfl, rfl, trivial⟩ ?_
      | refine Chk.mk ⟨rfl, rfl, rfl, rfl, trivial⟩ ?_
      | refine Chk.mk ⟨rfl, rfl, rfl, rfl, rfl, trivial⟩ ?_
      | refine Chk.mk ⟨rfl, rfl, rfl, rfl, rfl, rfl, trivial⟩ ?_)
    refine Tri.frame1 2 rfl (jr_turned bJ ({ j with s := s, t := t, u := u, h := h, groups := (gq, gb) :: gs }.at bD ⟨some ⟨bG, pre.length, none⟩, gl, gc⟩) s' t' u' h' e' J') ?_
    rintro v J3 S' hJ3 ⟨rfl, rfl, rfl⟩
    refine ⟨_, rfl, ?_⟩
    rw [relAll, if_pos (by exact c2), hd] at hWi
    dsimp only at hWi
    refine CmpD.split (fun c3 => ?_) (fun c3 => ?_)
    rotate_left
    · repeat (first
        | refine LoadD.own 0 rfl _ rfl rfl ?_
        | refine LoadD.own 1 rfl _ rfl rfl ?_
        | refine LoadD.own 2 rfl _ rfl rfl ?_
        | refine LoadP.at 0 rfl _ rfl rfl ?_
        | refine LoadP.at 1 rfl _ rfl rfl ?_
        | refine LoadP.at 2 rfl _ rfl rfl ?_
        | refine StoreD.st 0 rfl rfl rfl ?_
        | refine StoreD.st 1 rfl rfl rfl ?_
        | refine StoreD.st 2 rfl rfl rfl ?_
        | refine CmpD.yes rfl ?_
        | refine CmpD.yes (by decide) ?_
        | refine CmpD.no (by decide) ?_
        | refine Chk.mk ⟨rfl, trivial⟩ ?_
        | refine Chk.mk ⟨rfl, rfl, trivial⟩ ?_
        | refine Chk.mk ⟨rfl, rfl, rfl, trivial⟩ ?_
        | refine Chk.mk ⟨rfl, rfl, rfl, rfl, trivial⟩ ?_
        | refine Chk.mk ⟨rfl, rfl, rfl, rfl, rfl, trivial⟩ ?_
        | refine Chk.mk ⟨rfl, rfl, rfl, rfl, rfl, rfl, trivial⟩ ?_)
      refine Done.mk ?_
      rw [hWi, if_neg c3, if_neg c3]
      exact ⟨[jChunk bJ ({ j with s := s, t := t, u := u, h := h, groups := (gq, gb) :: gs }.at bD ⟨_, gl, gc⟩) ++ _], (Drop.pick [2, 3] _ rfl).trans (Drop.flat (by simp [St.at])), rfl, rfl, _, ⟨⟨_, gl, gc⟩, _, rfl, hG'⟩, rfl⟩
    rw [if_pos c3] at hWi ⊢
    have hr3 := dropS_mid hr hd c3
    refine CodeF.sched [[], [], [1], [1, 2], [1, 2, 3], [1, 2, 3, 4], [0, 1, 2, 3, 4, 5], [0, 1, 2, 3, 4, 5, 6], [0, 1, 2, 3, 4, 5, 6, 7]] [0, 1, 2, 3, 4, 5, 6, 7, 8] (by kernel_rfl) ?_
    repeat (first
      | refine LoadD.own 0 rfl _ rfl rfl ?_
      | refine LoadD.own 1 rfl _ rfl rfl ?_
      | refine LoadD.own 2 rfl _ rfl rfl ?_
      | refine LoadP.at 0 rfl _ rfl rfl ?_
      | refine LoadP.at 1 rfl _ rfl rfl ?_
      | refine LoadP.at 2 rfl _ rfl rfl ?_
      | refine StoreD.st 0 rfl rfl rfl ?_
      | refine StoreD.st 1 rfl rfl rfl ?_
      | refine StoreD.st 2 rfl rfl rfl ?_
      | refine CmpD.yes rfl ?_
      | refine CmpD.yes (by decide) ?_
      | refine CmpD.no (by decide) ?_
      | refine Chk.mk ⟨rfl, trivial⟩ ?_
      | refine Chk.mk ⟨rfl, rfl, trivial⟩ ?_
      | refine Chk.mk ⟨rfl, rfl, rfl, trivial⟩ ?_
      | refine Chk.mk ⟨rfl, rfl, rfl, rfl, trivial⟩ ?_
      | refine Chk.mk ⟨rfl, rfl, rfl, rfl, rfl, trivial⟩ ?_
      | refine Chk.mk ⟨rfl, rfl, rfl, rfl, rfl, rfl, trivial⟩ ?_)
    refine sliceD tabOk rfl rfl rfl rfl 1 gl gc ⟨_, rfl⟩ rfl rfl (.inl rfl) ⟨by omega, hG'.le, Nat.le_refl _⟩ ?_
    have hp := hG'.part 1 gl (by omega) (Nat.le_refl _)
    have e2 : ((gCells ((gq, gb) :: gs)).drop (1 * 2)).take ((gl - 1) * 2) = gCells gs := by
      have e : gCells ((gq, gb) :: gs) = [.int .i64 gq, .int .i64 gb] ++ gCells gs := by simp [gCells]
      rw [e]
      show (gCells gs).take _ = _
      exact List.take_of_length_le (by rw [gCells_length]; omega)
    rw [e2] at hp
    repeat (first
      | refine LoadD.own 0 rfl _ rfl rfl ?_
      | refine LoadD.own 1 rfl _ rfl rfl ?_
      | refine LoadD.own 2 rfl _ rfl rfl ?_
      | refine LoadP.at 0 rfl _ rfl rfl ?_
      | refine LoadP.at 1 rfl _ rfl rfl ?_
      | refine LoadP.at 2 rfl _ rfl rfl ?_
      | refine StoreD.st 0 rfl rfl rfl ?_
      | refine StoreD.st 1 rfl rfl rfl ?_
      | refine StoreD.st 2 rfl rfl rfl ?_
      | refine CmpD.yes rfl ?_
      | refine CmpD.yes (by decide) ?_
      | refine CmpD.no (by decide) ?_
      | refine Chk.mk ⟨rfl, trivial⟩ ?_
      | refine Chk.mk ⟨rfl, rfl, trivial⟩ ?_
      | refine Chk.mk ⟨rfl, rfl, rfl, trivial⟩ ?_
      | refine Chk.mk ⟨rfl, rfl, rfl, rfl, trivial⟩ ?_
      | refine Chk.mk ⟨rfl, rfl, rfl, rfl, rfl, trivial⟩ ?_
      | refine Chk.mk ⟨rfl, rfl, rfl, rfl, rfl, rfl, trivial⟩ ?_)
    refine ⟨[pBox bn (.int .i64 seq) 3, pBox bx (.pointer (some ⟨bJ, 0, none⟩)) 22, jChunk bJ ({ j with s := s', t := t', u := u', h := h', groups := gs }.at bD ⟨slAddr (some ⟨bG, pre.length, none⟩) 1 gc 2, gl - 1, gc - 1⟩), [(bG, row (pre ++ gCells ((gq, gb) :: gs) ++ post) TG)]], Drop.refl _, ⟨gs, ⟨_, _, _⟩, _, s', t', u', h', by omega, fun x hx => hin x (by simp [hx]), hWi, hr3, hp, rfl, rfl, rfl⟩, ?_⟩
    show gl - 1 < gl
    omega
theorem jk_Release {bJ bD : Nat} {j : JSt} {ch : List Blk} (hJ0 : Jk bJ bD j ch) (hj : j.Wf) (seq : Int) (I : Imm) :
    Tri Try.prog 19 #[.pointer (some ⟨bJ, 0, none⟩), .int .i64 seq] I [ch] fun v J S' =>
      I = J ∧ v = .int .i64 (j.release seq).2 ∧ ∃ chJ, Jk bJ bD (j.release seq).1 chJ ∧ S' = [chJ] := by
  obtain ⟨g, chG, rfl, hG⟩ := hJ0
  have hm := fun bn bx => jr_may2 bJ (j.at bD g) 85 bn bx I [pBox bn (.int .i64 seq) 3, pBox bx (.pointer (some ⟨bJ, 0, none⟩)) 22, jChunk bJ (j.at bD g), chG] 2 rfl (fun hb => jk_Release1 bn bx bJ bD seq j hj hb g chG hG I)
  refine Tri.lay (S2 := [jChunk bJ (j.at bD g), chG]) (by simp) ?_
  refine Tri.drop ?_ (fun _ _ _ _ h => h)
  refine Tri.of (args := [.pointer (some ⟨bJ, 0, none⟩), .int .i64 seq]) tabOk Try.func19 rfl (by kernel_rfl) (by kernel_rfl) ?_
  conv => whnf
  intro bx
  conv => whnf
  intro bn
  repeat (first
    | refine LoadD.own 0 rfl _ rfl rfl ?_
    | refine LoadD.own 1 rfl _ rfl rfl ?_
    | refine LoadD.own 2 rfl _ rfl rfl ?_
    | refine LoadD.own 3 rfl _ rfl rfl ?_
    | refine LoadP.at 0 rfl _ rfl rfl ?_
    | refine LoadP.at 1 rfl _ rfl rfl ?_
    | refine LoadP.at 2 rfl _ rfl rfl ?_
    | refine LoadP.at 3 rfl _ rfl rfl ?_
    | refine StoreD.st 0 rfl rfl rfl ?_
    | refine StoreD.st 1 rfl rfl rfl ?_
    | refine StoreD.st 2 rfl rfl rfl ?_
    | refine StoreD.st 3 rfl rfl rfl ?_
    | refine CmpD.yes rfl ?_
    | refine CmpD.yes (by decide) ?_
    | refine CmpD.no (by decide) ?_
    | refine Chk.mk ⟨rfl, trivial⟩ ?_
    | refine Chk.mk ⟨rfl, rfl, trivial⟩ ?_
    | refine Chk.mk ⟨rfl, rfl, rfl, trivial⟩ ?_
    | refine Chk.mk ⟨rfl, rfl, rfl, rfl, trivial⟩ ?_
    | refine Chk.mk ⟨rfl, rfl, rfl, rfl, rfl, trivial⟩ ?_
    | refine Chk.mk ⟨rfl, rfl, rfl, rfl, rfl, rfl, trivial⟩ ?_)
  refine Tri.frameX (hm bn bx) [3, 2, 0, 1] rfl rfl ?_
  rintro v J A' hJ (⟨hb, rfl, rfl, rfl⟩ | ⟨hb, rfl, rfl, chJ, h1, rfl⟩)
  · unfold JSt.release
    rw [if_pos hb]
    exact Done.mk ⟨[jChunk bJ (j.at bD g) ++ chG], (Drop.pick [6, 7] _ rfl).trans (Drop.flat (by simp [St.at])), rfl, rfl, _, ⟨g, chG, rfl, hG⟩, rfl⟩
  · exact Done.mk ⟨[chJ], (Drop.pick [4] _ rfl).trans (Drop.flat (by simp [St.at])), rfl, rfl, _, h1, rfl⟩
def firstOf (n : Int) : List (Int × Int) → Int
  | [] => n
  | g :: _ => g.1
theorem jk_Tail {bJ bD : Nat} {j : JSt} {ch : List Blk} (hJ0 : Jk bJ bD j ch) (I : Imm) :
    Tri Try.prog 15 #[.pointer (some ⟨bJ, 0, none⟩)] I [ch] fun v J S' => v = .tuple #[.int .i64 j.t, .int .i64 (firstOf j.next j.groups)] ∧ I = J ∧ S' = [ch] := by
  obtain ⟨g, chG, rfl, hG⟩ := hJ0
  refine Tri.abs (S2 := [jChunk bJ (j.at bD g), chG]) (by simp) (jr_Tail bJ (j.at bD g) chG j.groups hG I) ?_
  rintro v J S' hJ ⟨rfl, rfl, rfl⟩
  refine ⟨[jChunk bJ (j.at bD g) ++ chG], Drop.flat (by simp), ?_, rfl, rfl⟩
  obtain ⟨lay, s, t, u, h, ep, nx, sy, gs, br⟩ := j
  cases gs <;> rfl
theorem jk_Groups {bJ bD : Nat} {j : JSt} {ch : List Blk} (hJ0 : Jk bJ bD j ch) (hj : j.Wf) (I : Imm) :
    Tri Try.prog 22 #[.pointer (some ⟨bJ, 0, none⟩)] I [ch] fun v J S' => ∃ a cap chQ, v = .slice a j.groups.length cap ∧ OwnC chQ 1 a j.groups.length cap (ints (j.groups.map Prod.fst)) ∧ I = J ∧ S' = [ch, chQ] := by
  obtain ⟨g, chG, rfl, hG⟩ := hJ0
  have hgl : j.groups.length = g.len := by have := hG.n; rw [gCells_length] at this; omega
  refine Tri.abs (S2 := [jChunk bJ (j.at bD g), chG]) (by simp) (jr_Groups bJ (j.at bD g) chG j.groups (by show g.len ≤ _; have := hj.few; omega) hG I) ?_
  rintro v J S' hJ ⟨a, cap, chQ, rfl, h1, rfl, rfl⟩
  rw [hgl]
  exact ⟨[jChunk bJ (j.at bD g) ++ chG, chQ], Drop.flat (by simp), a, cap, chQ, rfl, h1, rfl, rfl⟩
end Go.Proofs.Ytbpdbgcndfcilaa
namespace Go.Proofs.Ytbpdbgcndfcilaa
open Go.RowKit Go.Sl
set_option maxRecDepth 20000

def openJ (n : Nat) (epoch seq tail : Int) : JSt := ⟨layOf n, layL n, tail, 0, 0, epoch, seq, seq - 1, [], false⟩
def OpenOk (n : Nat) (x : Lay) (epoch seq tail : Int) : Prop := x = layOf n ∧ 1 ≤ epoch ∧ epoch ≤ 8388608 ∧ 1 ≤ seq ∧ seq ≤ 549755813888 ∧ 0 ≤ tail ∧ tail < layL n
theorem jk_Open {I : Imm} {bD : Nat} {st : DSt} {ch : List Blk} (h : Dk I bD st ch) (n : Nat) (hn : st.now.length = n) (hn2 : 64 ≤ n) (x : Lay) (epoch seq tail : Int) (hseq : In64 seq) :
    Tri Try.prog 30 #[.pointer (some ⟨bD, 0, none⟩), x.v, .int .i64 epoch, .int .i64 seq, .int .i64 tail] I [ch] fun v J S' =>
      (¬ OpenOk n x epoch seq tail ∧ v = .tuple #[.pointer none, .int .i64 2] ∧ I = J ∧ S' = [ch]) ∨
      (OpenOk n x epoch seq tail ∧ I = J ∧ ∃ bJ chJ, v = .tuple #[.pointer (some ⟨bJ, 0, none⟩), .int .i64 0] ∧ Jk bJ bD (openJ n epoch seq tail) chJ ∧ S' = [ch, chJ]) := by
  obtain ⟨hw, d, chS, chN, chW, bS, bN, bW, rfl, hD, q1, q2, q3, q4, q5, q6, q7⟩ := h
  have hl := hD.hN.len1
  have hl' : st.now.length = d.now.len := by rw [← q2]; simpa using hl
  have hr := hw.range
  refine Tri.abs (S2 := [dChunk bD d, chS ++ (chN ++ chW)]) (by simp) (Tri.frameX (jr_Open bD d n (by omega) (by omega) x epoch seq tail hseq I) [0] rfl rfl (K := fun v J S' => (¬ OpenOk n x epoch seq tail ∧ v = .tuple #[.pointer none, .int .i64 2] ∧ I = J ∧ Drop S' [dChunk bD d ++ (chS ++ (chN ++ chW))]) ∨
      (OpenOk n x epoch seq tail ∧ I = J ∧ ∃ bJ chJ, v = .tuple #[.pointer (some ⟨bJ, 0, none⟩), .int .i64 0] ∧ Jk bJ bD (openJ n epoch seq tail) chJ ∧ Drop S' [dChunk bD d ++ (chS ++ (chN ++ chW)), chJ])) ?_) ?_
  · rintro v J S' hJ (⟨c, rfl, rfl, rfl⟩ | ⟨c1, c2, c3, c4, c5, c6, c7, rfl, bJ, rfl, rfl⟩)
    · exact .inl ⟨c, rfl, rfl, (Drop.pick [2, 1] _ rfl).trans (Drop.flat (by simp [St.at]))⟩
    · refine .inr ⟨⟨c1, c2, c3, c4, c5, c6, c7⟩, rfl, bJ, _, rfl, ⟨⟨none, 0, 0⟩, [], ?_, OwnC.nil _ _⟩, (Drop.pick [2, 1, 3] _ rfl).trans (Drop.flat (by simp [St.at]; rfl))⟩
      rw [List.append_nil, c1]; rfl
  · rintro v J S' hJ (⟨c, rfl, rfl, hd⟩ | ⟨c, rfl, bJ, chJ, rfl, hj, hd⟩)
    · exact ⟨_, hd, .inl ⟨c, rfl, rfl, rfl⟩⟩
    · exact ⟨_, hd, .inr ⟨c, rfl, bJ, chJ, rfl, hj, rfl⟩⟩
theorem layL_64' : layL ((64 : Nat) : Int) = 16 := by decide
theorem openJ_wf (n : Nat) (hn : 64 ≤ n ∧ n ≤ 512) {epoch seq tail : Int} (h : OpenOk n (layOf n) epoch seq tail) : (openJ n epoch seq tail).Wf := by
  obtain ⟨_, h1, h2, h3, h4, h5, h6⟩ := h
  have := layL_range (n := (n : Int)) (by omega)
  refine ⟨rfl, ?_, ?_, ?_, ?_, by simp [openJ], by simp [openJ]⟩
  · unfold Ok; show 1 ≤ layL n ∧ layL n ≤ 512 ∧ 0 ≤ tail ∧ tail < layL n ∧ (0 : Int) ≤ 0 ∧ (0 : Int) ≤ 0 ∧ (0 : Int) + 0 ≤ layL n; omega
  · show In64 epoch; unfold In64; omega
  · show 1 ≤ seq ∧ seq ≤ 549755813889; omega
  · show 0 ≤ seq - 1 ∧ seq - 1 < seq; omega
theorem law_open (tail : Int) (ht : 0 ≤ tail ∧ tail < 16) (I : Imm) :
    Tri Try.prog 26 #[.int .i64 tail] I [] fun v J S' => ∃ bD bJ chD chJ, v = .tuple #[.pointer (some ⟨bD, 0, none⟩), .pointer (some ⟨bJ, 0, none⟩), .bool true] ∧ Dk J bD (DSt.of (List.replicate 64 noughts)) chD ∧ Jk bJ bD (openJ 64 1 1 tail) chJ ∧ S' = [chD, chJ] := by
  refine Tri.drop ?_ (fun _ _ _ _ h => h)
  refine Tri.of (args := [.int .i64 tail]) tabOk Try.func26 rfl (by kernel_rfl) (by kernel_rfl) ?_
  refine Tri.frameX (dk_New I 64 (by omega)) [] rfl rfl ?_
  rintro v J A' hJ ⟨bD, chD, rfl, hD, rfl⟩
  refine Tri.free (ref_Of ((64 : Nat) : Int) J) ?_
  rintro v J2 _ hJ2 ⟨rfl, rfl⟩
  rw [layA, if_neg (by omega)]
  conv => whnf
  intro b7
  repeat (first
    | refine LoadD.own 0 rfl _ rfl rfl ?_
    | refine LoadD.own 1 rfl _ rfl rfl ?_
    | refine LoadD.own 2 rfl _ rfl rfl ?_
    | refine LoadP.at 0 rfl _ rfl rfl ?_
    | refine LoadP.at 1 rfl _ rfl rfl ?_
    | refine LoadP.at 2 rfl _ rfl rfl ?_
    | refine StoreD.st 0 rfl rfl rfl ?_
    | refine StoreD.st 1 rfl rfl rfl ?_
    | refine StoreD.st 2 rfl rfl rfl ?_
    | refine CmpD.yes rfl ?_
    | refine CmpD.yes (by decide) ?_
    | refine CmpD.no (by decide) ?_
    | refine Chk.mk ⟨rfl, trivial⟩ ?_
    | refine Chk.mk ⟨rfl, rfl, trivial⟩ ?_
    | refine Chk.mk ⟨rfl, rfl, rfl, trivial⟩ ?_
    | refine Chk.mk ⟨rfl, rfl, rfl, rfl, trivial⟩ ?_
    | refine Chk.mk ⟨rfl, rfl, rfl, rfl, rfl, trivial⟩ ?_
    | refine Chk.mk ⟨rfl, rfl, rfl, rfl, rfl, rfl, trivial⟩ ?_)
  refine Tri.frameX (jk_Open hD 64 (List.length_replicate ..) (by omega) (layOf ((64 : Nat) : Int)) 1 1 tail (by unfold In64; omega)) [0] rfl rfl ?_
  rintro v J3 A' hJ3 (⟨h, _⟩ | ⟨_, rfl, bJ, chJ, rfl, hj, rfl⟩)
  · exact absurd ⟨rfl, by omega, by omega, by omega, by omega, by omega, by rw [layL_64']; omega⟩ h
  repeat (first
    | refine LoadD.own 0 rfl _ rfl rfl ?_
    | refine LoadD.own 1 rfl _ rfl rfl ?_
    | refine LoadD.own 2 rfl _ rfl rfl ?_
    | refine LoadP.at 0 rfl _ rfl rfl ?_
    | refine LoadP.at 1 rfl _ rfl rfl ?_
    | refine LoadP.at 2 rfl _ rfl rfl ?_
    | refine StoreD.st 0 rfl rfl rfl ?_
    | refine StoreD.st 1 rfl rfl rfl ?_
    | refine StoreD.st 2 rfl rfl rfl ?_
    | refine CmpD.yes rfl ?_
    | refine CmpD.yes (by decide) ?_
    | refine CmpD.no (by decide) ?_
    | refine Chk.mk ⟨rfl, trivial⟩ ?_
    | refine Chk.mk ⟨rfl, rfl, trivial⟩ ?_
    | refine Chk.mk ⟨rfl, rfl, rfl, trivial⟩ ?_
    | refine Chk.mk ⟨rfl, rfl, rfl, rfl, trivial⟩ ?_
    | refine Chk.mk ⟨rfl, rfl, rfl, rfl, rfl, trivial⟩ ?_
    | refine Chk.mk ⟨rfl, rfl, rfl, rfl, rfl, rfl, trivial⟩ ?_)
  exact Done.mk ⟨[chD, chJ], Drop.pick [2, 3] _ rfl, bD, bJ, chD, chJ, rfl, hD, hj, rfl⟩

/-! ### where nothing fails -/
def DSt.Calm (d : DSt) : Prop := d.down = false ∧ d.arm.on = false ∧ d.fault.on = false
theorem DSt.stop_calm {d : DSt} (h : d.Calm) : d.stop = (d, 0) := by
  obtain ⟨safe, now, ws, c, dn, ⟨a1, a2⟩, ⟨f1, f2⟩⟩ := d
  obtain ⟨h1, h2, h3⟩ := h
  simp only at h1 h2 h3
  subst h1 h2 h3
  rfl
def DSt.put (d : DSt) (n : Int) (b : Dat) : DSt := { d with now := d.now.set n.toNat b, writes := d.writes ++ [(n, b)], count := d.count + 1 }
theorem DSt.write_calm {d : DSt} (h : d.Calm) {n : Int} {b : Dat} (hn : 0 ≤ n ∧ n < d.now.length) (hb : b.length = 4096) : d.write n b = (d.put n b, 0) := by
  unfold DSt.write
  have hw : wrongE d.now.length n = 0 := (wrongE_dec _ (by omega) n).2 hn
  rw [if_neg (by omega), if_neg (by omega), DSt.stop_calm h, if_neg (by simp)]
  rfl
theorem DSt.Calm.put {d : DSt} (h : d.Calm) (n : Int) (b : Dat) : (d.put n b).Calm := h
theorem DSt.put_len (d : DSt) (n : Int) (b : Dat) : (d.put n b).now.length = d.now.length := by simp [DSt.put]
def wrD (f : Nat → Int) : List Dat → Nat → DSt → DSt
  | [], _, d => d
  | b :: bs, i, d => wrD f bs (i + 1) (d.put (f i) b)
theorem wrAll_calm (f : Nat → Int) : ∀ (bs : List Dat) (i : Nat) (d : DSt), d.Calm → (∀ b ∈ bs, b.length = 4096) → (∀ k, 0 ≤ f k ∧ f k < d.now.length) → wrAll f bs i d = (wrD f bs i d, 0)
  | [], _, _, _, _, _ => rfl
  | b :: bs, i, d, hc, hb, hf => by
    rw [wrAll, DSt.write_calm hc (hf i) (hb b (by simp)), if_neg (by simp), wrD]
    exact wrAll_calm f bs (i + 1) _ (hc.put _ _) (fun x hx => hb x (by simp [hx])) (by rw [DSt.put_len]; exact hf)
theorem wrD_calm (f : Nat → Int) : ∀ (bs : List Dat) (i : Nat) (d : DSt), d.Calm → (wrD f bs i d).Calm
  | [], _, _, h => h
  | _ :: bs, i, _, h => wrD_calm f bs (i + 1) _ (h.put _ _)
theorem wrD_len (f : Nat → Int) : ∀ (bs : List Dat) (i : Nat) (d : DSt), (wrD f bs i d).now.length = d.now.length
  | [], _, _ => rfl
  | b :: bs, i, d => by rw [wrD, wrD_len f bs, DSt.put_len]
theorem wrD_writes (f : Nat → Int) : ∀ (bs : List Dat) (i : Nat) (d : DSt), (wrD f bs i d).writes.map Prod.fst = d.writes.map Prod.fst ++ (List.range bs.length).map fun k => f (i + k)
  | [], _, _ => by simp [wrD]
  | b :: bs, i, d => by
    rw [wrD, wrD_writes f bs]
    simp only [DSt.put, List.map_append, List.map_cons, List.map_nil, List.append_assoc, List.length_cons, List.range_succ_eq_map, List.map_map, List.singleton_append, Nat.add_zero]
    congr 2
    apply List.map_congr_left
    intro k _
    show f (i + 1 + k) = f (i + (k + 1))
    congr 1; omega
theorem wrD_few (f : Nat → Int) : ∀ (bs : List Dat) (i : Nat) (d : DSt) (k : Nat), d.Few k → (wrD f bs i d).Few (k + bs.length)
  | [], _, _, _, h => h
  | b :: bs, i, d, k, h => by
    have : (d.put (f i) b).Few (k + 1) := by
      obtain ⟨h1, h2, h3⟩ := h
      exact ⟨by show (d.writes ++ [_]).length ≤ _; simp; omega, by show 0 ≤ d.count + 1; omega, by show d.count + 1 ≤ _; omega⟩
    have := wrD_few f bs (i + 1) _ _ this
    rw [wrD, List.length_cons]
    exact this.mono (by omega)
theorem sprK_length {m l : List UInt8} (hm : m.length = 8) : ∀ k, k * 504 ≤ l.length → (sprK m l k).length = 512 * k
  | 0, _ => by rw [sprK_zero]; rfl
  | k + 1, h => by
    rw [sprK_succ, List.length_append, List.length_append, sprK_length hm k (by omega), List.length_take, List.length_drop, hm]
    omega
theorem hidP_length : ∀ (l : List PImg), (∀ g ∈ l, g.2.length = 4096) → (hidP l).length = 66 * l.length
  | [], _ => rfl
  | g :: l, h => by
    have e : hidP (g :: l) = be g.1.toNat 2 ++ hidK g.2 8 ++ hidP l := by simp [hidP]
    have := h g (by simp)
    rw [e, List.length_append, List.length_append, be_length, hidK_length _ _ (by omega) (by omega), hidP_length l (fun x hx => h x (by simp [hx])), List.length_cons]
    omega
theorem putP_len {e s : Nat} {l : List PImg} (hl : l.length ≤ 32) (h : ∀ g ∈ l, g.2.length = 4096) : ∀ b ∈ putP e s l, b.length = 4096 := by
  have hlist : (listP l).length = 4026 := by
    rw [listP, List.length_append, hidP_length l h, List.length_replicate]; omega
  have hhead : (headP l).length = 4032 := by rw [headP, List.length_append, List.length_append, be_length, be_length, hlist]
  intro b hb
  rcases List.mem_cons.1 hb with rfl | hb
  · rw [sprK_length (stampB_length _ _) 8 (by omega)]
  · obtain ⟨g, hg, rfl⟩ := List.mem_map.1 hb
    have := h g hg
    rw [markK_length (stampB_length _ _) 8 (by omega) (by omega)]; exact this
/-- a group that fits is appended -/
theorem JSt.append_calm {j : JSt} {d : DSt} {l : List PImg} {held : Bool} (hb : j.broken = false) (hR : RightP j.epoch j.next l) (hs : (l.length : Int) + 1 ≤ j.s) (hlog : j.lay.l = 2) (hd : d.Calm) (hlen : j.s + 2 ≤ d.now.length)
    {t u h at_ : Int} (hp : putS j.s j.t j.u j.h (l.length + 1) (if held then l.length + 1 else 0) = ((j.s, t, u, h, 0), at_)) :
    j.appendB d l held = ({ j with t := t, u := u, h := h, groups := j.groups ++ [(j.next, (l.length + 1 : Int))], next := j.next + 1 }, wrD (fun i => 2 + (at_ + i) % j.s) (putP j.epoch.toNat j.next.toNat l) 0 d, j.next, 0) := by
  unfold JSt.appendB JSt.append
  rw [if_neg (by simp [hb]), if_neg (by simpa using hR), if_neg (by omega), hp]
  dsimp only
  rw [if_neg (by simp), hlog, wrAll_calm _ _ _ _ hd (putP_len hR.2.2.2.2.2.1 fun g hg => (hR.2.2.2.2.2.2.1 g hg).2.2)]
  · dsimp only
    rw [if_neg (by simp)]
  · intro k
    have := Int.emod_nonneg (at_ + k) (b := j.s) (by omega)
    have := Int.emod_lt_of_pos (at_ + k) (b := j.s) (by omega)
    omega
theorem right_row {e s : Int} (h1 : 1 ≤ e ∧ e ≤ 8388608) (h2 : 1 ≤ s ∧ s ≤ 549755813888) (k : Nat) (hk : 1 ≤ k ∧ k ≤ 32) (n : Int) : RightP e s (imgsP (rowL k) n 0) := by
  have hl : (rowL k).length = k := by simp [rowL]
  refine ⟨h1.1, h1.2, h2.1, h2.2, by rw [imgsP_length, hl]; omega, by rw [imgsP_length, hl]; omega, ?_, ?_⟩
  · intro g hg
    have h3 := imgsP_snd _ _ _ g hg
    have h4 : g.1 ∈ rowL k := by rw [← imgsP_fst (rowL k) n 0]; exact List.mem_map_of_mem hg
    unfold rowL at h4
    obtain ⟨i, hi, he⟩ := List.mem_map.1 h4
    have := List.mem_range.1 hi
    exact ⟨by omega, by omega, h3⟩
  · rw [imgsP_fst]
    unfold rowL
    rw [List.nodup_iff_pairwise_ne, List.pairwise_map]
    refine List.Pairwise.imp ?_ List.nodup_range
    intro a b hab he
    exact hab (by omega)
/-! ### images, fixed -/
theorem Rds.of_ownS {ch : List Blk} {a : Option Addr} {len cap size : Nat} {vs : List Value} (h : OwnC ch size a len cap vs) {J : Imm} (hJ : ∀ x ∈ ch, J x.1 = some x.2) : Rds J a (len * size) vs := by
  refine ⟨h.n, ?_⟩
  rcases h.at' with h0 | ⟨b, pre, post, T, ha, hc, hp⟩
  · left; have := h.le; rw [show len = 0 by omega]; simp
  · right
    refine ⟨b, _, _, T, (0, 0), ha, hJ (b, _) (by rw [hc]; exact List.mem_singleton.2 rfl), ?_⟩
    have := own_take pre vs post
    rw [h.n] at this
    exact this
theorem images_fix (aL : Option Addr) (capL : Nat) (z : List Int) (hz : z.length ≤ 40) (hz2 : ∀ x ∈ z, In64 x) (k : Int) (hk : In64 k) (I : Imm) (hL : Rds I aL z.length (ints z)) :
    Tri Try.prog 27 #[.slice aL z.length capL, .int .i64 k] I [] fun v J _ => ∃ a cap gs, v = .slice a gs.length cap ∧ ImgsOk J a gs ∧ gs.map Img.pr = imgsP z k 0 := by
  refine Tri.fixed (images_of aL capL z hz hz2 k hk I hL) ?_
  rintro v J S' hJ ⟨a, cap, ch, gs, rfl, hown, hgs, hok, rfl⟩
  have hl : gs.length = z.length := by have := congrArg List.length hgs; rw [List.length_map, imgsP_length] at this; exact this
  refine ⟨0, ch, rfl, fun J' hJ' hm => ⟨a, cap, gs, by rw [hl], ⟨?_, fun g hg => (hok g hg).1.mono hJ'⟩, hgs⟩⟩
  rw [hl]
  exact Rds.of_ownS hown hm
theorem rowL_in (n : Nat) (hn : n ≤ 1000) : ∀ x ∈ rowL n, In64 x := by
  intro x hx
  unfold rowL at hx
  obtain ⟨i, hi, rfl⟩ := List.mem_map.1 hx
  have := List.mem_range.1 hi
  unfold In64; omega
theorem rowL_length (n : Nat) : (rowL n).length = n := by simp [rowL]
end Go.Proofs.Ytbpdbgcndfcilaa
namespace Go.Proofs.Ytbpdbgcndfcilaa
open Go.RowKit Go.Sl
set_option maxRecDepth 20000

theorem openJ_wf64 (tail : Int) (ht : 0 ≤ tail ∧ tail < 16) : (openJ 64 1 1 tail).Wf := openJ_wf 64 (by omega) ⟨rfl, by omega, by omega, by omega, by omega, ht.1, by rw [layL_64']; exact ht.2⟩
theorem fresh_calm (l : List Dat) : (DSt.of l).Calm := ⟨rfl, rfl, rfl⟩
theorem JSt.Wf.append {j : JSt} (hj : j.Wf) {d : DSt} {l : List PImg} {held : Bool} (h8 : j.groups.length ≤ 999999) : (j.appendB d l held).1.Wf := by
  have hr := hj.ring
  unfold JSt.appendB JSt.append
  split
  · exact hj
  split
  · exact hj
  rename_i hR
  have hR : RightP j.epoch j.next l := Decidable.of_not_not hR
  split
  · exact hj
  generalize hp : putS j.s j.t j.u j.h (l.length + 1) (if held then l.length + 1 else 0) = q
  obtain ⟨⟨s, t, u, h, e⟩, at_⟩ := q
  dsimp only
  split
  · exact hj
  rename_i he
  have he : e = 0 := Decidable.of_not_not he
  obtain ⟨e1, e2, h3, _, _⟩ := putS_mid hr hp he
  have hn := hj.next
  have hs := hj.synced
  have hl := hR.2.2.2.2.2.1
  have hs2 := hR.2.2.2.1
  generalize wrAll (fun i => j.lay.l + (at_ + i) % s) (putP j.epoch.toNat j.next.toNat l) 0 d = q
  obtain ⟨d', e'⟩ := q
  dsimp only
  split
  · exact ⟨hj.log, h3, hj.epoch, hj.next, hj.synced, hj.few, hj.groups⟩
  · refine ⟨hj.log, h3, hj.epoch, ?_, ?_, ?_, ?_⟩
    · show 1 ≤ j.next + 1 ∧ j.next + 1 ≤ _; omega
    · show 0 ≤ j.synced ∧ j.synced < j.next + 1; omega
    · show (j.groups ++ [_]).length ≤ _; simp; omega
    · intro g hg
      rcases List.mem_append.1 hg with hg | hg
      · exact hj.groups g hg
      · simp only [List.mem_singleton] at hg
        subst hg
        unfold In64; dsimp only; omega
theorem JSt.Wf.flush {j : JSt} (hj : j.Wf) (d : DSt) : (j.flush d).1.Wf := by
  have hn := hj.next
  unfold JSt.flush
  split
  · exact hj
  split
  · exact ⟨hj.log, hj.ring, hj.epoch, hj.next, hj.synced, hj.few, hj.groups⟩
  · refine ⟨hj.log, hj.ring, hj.epoch, hj.next, ?_, hj.few, hj.groups⟩
    show 0 ≤ j.next - 1 ∧ j.next - 1 < j.next; omega
theorem relAll_mid (seq : Int) : ∀ (gs : List (Int × Int)) (s t u h : Int) (gs' : List (Int × Int)) (s' t' u' h' e : Int), Ok s t u h → relAll seq gs s t u h = (gs', (s', t', u', h', e)) → Ok s' t' u' h' ∧ ∃ k, gs' = gs.drop k
  | [], s, t, u, h, _, _, _, _, _, _, hr, he => by
    rw [relAll] at he
    simp only [Prod.mk.injEq] at he
    obtain ⟨rfl, rfl, rfl, rfl, rfl, rfl⟩ := he
    exact ⟨hr, 0, rfl⟩
  | g :: gs, s, t, u, h, gs', s', t', u', h', e, hr, he => by
    rw [relAll] at he
    split at he
    · generalize hd : dropS s t u h g.2 = q at he
      obtain ⟨s1, t1, u1, h1, e1⟩ := q
      dsimp only at he
      split at he
      · rename_i h0
        obtain ⟨h2, k, hk⟩ := relAll_mid seq gs s1 t1 u1 h1 gs' s' t' u' h' e (dropS_mid hr hd h0) he
        exact ⟨h2, k + 1, hk⟩
      · simp only [Prod.mk.injEq] at he
        obtain ⟨rfl, rfl, rfl, rfl, rfl, rfl⟩ := he
        exact ⟨hr, 0, rfl⟩
    · simp only [Prod.mk.injEq] at he
      obtain ⟨rfl, rfl, rfl, rfl, rfl, rfl⟩ := he
      exact ⟨hr, 0, rfl⟩
theorem JSt.Wf.release {j : JSt} (hj : j.Wf) (seq : Int) : (j.release seq).1.Wf := by
  unfold JSt.release
  split
  · exact hj
  split
  · exact hj
  generalize hq : relAll seq j.groups j.s j.t j.u j.h = q
  obtain ⟨gs, s, t, u, h, e⟩ := q
  obtain ⟨h1, k, rfl⟩ := relAll_mid seq _ _ _ _ _ _ _ _ _ _ _ hj.ring hq
  exact ⟨hj.log, h1, hj.epoch, hj.next, hj.synced, by show (j.groups.drop k).length ≤ _; rw [List.length_drop]; have := hj.few; omega, fun g hg => hj.groups g (List.mem_of_mem_drop hg)⟩
/-- a group that fits is appended: what the journal is then -/
theorem JSt.append_next {j : JSt} (hj : j.Wf) (h8 : j.groups.length ≤ 999999) {d : DSt} {l : List PImg} {held : Bool} (hb : j.broken = false) (hR : RightP j.epoch j.next l) (hs : (l.length : Int) + 1 ≤ j.s) (hd : d.Calm) (hlen : j.s + 2 ≤ d.now.length)
    {t u h at_ : Int} (hp : putS j.s j.t j.u j.h (l.length + 1) (if held then l.length + 1 else 0) = ((j.s, t, u, h, 0), at_)) :
    ∃ j', j.appendB d l held = (j', wrD (fun i => 2 + (at_ + i) % j.s) (putP j.epoch.toNat j.next.toNat l) 0 d, j.next, 0) ∧ j'.lay = j.lay ∧ j'.s = j.s ∧ j'.t = t ∧ j'.u = u ∧ j'.h = h ∧ j'.epoch = j.epoch ∧ j'.next = j.next + 1 ∧ j'.synced = j.synced ∧ j'.groups = j.groups ++ [(j.next, (l.length + 1 : Int))] ∧ j'.broken = false ∧ j'.Wf := by
  have e := JSt.append_calm hb hR hs hj.log hd hlen hp
  have w := hj.append (d := d) (l := l) (held := held) h8
  rw [e] at w
  exact ⟨_, e, rfl, rfl, rfl, rfl, rfl, rfl, rfl, rfl, rfl, hb, w⟩
theorem JSt.flush_next {j : JSt} (hj : j.Wf) {d : DSt} (hb : j.broken = false) (hd : d.Calm) :
    ∃ j', j.flush d = (j', { d with safe := d.now, writes := [] }, 0) ∧ j'.lay = j.lay ∧ j'.s = j.s ∧ j'.t = j.t ∧ j'.u = j.u ∧ j'.h = j.h ∧ j'.epoch = j.epoch ∧ j'.next = j.next ∧ j'.synced = j.next - 1 ∧ j'.groups = j.groups ∧ j'.broken = false ∧ j'.Wf := by
  have e : j.flush d = ({ j with synced := j.next - 1 }, { d with safe := d.now, writes := [] }, 0) := by
    unfold JSt.flush DSt.flush
    rw [if_neg (by rw [hb]; simp), DSt.stop_calm hd]
    simp
  have w := hj.flush d
  rw [e] at w
  exact ⟨_, e, rfl, rfl, rfl, rfl, rfl, rfl, rfl, rfl, rfl, hb, w⟩
theorem JSt.release_next {j : JSt} (hj : j.Wf) {seq : Int} (hb : j.broken = false) (hs : ¬ j.synced < seq) {gs : List (Int × Int)} {s t u h e : Int} (hr : relAll seq j.groups j.s j.t j.u j.h = (gs, (s, t, u, h, e))) :
    ∃ j', j.release seq = (j', e) ∧ j'.lay = j.lay ∧ j'.s = s ∧ j'.t = t ∧ j'.u = u ∧ j'.h = h ∧ j'.epoch = j.epoch ∧ j'.next = j.next ∧ j'.synced = j.synced ∧ j'.groups = gs ∧ j'.broken = false ∧ j'.Wf := by
  have e' : j.release seq = ({ j with s := s, t := t, u := u, h := h, groups := gs }, e) := by
    unfold JSt.release
    rw [if_neg (by rw [hb]; simp), if_neg hs, hr]
  have w := hj.release seq
  rw [e'] at w
  exact ⟨_, e', rfl, rfl, rfl, rfl, rfl, rfl, rfl, rfl, rfl, hb, w⟩
theorem putS_a : putS 16 14 0 0 (((imgsP (rowL 1) 1 0).length : Int) + 1) (if false = true then ((imgsP (rowL 1) 1 0).length : Int) + 1 else 0) = ((16, 14, 2, 0, 0), 14) := by rw [imgsP_length, rowL_length]; decide
theorem putS_b : putS 16 14 2 0 (((imgsP (rowL 2) 2 0).length : Int) + 1) (if false = true then ((imgsP (rowL 2) 2 0).length : Int) + 1 else 0) = ((16, 14, 5, 0, 0), 0) := by rw [imgsP_length, rowL_length]; decide
/-- what the example's calls come to -/
theorem awake_pure : ∃ (jA jB jF jR : JSt) (dA dB dF : DSt), (openJ 64 1 1 14).appendB (DSt.of (List.replicate 64 noughts)) (imgsP (rowL 1) 1 0) false = (jA, dA, 1, 0) ∧ jA.appendB dA (imgsP (rowL 2) 2 0) false = (jB, dB, 2, 0) ∧
    dB.writes.map Prod.fst = [16, 17, 2, 3, 4] ∧ jB.t = 14 ∧ firstOf jB.next jB.groups = 1 ∧ jB.flush dB = (jF, dF, 0) ∧ jF.release 1 = (jR, 0) ∧ jR.t = 0 ∧ firstOf jR.next jR.groups = 2 ∧ jR.groups = [(2, 3)] ∧
    (openJ 64 1 1 14).Wf ∧ jA.Wf ∧ jB.Wf ∧ jF.Wf ∧ jR.Wf ∧ dA.Few 2 ∧ dB.Few 5 ∧ jA.groups.length ≤ 5 := by
  have w0 : (openJ 64 1 1 14).Wf := openJ_wf64 14 (by omega)
  have c0 : (DSt.of (List.replicate 64 noughts)).Calm := fresh_calm _
  have f0 : (DSt.of (List.replicate 64 noughts)).Few 0 := DSt.of_few _
  have n0 : (DSt.of (List.replicate 64 noughts)).now.length = 64 := List.length_replicate ..
  have p0 : (DSt.of (List.replicate 64 noughts)).writes = [] := rfl
  generalize DSt.of (List.replicate 64 noughts) = d0 at *
  have hl1 : ((imgsP (rowL 1) 1 0).length : Int) + 1 = 2 := by rw [imgsP_length, rowL_length]; rfl
  have hl2 : ((imgsP (rowL 2) 2 0).length : Int) + 1 = 3 := by rw [imgsP_length, rowL_length]; rfl
  have ej : (openJ 64 1 1 14).s = 16 ∧ (openJ 64 1 1 14).t = 14 ∧ (openJ 64 1 1 14).u = 0 ∧ (openJ 64 1 1 14).h = 0 ∧ (openJ 64 1 1 14).epoch = 1 ∧ (openJ 64 1 1 14).next = 1 ∧ (openJ 64 1 1 14).groups = [] := ⟨layL_64', rfl, rfl, rfl, rfl, rfl, rfl⟩
  obtain ⟨i1, i2, i3, i4, i5, i6, i7⟩ := ej
  have hb0 : (openJ 64 1 1 14).broken = false := rfl
  generalize openJ 64 1 1 14 = j0 at *
  obtain ⟨jA, a1, e1, e2, e3, e4, e5, e6, e7, e8, e9, e10, w1⟩ := JSt.append_next w0 (d := d0) (l := imgsP (rowL 1) 1 0) (held := false) (t := 14) (u := 2) (h := 0) (at_ := 14) (by rw [i7]; decide) hb0 (by rw [i5, i6]; exact right_row ⟨by decide, by decide⟩ ⟨by decide, by decide⟩ 1 (by omega) 1) (by rw [hl1, i1]; decide) c0 (by rw [n0, i1]; decide) (by rw [i1, i2, i3, i4]; exact putS_a)
  rw [i1, i5, i6] at a1
  rw [i1] at e2
  rw [i5] at e6
  rw [i6] at e7
  rw [i6, i7, hl1] at e9
  have hn1 : (putP (1 : Int).toNat (1 : Int).toNat (imgsP (rowL 1) 1 0)).length = 2 := by rw [putP_length, imgsP_length, rowL_length]
  generalize putP (1 : Int).toNat (1 : Int).toNat (imgsP (rowL 1) 1 0) = P1 at *
  have cA : (wrD (fun i => 2 + (14 + (i : Int)) % 16) P1 0 d0).Calm := wrD_calm _ _ _ _ c0
  have nA : (wrD (fun i => 2 + (14 + (i : Int)) % 16) P1 0 d0).now.length = 64 := by rw [wrD_len, n0]
  have fA : (wrD (fun i => 2 + (14 + (i : Int)) % 16) P1 0 d0).Few 2 := (wrD_few _ P1 0 d0 0 f0).mono (by omega)
  have pA : (wrD (fun i => 2 + (14 + (i : Int)) % 16) P1 0 d0).writes.map Prod.fst = [16, 17] := by rw [wrD_writes, p0, hn1]; decide
  generalize wrD (fun i => 2 + (14 + (i : Int)) % 16) P1 0 d0 = dA at *
  obtain ⟨jB, a2, x1, x2, x3, x4, x5, x6, x7, x8, x9, x10, w2⟩ := JSt.append_next w1 (d := dA) (l := imgsP (rowL 2) 2 0) (held := false) (t := 14) (u := 5) (h := 0) (at_ := 0) (by rw [e9]; decide) e10 (by rw [e6, e7]; exact right_row ⟨by decide, by decide⟩ ⟨by decide, by decide⟩ 2 (by omega) 2) (by rw [hl2, e2]; decide) cA (by rw [nA, e2]; decide) (by rw [e2, e3, e4, e5]; exact putS_b)
  rw [e2, e6, e7] at a2
  rw [e2] at x2
  rw [e7] at x7
  rw [e7, e9, hl2] at x9
  have hn2 : (putP (1 : Int).toNat (1 + 1 : Int).toNat (imgsP (rowL 2) 2 0)).length = 3 := by rw [putP_length, imgsP_length, rowL_length]
  generalize putP (1 : Int).toNat (1 + 1 : Int).toNat (imgsP (rowL 2) 2 0) = P2 at *
  have cB : (wrD (fun i => 2 + (0 + (i : Int)) % 16) P2 0 dA).Calm := wrD_calm _ _ _ _ cA
  have fB : (wrD (fun i => 2 + (0 + (i : Int)) % 16) P2 0 dA).Few 5 := (wrD_few _ P2 0 dA 2 fA).mono (by omega)
  have pB : (wrD (fun i => 2 + (0 + (i : Int)) % 16) P2 0 dA).writes.map Prod.fst = [16, 17, 2, 3, 4] := by rw [wrD_writes, pA, hn2]; decide
  generalize wrD (fun i => 2 + (0 + (i : Int)) % 16) P2 0 dA = dB at *
  obtain ⟨jF, a3, y1, y2, y3, y4, y5, y6, y7, y8, y9, y10, w3⟩ := JSt.flush_next w2 x10 cB
  rw [x7] at y8
  obtain ⟨jR, a4, z1, z2, z3, z4, z5, z6, z7, z8, z9, z10, w4⟩ := JSt.release_next w3 (seq := 1) (gs := [(2, 3)]) (s := 16) (t := 0) (u := 3) (h := 0) (e := 0) y10 (by rw [y8]; decide) (by rw [y9, x9, y2, x2, y3, x3, y4, x4, y5, x5]; decide)
  exact ⟨jA, jB, jF, jR, dA, dB, _, a1, a2, pB, x3, by rw [x9]; rfl, a3, a4, z3, by rw [z9]; rfl, z9, w0, w1, w2, w3, w4, fA, fB, by rw [e9]; decide⟩
end Go.Proofs.Ytbpdbgcndfcilaa
namespace Go.Proofs.Ytbpdbgcndfcilaa
open Go.RowKit Go.Sl
set_option maxRecDepth 20000

theorem same_ints_at {I : Imm} {S : St} {a1 a2 : Option Addr} {n1 n2 cap1 cap2 : Nat} {z1 z2 : List Int} (h1 : SlC I S a1 n1 (ints z1)) (h2 : SlC I S a2 n2 (ints z2)) (hn : n1 ≤ 9223372036854775806) :
    Tri Try.prog 87 #[.slice a1 n1 cap1, .slice a2 n2 cap2] I S fun v J S' => ∃ b, v = .bool b ∧ (b = true ↔ z1 = z2) ∧ I = J ∧ S' = S := by
  refine Tri.pack ((same_ints _ I a1 a2 n1 n2 cap1 cap2 z1 z2 h1.pack h2.pack hn).mono ?_)
  rintro v J S' hJ ⟨b, rfl, h, rfl, rfl⟩
  exact ⟨[], rfl, b, rfl, h, rfl, by simp⟩
set_option maxHeartbeats 1000000 in
theorem awake08 (I : Imm) (S : St) : Tri Try.prog 25 #[] I S fun v _ _ => v = .bool true := by
  refine Tri.free (Q := fun v _ _ => v = .bool true) ?_ (fun v J _ _ h => h)
  obtain ⟨jA, jB, jF, jR, dA, dB, dF, a1, a2, pB, x3, x4, a3, a4, z3, z4, z5, w0, wA, wB, wF, wR, fA, fB, gA⟩ := awake_pure
  refine Tri.of (args := []) tabOk Try.func25 rfl (by kernel_rfl) (by kernel_rfl) ?_
  refine Tri.frameX (law_open 14 (by omega) I) [] rfl rfl ?_
  rintro v J A' hJ ⟨bD, bJ, chD, chJ, rfl, hD, hj, rfl⟩
  repeat (first
    | refine LoadD.own 0 rfl _ rfl rfl ?_
    | refine LoadD.own 1 rfl _ rfl rfl ?_
    | refine LoadD.own 2 rfl _ rfl rfl ?_
    | refine LoadD.own 3 rfl _ rfl rfl ?_
    | refine LoadD.own 4 rfl _ rfl rfl ?_
    | refine LoadD.own 5 rfl _ rfl rfl ?_
    | refine LoadP.at 0 rfl _ rfl rfl ?_
    | refine LoadP.at 1 rfl _ rfl rfl ?_
    | refine LoadP.at 2 rfl _ rfl rfl ?_
    | refine LoadP.at 3 rfl _ rfl rfl ?_
    | refine LoadP.at 4 rfl _ rfl rfl ?_
    | refine LoadP.at 5 rfl _ rfl rfl ?_
    | refine StoreD.st 0 rfl rfl rfl ?_
    | refine StoreD.st 1 rfl rfl rfl ?_
    | refine StoreD.st 2 rfl rfl rfl ?_
    | refine StoreD.st 3 rfl rfl rfl ?_
    | refine StoreD.st 4 rfl rfl rfl ?_
    | refine StoreD.st 5 rfl rfl rfl ?_
    | refine CmpD.yes rfl ?_
    | refine CmpD.yes (by decide) ?_
    | refine CmpD.no (by decide) ?_
    | refine Chk.mk ⟨rfl, trivial⟩ ?_
    | refine Chk.mk ⟨rfl, rfl, trivial⟩ ?_
    | refine Chk.mk ⟨rfl, rfl, rfl, trivial⟩ ?_
    | refine Chk.mk ⟨rfl, rfl, rfl, rfl, trivial⟩ ?_
    | refine Chk.mk ⟨rfl, rfl, rfl, rfl, rfl, trivial⟩ ?_
    | refine Chk.mk ⟨rfl, rfl, rfl, rfl, rfl, rfl, trivial⟩ ?_)
  refine Tri.free (row_of 1 (by omega) J) ?_
  rintro v J1 _ hJ1 ⟨aR, capR, rfl, hR⟩
  refine Tri.free (images_fix aR capR (rowL 1) (by rw [rowL_length]; omega) (rowL_in 1 (by omega)) 1 (by unfold In64; omega) J1 (by rw [rowL_length]; exact hR)) ?_
  rintro v J2 _ hJ2 ⟨aI, capI, gs, rfl, hI, hgs⟩
  have hgl : gs.length = 1 := by have := congrArg List.length hgs; rwa [List.length_map, imgsP_length, rowL_length] at this
  refine Tri.frame (jk_Append hj w0 (hD.mono (Imm.le_trans hJ1 hJ2)) ((DSt.of_few _).mono (by omega)) (by simp [openJ]) aI capI gs hI (by omega) false) [1, 0] rfl rfl ?_
  rw [hgs, a1]
  rintro v J3 A' hJ3 ⟨rfl, chJA, chDA, hjA, hDA, rfl⟩
  refine ⟨Nat.le_refl _, ?_⟩
  refine Tri.free (row_of 2 (by omega) J3) ?_
  rintro v J4 _ hJ4 ⟨aR2, capR2, rfl, hR2⟩
  refine Tri.free (images_fix aR2 capR2 (rowL 2) (by rw [rowL_length]; omega) (rowL_in 2 (by omega)) 2 (by unfold In64; omega) J4 (by rw [rowL_length]; exact hR2)) ?_
  rintro v J5 _ hJ5 ⟨aI2, capI2, gs2, rfl, hI2, hgs2⟩
  have hgl2 : gs2.length = 2 := by have := congrArg List.length hgs2; rwa [List.length_map, imgsP_length, rowL_length] at this
  refine Tri.frame (jk_Append hjA wA (hDA.mono (Imm.le_trans hJ4 hJ5)) (fA.mono (by omega)) (by dsimp only; omega) aI2 capI2 gs2 hI2 (by omega) false) [1, 0] rfl rfl ?_
  rw [hgs2, a2]
  rintro v J6 A' hJ6 ⟨rfl, chJB, chDB, hjB, hDB, rfl⟩
  refine ⟨Nat.le_refl _, ?_⟩
  refine Tri.frameX (dk_Pending hDB (fB.mono (by omega))) [0] rfl rfl ?_
  rintro v J7 A' hJ7 ⟨aP, capP, chP, rfl, hP, rfl, rfl⟩
  refine Tri.frame1 1 rfl (jk_Tail hjB J6) ?_
  rintro v J7 A' hJ7 ⟨rfl, rfl, rfl⟩
  refine ⟨_, rfl, ?_⟩
  refine Tri.frame (jk_Flush hjB wB hDB) [1, 2] rfl rfl ?_
  rw [a3]
  rintro v J8 A' hJ8 ⟨rfl, chJF, chDF, hjF, hDF, rfl⟩
  refine ⟨Nat.le_refl _, ?_⟩
  refine Tri.frame1 1 rfl (jk_Release hjF wF 1 J8) ?_
  rw [a4]
  rintro v J9 A' hJ9 ⟨rfl, rfl, chJR, hjR, rfl⟩
  refine ⟨_, rfl, ?_⟩
  refine Tri.frame1 1 rfl (jk_Tail hjR J8) ?_
  rintro v J9 A' hJ9 ⟨rfl, rfl, rfl⟩
  refine ⟨_, rfl, ?_⟩
  rw [x3, x4, z3, z4]
  rw [pB] at hP
  have hPl : dB.writes.length = 5 := by have := congrArg List.length pB; rwa [List.length_map] at this
  refine ToD.to 0 rfl ?_
  refine ToD.to 0 rfl ?_
  refine ToD.to 0 rfl ?_
  repeat (first
    | refine LoadD.own 0 rfl _ rfl rfl ?_
    | refine LoadD.own 1 rfl _ rfl rfl ?_
    | refine LoadD.own 2 rfl _ rfl rfl ?_
    | refine LoadD.own 3 rfl _ rfl rfl ?_
    | refine LoadD.own 4 rfl _ rfl rfl ?_
    | refine LoadD.own 5 rfl _ rfl rfl ?_
    | refine LoadP.at 0 rfl _ rfl rfl ?_
    | refine LoadP.at 1 rfl _ rfl rfl ?_
    | refine LoadP.at 2 rfl _ rfl rfl ?_
    | refine LoadP.at 3 rfl _ rfl rfl ?_
    | refine LoadP.at 4 rfl _ rfl rfl ?_
    | refine LoadP.at 5 rfl _ rfl rfl ?_
    | refine StoreD.st 0 rfl rfl rfl ?_
    | refine StoreD.st 1 rfl rfl rfl ?_
    | refine StoreD.st 2 rfl rfl rfl ?_
    | refine StoreD.st 3 rfl rfl rfl ?_
    | refine StoreD.st 4 rfl rfl rfl ?_
    | refine StoreD.st 5 rfl rfl rfl ?_
    | refine CmpD.yes rfl ?_
    | refine CmpD.yes (by decide) ?_
    | refine CmpD.no (by decide) ?_
    | refine Chk.mk ⟨rfl, trivial⟩ ?_
    | refine Chk.mk ⟨rfl, rfl, trivial⟩ ?_
    | refine Chk.mk ⟨rfl, rfl, rfl, trivial⟩ ?_
    | refine Chk.mk ⟨rfl, rfl, rfl, rfl, trivial⟩ ?_
    | refine Chk.mk ⟨rfl, rfl, rfl, rfl, rfl, trivial⟩ ?_
    | refine Chk.mk ⟨rfl, rfl, rfl, rfl, rfl, rfl, trivial⟩ ?_)
  conv => whnf
  intro b70
  refine Tri.nf (same_ints_at (z1 := [16, 17, 2, 3, 4]) (z2 := [16, 17, 2, 3, 4]) ?_ ?_ ?_) ?_
  · exact hP.slC1 3 rfl
  · exact (OwnC.whole (vs := ints [16, 17, 2, 3, 4]) (len := 5) (size := 1) rfl).slC 4 rfl
  · dsimp only; omega
  rintro v J9 S9 hJ9 ⟨b, rfl, hb, rfl, rfl⟩
  have hb : b = true := hb.2 rfl
  subst hb
  repeat (first
    | refine LoadD.own 0 rfl _ rfl rfl ?_
    | refine LoadD.own 1 rfl _ rfl rfl ?_
    | refine LoadD.own 2 rfl _ rfl rfl ?_
    | refine LoadD.own 3 rfl _ rfl rfl ?_
    | refine LoadD.own 4 rfl _ rfl rfl ?_
    | refine LoadD.own 5 rfl _ rfl rfl ?_
    | refine LoadP.at 0 rfl _ rfl rfl ?_
    | refine LoadP.at 1 rfl _ rfl rfl ?_
    | refine LoadP.at 2 rfl _ rfl rfl ?_
    | refine LoadP.at 3 rfl _ rfl rfl ?_
    | refine LoadP.at 4 rfl _ rfl rfl ?_
    | refine LoadP.at 5 rfl _ rfl rfl ?_
    | refine StoreD.st 0 rfl rfl rfl ?_
    | refine StoreD.st 1 rfl rfl rfl ?_
    | refine StoreD.st 2 rfl rfl rfl ?_
    | refine StoreD.st 3 rfl rfl rfl ?_
    | refine StoreD.st 4 rfl rfl rfl ?_
    | refine StoreD.st 5 rfl rfl rfl ?_
    | refine CmpD.yes rfl ?_
    | refine CmpD.yes (by decide) ?_
    | refine CmpD.no (by decide) ?_
    | refine Chk.mk ⟨rfl, trivial⟩ ?_
    | refine Chk.mk ⟨rfl, rfl, trivial⟩ ?_
    | refine Chk.mk ⟨rfl, rfl, rfl, trivial⟩ ?_
    | refine Chk.mk ⟨rfl, rfl, rfl, rfl, trivial⟩ ?_
    | refine Chk.mk ⟨rfl, rfl, rfl, rfl, rfl, trivial⟩ ?_
    | refine Chk.mk ⟨rfl, rfl, rfl, rfl, rfl, rfl, trivial⟩ ?_)
  refine Tri.frameX (jk_Groups hjR wR J8) [1] rfl rfl ?_
  rintro v J9 S9 hJ9 ⟨aG, capG, chG, rfl, hG, rfl, rfl⟩
  rw [z5] at hG
  rw [z5]
  conv => whnf
  intro b92
  refine Tri.nf (same_ints_at (z1 := [2]) (z2 := [2]) ?_ ?_ ?_) ?_
  · exact hG.slC1 6 rfl
  · exact (OwnC.whole (vs := ints [2]) (len := 1) (size := 1) rfl).slC 7 rfl
  · decide
  rintro v J9 S9 hJ9 ⟨b, rfl, hb, rfl, rfl⟩
  have hb : b = true := hb.2 rfl
  subst hb
  exact Done.mk rfl
end Go.Proofs.Ytbpdbgcndfcilaa
namespace Go.Proofs.Ytbpdbgcndfcilaa
open Go.RowKit Go.Sl
set_option maxRecDepth 20000

def blocksN (n : Int) : Int := if n < 1 ∨ 32 < n then 0 else n + 1
theorem record_Blocks (n : Int) (I : Imm) (S : St) : Tri Try.prog 80 #[.int .i64 n] I S fun v J S' => v = .int .i64 (blocksN n) ∧ I = J ∧ S' = S := by
  refine Tri.of (args := [.int .i64 n]) tabOk Try.func80 rfl (by kernel_rfl) (by kernel_rfl) ?_
  unfold blocksN
  refine CmpD.split (fun c1 => ?_) (fun c1 => ?_)
  · rw [if_pos (.inl c1)]; exact Done.mk ⟨rfl, rfl, rfl⟩
  refine CmpD.split (fun c2 => ?_) (fun c2 => ?_)
  · rw [if_pos (.inr c2)]; exact Done.mk ⟨rfl, rfl, rfl⟩
  rw [if_neg (by omega)]
  refine ToD.i64 (by omega) (by omega) ?_
  exact Done.mk ⟨rfl, rfl, rfl⟩
def JSt.turn (j : JSt) (r : R5) : JSt × Int := match r with
  | (s, t, u, h, e) => if e = 0 then ({ j with s := s, t := t, u := u, h := h }, 0) else (j, e)
def JSt.reserve (j : JSt) (n : Int) : JSt × Int := if j.broken then (j, 4) else if blocksN n = 0 then (j, 2) else if j.s < blocksN n then (j, 232) else j.turn (reserveS j.s j.t j.u j.h (blocksN n))
def JSt.cancel (j : JSt) (n : Int) : JSt × Int := if j.broken then (j, 4) else if blocksN n = 0 then (j, 2) else j.turn (releaseS j.s j.t j.u j.h (blocksN n))
theorem jk_Reserve1 (bn bx bJ bD : Nat) (n : Int) (j : JSt) (hj : j.Wf) (hb : j.broken = false) (g : Hd) (I : Imm) :
    Tri Try.prog 79 #[.pointer (some ⟨bn, 0, none⟩), .pointer (some ⟨bx, 0, none⟩)] I [pBox bn (.int .i64 n) 3, pBox bx (.pointer (some ⟨bJ, 0, none⟩)) 22, jChunk bJ (j.at bD g)] fun v J S' =>
      I = J ∧ v = .int .i64 (j.reserve n).2 ∧ S' = [jChunk bJ ((j.reserve n).1.at bD g)] := by
  have hr := hj.ring
  unfold Ok at hr
  unfold JSt.reserve
  rw [if_neg (by rw [hb]; simp)]
  refine Tri.drop ?_ (fun _ _ _ _ h => h)
  refine Tri.of (args := [.pointer (some ⟨bn, 0, none⟩), .pointer (some ⟨bx, 0, none⟩)]) tabOk Try.func79 rfl (by kernel_rfl) (by kernel_rfl) ?_
  repeat (first
    | refine LoadD.own 0 rfl _ rfl rfl ?_
    | refine LoadD.own 1 rfl _ rfl rfl ?_
    | refine LoadD.own 2 rfl _ rfl rfl ?_
    | refine LoadP.at 0 rfl _ rfl rfl ?_
    | refine LoadP.at 1 rfl _ rfl rfl ?_
    | refine LoadP.at 2 rfl _ rfl rfl ?_
    | refine StoreD.st 0 rfl rfl rfl ?_
    | refine StoreD.st 1 rfl rfl rfl ?_
    | refine StoreD.st 2 rfl rfl rfl ?_
    | refine CmpD.yes rfl ?_
    | refine CmpD.yes (by decide) ?_
    | refine CmpD.no (by decide) ?_
    | refine Chk.mk ⟨rfl, trivial⟩ ?_
    | refine Chk.mk ⟨rfl, rfl, trivial⟩ ?_
    | refine Chk.mk ⟨rfl, rfl, rfl, trivial⟩ ?_
    | refine Chk.mk ⟨rfl, rfl, rfl, rfl, trivial⟩ ?_
    | refine Chk.mk ⟨rfl, rfl, rfl, rfl, rfl, trivial⟩ ?_
    | refine Chk.mk ⟨rfl, rfl, rfl, rfl, rfl, rfl, trivial⟩ ?_)
  refine Tri.nf (record_Blocks n I _) ?_
  rintro _ _ _ _ ⟨rfl, rfl, rfl⟩
  have hbn : 0 ≤ blocksN n ∧ blocksN n ≤ 33 := by unfold blocksN; split <;> omega
  refine CmpD.split (fun c1 => ?_) (fun c1 => ?_)
  · rw [if_pos c1]
    exact Done.mk ⟨_, Drop.pick [2] _ rfl, rfl, rfl, rfl⟩
  rw [if_neg c1]
  repeat (first
    | refine LoadD.own 0 rfl _ rfl rfl ?_
    | refine LoadD.own 1 rfl _ rfl rfl ?_
    | refine LoadD.own 2 rfl _ rfl rfl ?_
    | refine LoadP.at 0 rfl _ rfl rfl ?_
    | refine LoadP.at 1 rfl _ rfl rfl ?_
    | refine LoadP.at 2 rfl _ rfl rfl ?_
    | refine StoreD.st 0 rfl rfl rfl ?_
    | refine StoreD.st 1 rfl rfl rfl ?_
    | refine StoreD.st 2 rfl rfl rfl ?_
    | refine CmpD.yes rfl ?_
    | refine CmpD.yes (by decide) ?_
    | refine CmpD.no (by decide) ?_
    | refine Chk.mk ⟨rfl, trivial⟩ ?_
    | refine Chk.mk ⟨rfl, rfl, trivial⟩ ?_
    | refine Chk.mk ⟨rfl, rfl, rfl, trivial⟩ ?_
    | refine Chk.mk ⟨rfl, rfl, rfl, rfl, trivial⟩ ?_
    | refine Chk.mk ⟨rfl, rfl, rfl, rfl, rfl, trivial⟩ ?_
    | refine Chk.mk ⟨rfl, rfl, rfl, rfl, rfl, rfl, trivial⟩ ?_)
  refine CmpD.split (fun c2 => ?_) (fun c2 => ?_)
  · rw [if_pos (by exact c2)]
    exact Done.mk ⟨_, Drop.pick [2] _ rfl, rfl, rfl, rfl⟩
  rw [if_neg (by exact c2)]
  refine CodeF.sched [[], [], [1], [1, 2], [1, 2, 3], [], [1, 2, 3, 4, 5], [1, 2, 3, 4, 5, 6], [1, 2, 3, 4, 5, 6], [0, 1, 2, 3, 4, 5, 6, 7, 8], [0, 1, 2, 3, 4, 5, 6, 7, 8, 9]] [0, 1, 2, 3, 4, 5, 6, 7, 8, 9, 10] (by kernel_rfl) ?_
  repeat (first
    | refine LoadD.own 0 rfl _ rfl rfl ?_
    | refine LoadD.own 1 rfl _ rfl rfl ?_
    | refine LoadD.own 2 rfl _ rfl rfl ?_
    | refine LoadP.at 0 rfl _ rfl rfl ?_
    | refine LoadP.at 1 rfl _ rfl rfl ?_
    | refine LoadP.at 2 rfl _ rfl rfl ?_
    | refine StoreD.st 0 rfl rfl rfl ?_
    | refine StoreD.st 1 rfl rfl rfl ?_
    | refine StoreD.st 2 rfl rfl rfl ?_
    | refine CmpD.yes rfl ?_
    | refine CmpD.yes (by decide) ?_
    | refine CmpD.no (by decide) ?_
    | refine Chk.mk ⟨rfl, trivial⟩ ?_
    | refine Chk.mk ⟨rfl, rfl, trivial⟩ ?_
    | refine Chk.mk ⟨rfl, rfl, rfl, trivial⟩ ?_
    | refine Chk.mk ⟨rfl, rfl, rfl, rfl, trivial⟩ ?_
    | refine Chk.mk ⟨rfl, rfl, rfl, rfl, rfl, trivial⟩ ?_
    | refine Chk.mk ⟨rfl, rfl, rfl, rfl, rfl, rfl, trivial⟩ ?_)
  refine Tri.free (ring_Reserve j.s j.t j.u j.h (blocksN n) I (by unfold In64; omega) (by unfold In64; omega) (by unfold In64; omega) (by unfold In64; omega) (by unfold In64; omega)) ?_
  rintro v J2 _ hJ2 ⟨⟨s', t', u', h', e', rfl, hd⟩, rfl⟩
  rw [hd]
  repeat (first
    | refine LoadD.own 0 rfl _ rfl rfl ?_
    | refine LoadD.own 1 rfl _ rfl rfl ?_
    | refine LoadD.own 2 rfl _ rfl rfl ?_
    | refine LoadP.at 0 rfl _ rfl rfl ?_
    | refine LoadP.at 1 rfl _ rfl rfl ?_
    | refine LoadP.at 2 rfl _ rfl rfl ?_
    | refine StoreD.st 0 rfl rfl rfl ?_
    | refine StoreD.st 1 rfl rfl rfl ?_
    | refine StoreD.st 2 rfl rfl rfl ?_
    | refine CmpD.yes rfl ?_
    | refine CmpD.yes (by decide) ?_
    | refine CmpD.no (by decide) ?_
    | refine Chk.mk ⟨rfl, trivial⟩ ?_
    | refine Chk.mk ⟨rfl, rfl, trivial⟩ ?_
    | refine Chk.mk ⟨rfl, rfl, rfl, trivial⟩ ?_
    | refine Chk.mk ⟨rfl, rfl, rfl, rfl, trivial⟩ ?_
    | refine Chk.mk ⟨rfl, rfl, rfl, rfl, rfl, trivial⟩ ?_
    | refine Chk.mk ⟨rfl, rfl, rfl, rfl, rfl, rfl, trivial⟩ ?_)
  refine Tri.frame1 2 rfl (jr_turned bJ (j.at bD g) s' t' u' h' e' I) ?_
  rintro v J3 S' hJ3 ⟨rfl, rfl, rfl⟩
  refine ⟨_, rfl, ?_⟩
  refine Done.mk ⟨_, Drop.pick [2] _ rfl, rfl, ?_, ?_⟩
  · show _ = Value.int .i64 (JSt.turn j (s', t', u', h', e')).2
    unfold JSt.turn; dsimp only; split
    · rename_i h; rw [h]; rfl
    · rfl
  · show [jChunk bJ _] = [jChunk bJ ((JSt.turn j (s', t', u', h', e')).1.at bD g)]
    unfold JSt.turn; dsimp only; split <;> rfl
theorem jk_Cancel1 (bn bx bJ bD : Nat) (n : Int) (j : JSt) (hj : j.Wf) (hb : j.broken = false) (g : Hd) (I : Imm) :
    Tri Try.prog 82 #[.pointer (some ⟨bn, 0, none⟩), .pointer (some ⟨bx, 0, none⟩)] I [pBox bn (.int .i64 n) 3, pBox bx (.pointer (some ⟨bJ, 0, none⟩)) 22, jChunk bJ (j.at bD g)] fun v J S' =>
      I = J ∧ v = .int .i64 (j.cancel n).2 ∧ S' = [jChunk bJ ((j.cancel n).1.at bD g)] := by
  have hr := hj.ring
  unfold Ok at hr
  unfold JSt.cancel
  rw [if_neg (by rw [hb]; simp)]
  refine Tri.drop ?_ (fun _ _ _ _ h => h)
  refine Tri.of (args := [.pointer (some ⟨bn, 0, none⟩), .pointer (some ⟨bx, 0, none⟩)]) tabOk Try.func82 rfl (by kernel_rfl) (by kernel_rfl) ?_
  repeat (first
    | refine LoadD.own 0 rfl _ rfl rfl ?_
    | refine LoadD.own 1 rfl _ rfl rfl ?_
    | refine LoadD.own 2 rfl _ rfl rfl ?_
    | refine LoadP.at 0 rfl _ rfl rfl ?_
    | refine LoadP.at 1 rfl _ rfl rfl ?_
    | refine LoadP.at 2 rfl _ rfl rfl ?_
    | refine StoreD.st 0 rfl rfl rfl ?_
    | refine StoreD.st 1 rfl rfl rfl ?_
    | refine StoreD.st 2 rfl rfl rfl ?_
    | refine CmpD.yes rfl ?_
    | refine CmpD.yes (by decide) ?_
    | refine CmpD.no (by decide) ?_
    | refine Chk.mk ⟨rfl, trivial⟩ ?_
    | refine Chk.mk ⟨rfl, rfl, trivial⟩ ?_
    | refine Chk.mk ⟨rfl, rfl, rfl, trivial⟩ ?_
    | refine Chk.mk ⟨rfl, rfl, rfl, rfl, trivial⟩ ?_
    | refine Chk.mk ⟨rfl, rfl, rfl, rfl, rfl, trivial⟩ ?_
    | refine Chk.mk ⟨rfl, rfl, rfl, rfl, rfl, rfl, trivial⟩ ?_)
  refine Tri.nf (record_Blocks n I _) ?_
  rintro _ _ _ _ ⟨rfl, rfl, rfl⟩
  have hbn : 0 ≤ blocksN n ∧ blocksN n ≤ 33 := by unfold blocksN; split <;> omega
  refine CmpD.split (fun c1 => ?_) (fun c1 => ?_)
  · rw [if_pos c1]
    exact Done.mk ⟨_, Drop.pick [2] _ rfl, rfl, rfl, rfl⟩
  rw [if_neg c1]
  refine CodeF.sched [[], [], [1], [1, 2], [1, 2, 3], [], [1, 2, 3, 4, 5], [1, 2, 3, 4, 5, 6], [1, 2, 3, 4, 5, 6], [0, 1, 2, 3, 4, 5, 6, 7, 8], [0, 1, 2, 3, 4, 5, 6, 7, 8, 9]] [0, 1, 2, 3, 4, 5, 6, 7, 8, 9, 10] (by kernel_rfl) ?_
  repeat (first
    | refine LoadD.own 0 rfl _ rfl rfl ?_
    | refine LoadD.own 1 rfl _ rfl rfl ?_
    | refine LoadD.own 2 rfl _ rfl rfl ?_
    | refine LoadP.at 0 rfl _ rfl rfl ?_
    | refine LoadP.at 1 rfl _ rfl rfl ?_
    | refine LoadP.at 2 rfl _ rfl rfl ?_
    | refine StoreD.st 0 rfl rfl rfl ?_
    | refine StoreD.st 1 rfl rfl rfl ?_
    | refine StoreD.st 2 rfl rfl rfl ?_
    | refine CmpD.yes rfl ?_
    | refine CmpD.yes (by decide) ?_
    | refine CmpD.no (by decide) ?_
    | refine Chk.mk ⟨rfl, trivial⟩ ?_
    | refine Chk.mk ⟨rfl, rfl, trivial⟩ ?_
    | refine Chk.mk ⟨rfl, rfl, rfl, trivial⟩ ?_
    | refine Chk.mk ⟨rfl, rfl, rfl, rfl, trivial⟩ ?_
    | refine Chk.mk ⟨rfl, rfl, rfl, rfl, rfl, trivial⟩ ?_
    | refine Chk.mk ⟨rfl, rfl, rfl, rfl, rfl, rfl, trivial⟩ ?_)
  refine Tri.free (ring_Release j.s j.t j.u j.h (blocksN n) I (by unfold In64; omega) (by unfold In64; omega) (by unfold In64; omega) (by unfold In64; omega) (by unfold In64; omega)) ?_
  rintro v J2 _ hJ2 ⟨⟨s', t', u', h', e', rfl, hd⟩, rfl⟩
  rw [hd]
  repeat (first
    | refine LoadD.own 0 rfl _ rfl rfl ?_
    | refine LoadD.own 1 rfl _ rfl rfl ?_
    | refine LoadD.own 2 rfl _ rfl rfl ?_
    | refine LoadP.at 0 rfl _ rfl rfl ?_
    | refine LoadP.at 1 rfl _ rfl rfl ?_
    | refine LoadP.at 2 rfl _ rfl rfl ?_
    | refine StoreD.st 0 rfl rfl rfl ?_
    | refine StoreD.st 1 rfl rfl rfl ?_
    | refine StoreD.st 2 rfl rfl rfl ?_
    | refine CmpD.yes rfl ?_
    | refine CmpD.yes (by decide) ?_
    | refine CmpD.no (by decide) ?_
    | refine Chk.mk ⟨rfl, trivial⟩ ?_
    | refine Chk.mk ⟨rfl, rfl, trivial⟩ ?_
    | refine Chk.mk ⟨rfl, rfl, rfl, trivial⟩ ?_
    | refine Chk.mk ⟨rfl, rfl, rfl, rfl, trivial⟩ ?_
    | refine Chk.mk ⟨rfl, rfl, rfl, rfl, rfl, trivial⟩ ?_
    | refine Chk.mk ⟨rfl, rfl, rfl, rfl, rfl, rfl, trivial⟩ ?_)
  refine Tri.frame1 2 rfl (jr_turned bJ (j.at bD g) s' t' u' h' e' I) ?_
  rintro v J3 S' hJ3 ⟨rfl, rfl, rfl⟩
  refine ⟨_, rfl, ?_⟩
  refine Done.mk ⟨_, Drop.pick [2] _ rfl, rfl, ?_, ?_⟩
  · show _ = Value.int .i64 (JSt.turn j (s', t', u', h', e')).2
    unfold JSt.turn; dsimp only; split
    · rename_i h; rw [h]; rfl
    · rfl
  · show [jChunk bJ _] = [jChunk bJ ((JSt.turn j (s', t', u', h', e')).1.at bD g)]
    unfold JSt.turn; dsimp only; split <;> rfl
theorem JSt.reserve_same (j : JSt) (n : Int) : (j.reserve n).1.groups = j.groups := by
  unfold JSt.reserve JSt.turn
  split; · rfl
  split; · rfl
  split; · rfl
  dsimp only; split <;> rfl
theorem JSt.cancel_same (j : JSt) (n : Int) : (j.cancel n).1.groups = j.groups := by
  unfold JSt.cancel JSt.turn
  split; · rfl
  split; · rfl
  dsimp only; split <;> rfl
theorem jk_Reserve {bJ bD : Nat} {j : JSt} {ch : List Blk} (hJ0 : Jk bJ bD j ch) (hj : j.Wf) (n : Int) (I : Imm) :
    Tri Try.prog 16 #[.pointer (some ⟨bJ, 0, none⟩), .int .i64 n] I [ch] fun v J S' => I = J ∧ v = .int .i64 (j.reserve n).2 ∧ ∃ chJ, Jk bJ bD (j.reserve n).1 chJ ∧ S' = [chJ] := by
  obtain ⟨g, chG, rfl, hG⟩ := hJ0
  have hm := fun bn bx => jr_may2 bJ (j.at bD g) 79 bn bx I [pBox bn (.int .i64 n) 3, pBox bx (.pointer (some ⟨bJ, 0, none⟩)) 22, jChunk bJ (j.at bD g)] 2 rfl (fun hb => jk_Reserve1 bn bx bJ bD n j hj hb g I)
  refine Tri.lay (S2 := [jChunk bJ (j.at bD g), chG]) (by simp) ?_
  refine Tri.drop ?_ (fun _ _ _ _ h => h)
  refine Tri.of (args := [.pointer (some ⟨bJ, 0, none⟩), .int .i64 n]) tabOk Try.func16 rfl (by kernel_rfl) (by kernel_rfl) ?_
  conv => whnf
  intro bx
  conv => whnf
  intro bn
  repeat (first
    | refine LoadD.own 0 rfl _ rfl rfl ?_
    | refine LoadD.own 1 rfl _ rfl rfl ?_
    | refine LoadD.own 2 rfl _ rfl rfl ?_
    | refine LoadD.own 3 rfl _ rfl rfl ?_
    | refine LoadP.at 0 rfl _ rfl rfl ?_
    | refine LoadP.at 1 rfl _ rfl rfl ?_
    | refine LoadP.at 2 rfl _ rfl rfl ?_
    | refine LoadP.at 3 rfl _ rfl rfl ?_
    | refine StoreD.st 0 rfl rfl rfl ?_
    | refine StoreD.st 1 rfl rfl rfl ?_
    | refine StoreD.st 2 rfl rfl rfl ?_
    | refine StoreD.st 3 rfl rfl rfl ?_
    | refine CmpD.yes rfl ?_
    | refine CmpD.yes (by decide) ?_
    | refine CmpD.no (by decide) ?_
    | refine Chk.mk ⟨rfl, trivial⟩ ?_
    | refine Chk.mk ⟨rfl, rfl, trivial⟩ ?_
    | refine Chk.mk ⟨rfl, rfl, rfl, trivial⟩ ?_
    | refine Chk.mk ⟨rfl, rfl, rfl, rfl, trivial⟩ ?_
    | refine Chk.mk ⟨rfl, rfl, rfl, rfl, rfl, trivial⟩ ?_
    | refine Chk.mk ⟨rfl, rfl, rfl, rfl, rfl, rfl, trivial⟩ ?_)
  refine Tri.frameX (hm bn bx) [3, 2, 0] rfl rfl ?_
  rintro v J A' hJ (⟨hb, rfl, rfl, rfl⟩ | ⟨hb, rfl, rfl, rfl⟩)
  · unfold JSt.reserve
    rw [if_pos hb]
    exact Done.mk ⟨[jChunk bJ (j.at bD g) ++ chG], (Drop.pick [6, 1] _ rfl).trans (Drop.flat (by simp [St.at])), rfl, rfl, _, ⟨g, chG, rfl, hG⟩, rfl⟩
  · exact Done.mk ⟨[jChunk bJ ((j.reserve n).1.at bD g) ++ chG], (Drop.pick [4, 1] _ rfl).trans (Drop.flat (by simp [St.at])), rfl, rfl, _, ⟨g, chG, rfl, by rw [JSt.reserve_same]; exact hG⟩, rfl⟩
theorem jk_Cancel {bJ bD : Nat} {j : JSt} {ch : List Blk} (hJ0 : Jk bJ bD j ch) (hj : j.Wf) (n : Int) (I : Imm) :
    Tri Try.prog 17 #[.pointer (some ⟨bJ, 0, none⟩), .int .i64 n] I [ch] fun v J S' => I = J ∧ v = .int .i64 (j.cancel n).2 ∧ ∃ chJ, Jk bJ bD (j.cancel n).1 chJ ∧ S' = [chJ] := by
  obtain ⟨g, chG, rfl, hG⟩ := hJ0
  have hm := fun bn bx => jr_may2 bJ (j.at bD g) 82 bn bx I [pBox bn (.int .i64 n) 3, pBox bx (.pointer (some ⟨bJ, 0, none⟩)) 22, jChunk bJ (j.at bD g)] 2 rfl (fun hb => jk_Cancel1 bn bx bJ bD n j hj hb g I)
  refine Tri.lay (S2 := [jChunk bJ (j.at bD g), chG]) (by simp) ?_
  refine Tri.drop ?_ (fun _ _ _ _ h => h)
  refine Tri.of (args := [.pointer (some ⟨bJ, 0, none⟩), .int .i64 n]) tabOk Try.func17 rfl (by kernel_rfl) (by kernel_rfl) ?_
  conv => whnf
  intro bx
  conv => whnf
  intro bn
  repeat (first
    | refine LoadD.own 0 rfl _ rfl rfl ?_
    | refine LoadD.own 1 rfl _ rfl rfl ?_
    | refine LoadD.own 2 rfl _ rfl rfl ?_
    | refine LoadD.own 3 rfl _ rfl rfl ?_
    | refine LoadP.at 0 rfl _ rfl rfl ?_
    | refine LoadP.at 1 rfl _ rfl rfl ?_
    | refine LoadP.at 2 rfl _ rfl rfl ?_
    | refine LoadP.at 3 rfl _ rfl rfl ?_
    | refine StoreD.st 0 rfl rfl rfl ?_
    | refine StoreD.st 1 rfl rfl rfl ?_
    | refine StoreD.st 2 rfl rfl rfl ?_
    | refine StoreD.st 3 rfl rfl rfl ?_
    | refine CmpD.yes rfl ?_
    | refine CmpD.yes (by decide) ?_
    | refine CmpD.no (by decide) ?_
    | refine Chk.mk ⟨rfl, trivial⟩ ?_
    | refine Chk.mk ⟨rfl, rfl, trivial⟩ ?_
    | refine Chk.mk ⟨rfl, rfl, rfl, trivial⟩ ?_
    | refine Chk.mk ⟨rfl, rfl, rfl, rfl, trivial⟩ ?_
    | refine Chk.mk ⟨rfl, rfl, rfl, rfl, rfl, trivial⟩ ?_
    | refine Chk.mk ⟨rfl, rfl, rfl, rfl, rfl, rfl, trivial⟩ ?_)
  refine Tri.frameX (hm bn bx) [3, 2, 0] rfl rfl ?_
  rintro v J A' hJ (⟨hb, rfl, rfl, rfl⟩ | ⟨hb, rfl, rfl, rfl⟩)
  · unfold JSt.cancel
    rw [if_pos hb]
    exact Done.mk ⟨[jChunk bJ (j.at bD g) ++ chG], (Drop.pick [6, 1] _ rfl).trans (Drop.flat (by simp [St.at])), rfl, rfl, _, ⟨g, chG, rfl, hG⟩, rfl⟩
  · exact Done.mk ⟨[jChunk bJ ((j.cancel n).1.at bD g) ++ chG], (Drop.pick [4, 1] _ rfl).trans (Drop.flat (by simp [St.at])), rfl, rfl, _, ⟨g, chG, rfl, by rw [JSt.cancel_same]; exact hG⟩, rfl⟩
theorem jk_Next {bJ bD : Nat} {j : JSt} {ch : List Blk} (hJ0 : Jk bJ bD j ch) (I : Imm) : Tri Try.prog 20 #[.pointer (some ⟨bJ, 0, none⟩)] I [ch] fun v J S' => v = .int .i64 j.next ∧ I = J ∧ S' = [ch] := by
  obtain ⟨g, chG, rfl, hG⟩ := hJ0
  refine Tri.abs1 (Q := fun v J S' => v = .int .i64 j.next ∧ I = J ∧ S' = [jChunk bJ (j.at bD g)]) ?_ (fun v J S' hJ h => ⟨_, h.2.2, h.1, h.2.1, rfl⟩)
  refine Tri.of (args := [.pointer (some ⟨bJ, 0, none⟩)]) tabOk Try.func20 rfl (by kernel_rfl) (by kernel_rfl) ?_
  refine Tri.nf (jr_none bJ (j.at bD g) I) ?_
  rintro _ _ _ _ ⟨rfl, rfl, rfl⟩
  refine LoadD.own 0 rfl [.int .i64 j.next] rfl rfl ?_
  exact Done.mk ⟨rfl, rfl, rfl⟩
theorem jk_Synced {bJ bD : Nat} {j : JSt} {ch : List Blk} (hJ0 : Jk bJ bD j ch) (I : Imm) : Tri Try.prog 21 #[.pointer (some ⟨bJ, 0, none⟩)] I [ch] fun v J S' => v = .int .i64 j.synced ∧ I = J ∧ S' = [ch] := by
  obtain ⟨g, chG, rfl, hG⟩ := hJ0
  refine Tri.abs1 (Q := fun v J S' => v = .int .i64 j.synced ∧ I = J ∧ S' = [jChunk bJ (j.at bD g)]) ?_ (fun v J S' hJ h => ⟨_, h.2.2, h.1, h.2.1, rfl⟩)
  refine Tri.of (args := [.pointer (some ⟨bJ, 0, none⟩)]) tabOk Try.func21 rfl (by kernel_rfl) (by kernel_rfl) ?_
  refine Tri.nf (jr_none bJ (j.at bD g) I) ?_
  rintro _ _ _ _ ⟨rfl, rfl, rfl⟩
  refine LoadD.own 0 rfl [.int .i64 j.synced] rfl rfl ?_
  exact Done.mk ⟨rfl, rfl, rfl⟩
theorem jk_Ring {bJ bD : Nat} {j : JSt} {ch : List Blk} (hJ0 : Jk bJ bD j ch) (I : Imm) : Tri Try.prog 24 #[.pointer (some ⟨bJ, 0, none⟩)] I [ch] fun v J S' => v = rg j.s j.t j.u j.h ∧ I = J ∧ S' = [ch] := by
  obtain ⟨g, chG, rfl, hG⟩ := hJ0
  refine Tri.abs1 (Q := fun v J S' => v = rg j.s j.t j.u j.h ∧ I = J ∧ S' = [jChunk bJ (j.at bD g)]) ?_ (fun v J S' hJ h => ⟨_, h.2.2, h.1, h.2.1, rfl⟩)
  refine Tri.drop ?_ (fun _ _ _ _ h => h)
  refine Tri.of (args := [.pointer (some ⟨bJ, 0, none⟩)]) tabOk Try.func24 rfl (by kernel_rfl) (by kernel_rfl) ?_
  conv => whnf
  intro b2
  refine Tri.frame1 0 rfl (jr_none bJ (j.at bD g) I) ?_
  rintro _ _ _ _ ⟨rfl, rfl, rfl⟩
  refine ⟨_, rfl, ?_⟩
  repeat (first
    | refine LoadD.own 0 rfl _ rfl rfl ?_
    | refine LoadD.own 1 rfl _ rfl rfl ?_
    | refine LoadP.at 0 rfl _ rfl rfl ?_
    | refine LoadP.at 1 rfl _ rfl rfl ?_
    | refine StoreD.st 0 rfl rfl rfl ?_
    | refine StoreD.st 1 rfl rfl rfl ?_
    | refine CmpD.yes rfl ?_
    | refine CmpD.yes (by decide) ?_
    | refine CmpD.no (by decide) ?_
    | refine Chk.mk ⟨rfl, trivial⟩ ?_
    | refine Chk.mk ⟨rfl, rfl, trivial⟩ ?_
    | refine Chk.mk ⟨rfl, rfl, rfl, trivial⟩ ?_
    | refine Chk.mk ⟨rfl, rfl, rfl, rfl, trivial⟩ ?_
    | refine Chk.mk ⟨rfl, rfl, rfl, rfl, rfl, trivial⟩ ?_
    | refine Chk.mk ⟨rfl, rfl, rfl, rfl, rfl, rfl, trivial⟩ ?_)
  exact Done.mk ⟨_, Drop.pick [0] _ rfl, rfl, rfl, rfl⟩
theorem jk_Broken {bJ bD : Nat} {j : JSt} {ch : List Blk} (hJ0 : Jk bJ bD j ch) (I : Imm) : Tri Try.prog 23 #[.pointer (some ⟨bJ, 0, none⟩)] I [ch] fun v J S' => v = .bool j.broken ∧ I = J ∧ S' = [ch] := by
  obtain ⟨g, chG, rfl, hG⟩ := hJ0
  refine Tri.abs1 (Q := fun v J S' => v = .bool j.broken ∧ I = J ∧ S' = [jChunk bJ (j.at bD g)]) ?_ (fun v J S' hJ h => ⟨_, h.2.2, h.1, h.2.1, rfl⟩)
  obtain ⟨lay, s, t, u, h, ep, nx, sy, gs, br⟩ := j
  refine Tri.of (args := [.pointer (some ⟨bJ, 0, none⟩)]) tabOk Try.func23 rfl (by kernel_rfl) (by kernel_rfl) ?_
  refine Tri.nf (jr_none bJ _ I) ?_
  rintro _ _ _ _ ⟨rfl, rfl, rfl⟩
  cases br
  · repeat (first
      | refine LoadD.own 0 rfl _ rfl rfl ?_
      | refine LoadP.at 0 rfl _ rfl rfl ?_
      | refine StoreD.st 0 rfl rfl rfl ?_
      | refine CmpD.yes rfl ?_
      | refine CmpD.yes (by decide) ?_
      | refine CmpD.no (by decide) ?_
      | refine Chk.mk ⟨rfl, trivial⟩ ?_
      | refine Chk.mk ⟨rfl, rfl, trivial⟩ ?_
      | refine Chk.mk ⟨rfl, rfl, rfl, trivial⟩ ?_
      | refine Chk.mk ⟨rfl, rfl, rfl, rfl, trivial⟩ ?_
      | refine Chk.mk ⟨rfl, rfl, rfl, rfl, rfl, trivial⟩ ?_
      | refine Chk.mk ⟨rfl, rfl, rfl, rfl, rfl, rfl, trivial⟩ ?_)
    exact Done.mk ⟨rfl, rfl, rfl⟩
  · repeat (first
      | refine LoadD.own 0 rfl _ rfl rfl ?_
      | refine LoadP.at 0 rfl _ rfl rfl ?_
      | refine StoreD.st 0 rfl rfl rfl ?_
      | refine CmpD.yes rfl ?_
      | refine CmpD.yes (by decide) ?_
      | refine CmpD.no (by decide) ?_
      | refine Chk.mk ⟨rfl, trivial⟩ ?_
      | refine Chk.mk ⟨rfl, rfl, trivial⟩ ?_
      | refine Chk.mk ⟨rfl, rfl, rfl, trivial⟩ ?_
      | refine Chk.mk ⟨rfl, rfl, rfl, rfl, trivial⟩ ?_
      | refine Chk.mk ⟨rfl, rfl, rfl, rfl, rfl, trivial⟩ ?_
      | refine Chk.mk ⟨rfl, rfl, rfl, rfl, rfl, rfl, trivial⟩ ?_)
    exact Done.mk ⟨rfl, rfl, rfl⟩
end Go.Proofs.Ytbpdbgcndfcilaa
namespace Go.Proofs.Ytbpdbgcndfcilaa
open Go.RowKit Go.Sl
set_option maxRecDepth 20000

theorem JSt.Wf.turn {j : JSt} (hj : j.Wf) {r : R5} (hr : r.2.2.2.2 = 0 → Ok r.1 r.2.1 r.2.2.1 r.2.2.2.1) : (j.turn r).1.Wf := by
  obtain ⟨s, t, u, h, e⟩ := r
  unfold JSt.turn
  dsimp only at hr ⊢
  split
  · rename_i h0; exact ⟨hj.log, hr h0, hj.epoch, hj.next, hj.synced, hj.few, hj.groups⟩
  · exact hj
theorem blocksN_range (n : Int) : 0 ≤ blocksN n ∧ blocksN n ≤ 33 := by unfold blocksN; split <;> omega
theorem reserveS_ok {s t u h n : Int} (hr : Ok s t u h) (h0 : (reserveS s t u h n).2.2.2.2 = 0) : Ok (reserveS s t u h n).1 (reserveS s t u h n).2.1 (reserveS s t u h n).2.2.1 (reserveS s t u h n).2.2.2.1 := by
  unfold reserveS at *
  split at h0
  · simp at h0
  split at h0
  · simp at h0
  rename_i h1 h2
  rw [if_neg h1, if_neg h2]
  unfold Ok at *
  dsimp only
  omega
theorem releaseS_ok {s t u h n : Int} (hr : Ok s t u h) (h0 : (releaseS s t u h n).2.2.2.2 = 0) : Ok (releaseS s t u h n).1 (releaseS s t u h n).2.1 (releaseS s t u h n).2.2.1 (releaseS s t u h n).2.2.2.1 := by
  unfold releaseS at *
  split at h0
  · simp at h0
  rename_i h1
  rw [if_neg h1]
  unfold Ok at *
  dsimp only
  omega
theorem JSt.Wf.reserve {j : JSt} (hj : j.Wf) (n : Int) : (j.reserve n).1.Wf := by
  unfold JSt.reserve
  split; · exact hj
  split; · exact hj
  split; · exact hj
  exact hj.turn (reserveS_ok hj.ring)
theorem JSt.Wf.cancel {j : JSt} (hj : j.Wf) (n : Int) : (j.cancel n).1.Wf := by
  unfold JSt.cancel
  split; · exact hj
  split; · exact hj
  exact hj.turn (releaseS_ok hj.ring)
/-- a journal of the examples -/
structure JB (j : JSt) (t u h next synced : Int) (gs : List (Int × Int)) : Prop where
  s : j.s = 16
  t : j.t = t
  u : j.u = u
  h : j.h = h
  epoch : j.epoch = 1
  next : j.next = next
  synced : j.synced = synced
  groups : j.groups = gs
  broken : j.broken = false
  wf : j.Wf
theorem jb_open (tail : Int) (ht : 0 ≤ tail ∧ tail < 16) : JB (openJ 64 1 1 tail) tail 0 0 1 0 [] := ⟨layL_64', rfl, rfl, rfl, rfl, rfl, rfl, rfl, rfl, openJ_wf64 tail ht⟩
/-- a disk of the examples -/
structure DB (d : DSt) (k : Nat) : Prop where
  calm : d.Calm
  len : d.now.length = 64
  few : d.Few k
theorem db_new : DB (DSt.of (List.replicate 64 noughts)) 0 := ⟨fresh_calm _, List.length_replicate .., DSt.of_few _⟩
theorem jb_append {j : JSt} {t u h next synced : Int} {gs : List (Int × Int)} (hj : JB j t u h next synced gs) (h8 : gs.length ≤ 999999) {d : DSt} {k : Nat} (hd : DB d k) (n : Nat) (hn : 1 ≤ n ∧ n ≤ 15) (hx : next ≤ 549755813888) (m : Int) (held : Bool)
    {t' u' h' at_ : Int} (hp : putS 16 t u h (n + 1) (if held then n + 1 else 0) = ((16, t', u', h', 0), at_)) :
    ∃ j' d', j.appendB d (imgsP (rowL n) m 0) held = (j', d', next, 0) ∧ JB j' t' u' h' (next + 1) synced (gs ++ [(next, (n + 1 : Int))]) ∧ DB d' (k + (n + 1)) := by
  obtain ⟨e1, e2, e3, e4, e5, e6, e7, e8, e9, w⟩ := hj
  have hn1 := w.next
  have hl : ((imgsP (rowL n) m 0).length : Int) + 1 = n + 1 := by rw [imgsP_length, rowL_length]
  obtain ⟨j', a, f1, f2, f3, f4, f5, f6, f7, f8, f9, f10, w'⟩ := JSt.append_next w (d := d) (l := imgsP (rowL n) m 0) (held := held) (t := t') (u := u') (h := h') (at_ := at_) (by rw [e8]; exact h8) e9 (by rw [e5, e6]; exact right_row ⟨by decide, by decide⟩ ⟨by omega, hx⟩ n ⟨hn.1, by omega⟩ m) (by rw [hl, e1]; omega) hd.calm (by rw [hd.len, e1]; decide) (by rw [e1, e2, e3, e4, hl]; exact hp)
  refine ⟨j', _, by rw [a, e6], ⟨by rw [f2, e1], f3, f4, f5, by rw [f6, e5], by rw [f7, e6], by rw [f8, e7], by rw [f9, e8, e6, hl], f10, w'⟩, ⟨wrD_calm _ _ _ _ hd.calm, by rw [wrD_len, hd.len], ?_⟩⟩
  have := wrD_few (fun i => 2 + (at_ + i) % j.s) (putP j.epoch.toNat j.next.toNat (imgsP (rowL n) m 0)) 0 d k hd.few
  rw [putP_length, imgsP_length, rowL_length, e6] at this
  exact this
theorem jb_full {j : JSt} {t u h next synced : Int} {gs : List (Int × Int)} (hj : JB j t u h next synced gs) {d : DSt} (n : Nat) (hn : 1 ≤ n ∧ n ≤ 32) (hx : next ≤ 549755813888) (m : Int) (held : Bool) (hf : 16 ≤ n) : j.appendB d (imgsP (rowL n) m 0) held = (j, d, 0, 232) := by
  obtain ⟨e1, e2, e3, e4, e5, e6, e7, e8, e9, w⟩ := hj
  have hn1 := w.next
  unfold JSt.appendB JSt.append
  rw [if_neg (by rw [e9]; simp), if_neg (by rw [e5, e6]; exact not_not_intro (right_row ⟨by decide, by decide⟩ ⟨by omega, hx⟩ n hn m)), if_pos (by rw [e1, imgsP_length, rowL_length]; omega)]
theorem jb_short {j : JSt} {t u h next synced : Int} {gs : List (Int × Int)} (hj : JB j t u h next synced gs) {d : DSt} (n : Nat) (hn : 1 ≤ n ∧ n ≤ 15) (hx : next ≤ 549755813888) (m : Int) (held : Bool)
    {r : R5} {at_ e : Int} (hp : putS 16 t u h (n + 1) (if held then n + 1 else 0) = (r, at_)) (hr : r.2.2.2.2 = e) (he : e ≠ 0) : j.appendB d (imgsP (rowL n) m 0) held = (j, d, 0, e) := by
  obtain ⟨e1, e2, e3, e4, e5, e6, e7, e8, e9, w⟩ := hj
  have hn1 := w.next
  obtain ⟨r1, r2, r3, r4, r5⟩ := r
  dsimp only at hr
  subst hr
  unfold JSt.appendB JSt.append
  rw [if_neg (by rw [e9]; simp), if_neg (by rw [e5, e6]; exact not_not_intro (right_row ⟨by decide, by decide⟩ ⟨by omega, hx⟩ n ⟨hn.1, by omega⟩ m)), if_neg (by rw [e1, imgsP_length, rowL_length]; omega)]
  rw [e1, e2, e3, e4, imgsP_length, rowL_length, hp]
  dsimp only
  rw [if_pos he]
theorem jb_nil {j : JSt} {t u h next synced : Int} {gs : List (Int × Int)} (hj : JB j t u h next synced gs) {d : DSt} (held : Bool) : j.appendB d [] held = (j, d, 0, 80) := by
  unfold JSt.appendB JSt.append
  rw [if_neg (by rw [hj.broken]; simp), if_pos (by intro h; have := h.2.2.2.2.1; simp at this)]
theorem jb_flush {j : JSt} {t u h next synced : Int} {gs : List (Int × Int)} (hj : JB j t u h next synced gs) {d : DSt} {k : Nat} (hd : DB d k) : ∃ j' d', j.flush d = (j', d', 0) ∧ JB j' t u h next (next - 1) gs ∧ DB d' k := by
  obtain ⟨e1, e2, e3, e4, e5, e6, e7, e8, e9, w⟩ := hj
  obtain ⟨j', a, f1, f2, f3, f4, f5, f6, f7, f8, f9, f10, w'⟩ := JSt.flush_next w (d := d) e9 hd.calm
  exact ⟨j', _, a, ⟨by rw [f2, e1], by rw [f3, e2], by rw [f4, e3], by rw [f5, e4], by rw [f6, e5], by rw [f7, e6], by rw [f8, e6], by rw [f9, e8], f10, w'⟩, ⟨hd.calm, hd.len, ⟨Nat.zero_le _, hd.few.2⟩⟩⟩
theorem jb_release {j : JSt} {t u h next synced : Int} {gs : List (Int × Int)} (hj : JB j t u h next synced gs) (seq : Int) (hs : ¬ synced < seq) {gs' : List (Int × Int)} {t' u' h' e : Int} (hr : relAll seq gs 16 t u h = (gs', (16, t', u', h', e))) : ∃ j', j.release seq = (j', e) ∧ JB j' t' u' h' next synced gs' := by
  obtain ⟨e1, e2, e3, e4, e5, e6, e7, e8, e9, w⟩ := hj
  obtain ⟨j', a, f1, f2, f3, f4, f5, f6, f7, f8, f9, f10, w'⟩ := JSt.release_next w (seq := seq) (gs := gs') (s := 16) (t := t') (u := u') (h := h') (e := e) e9 (by rw [e7]; exact hs) (by rw [e1, e2, e3, e4, e8]; exact hr)
  exact ⟨j', a, ⟨f2, f3, f4, f5, by rw [f6, e5], by rw [f7, e6], by rw [f8, e7], f9, f10, w'⟩⟩
theorem jb_early {j : JSt} {t u h next synced : Int} {gs : List (Int × Int)} (hj : JB j t u h next synced gs) (seq : Int) (hs : synced < seq) : j.release seq = (j, 2) := by
  unfold JSt.release
  rw [if_neg (by rw [hj.broken]; simp), if_pos (by rw [hj.synced]; exact hs)]
theorem jb_reserve {j : JSt} {t u h next synced : Int} {gs : List (Int × Int)} (hj : JB j t u h next synced gs) (n : Int) (h0 : blocksN n ≠ 0) (h1 : ¬ 16 < blocksN n) {h' : Int} (hr : reserveS 16 t u h (blocksN n) = (16, t, u, h', 0)) : ∃ j', j.reserve n = (j', 0) ∧ JB j' t u h' next synced gs := by
  have hw := hj.wf.reserve n
  obtain ⟨e1, e2, e3, e4, e5, e6, e7, e8, e9, w⟩ := hj
  have e : j.reserve n = ({ j with s := 16, t := t, u := u, h := h' }, 0) := by
    unfold JSt.reserve
    rw [if_neg (by rw [e9]; simp), if_neg h0, if_neg (by rw [e1]; exact h1), e1, e2, e3, e4, hr]
    rfl
  rw [e] at hw
  exact ⟨_, e, ⟨rfl, rfl, rfl, rfl, e5, e6, e7, e8, e9, hw⟩⟩
theorem jb_noReserve {j : JSt} {t u h next synced : Int} {gs : List (Int × Int)} (hj : JB j t u h next synced gs) (n : Int) (e : Int) (h0 : (blocksN n = 0 ∧ e = 2) ∨ (blocksN n ≠ 0 ∧ 16 < blocksN n ∧ e = 232)) : j.reserve n = (j, e) := by
  unfold JSt.reserve
  rw [if_neg (by rw [hj.broken]; simp)]
  rcases h0 with ⟨h0, rfl⟩ | ⟨h0, h1, rfl⟩
  · rw [if_pos h0]
  · rw [if_neg h0, if_pos (by rw [hj.s]; exact h1)]
theorem jb_noCancel {j : JSt} {t u h next synced : Int} {gs : List (Int × Int)} (hj : JB j t u h next synced gs) (n : Int) (h0 : blocksN n = 0 ∨ (blocksN n ≠ 0 ∧ (releaseS 16 t u h (blocksN n)) = (0, 0, 0, 0, 2))) : j.cancel n = (j, 2) := by
  unfold JSt.cancel
  rw [if_neg (by rw [hj.broken]; simp)]
  rcases h0 with h0 | ⟨h0, h1⟩
  · rw [if_pos h0]
  · rw [if_neg h0, hj.s, hj.t, hj.u, hj.h, h1]; rfl
/-- all of them -/
structure Numbers where
  jA : JSt
  jB : JSt
  jF : JSt
  jR : JSt
  jH : JSt
  jC : JSt
  jX : JSt
  dA : DSt
  dB : DSt
  dF : DSt
  dC : DSt
  dX : DSt
  dY : DSt
theorem numbers_pure : ∃ x : Numbers, (openJ 64 1 1 14).appendB (DSt.of (List.replicate 64 noughts)) (imgsP (rowL 1) 1 0) false = (x.jA, x.dA, 1, 0) ∧ x.jA.appendB x.dA (imgsP (rowL 2) 2 0) false = (x.jB, x.dB, 2, 0) ∧
    x.jB.flush x.dB = (x.jF, x.dF, 0) ∧ x.jF.release 1 = (x.jR, 0) ∧ x.jR.release 3 = (x.jR, 2) ∧ x.jR.appendB x.dF (imgsP (rowL 16) 1 0) false = (x.jR, x.dF, 0, 232) ∧ x.jR.appendB x.dF (imgsP (rowL 13) 1 0) false = (x.jR, x.dF, 0, 5) ∧
    x.jR.reserve 12 = (x.jH, 0) ∧ x.jH.reserve 16 = (x.jH, 232) ∧ x.jH.reserve 0 = (x.jH, 2) ∧ x.jH.reserve 33 = (x.jH, 2) ∧ x.jH.cancel 0 = (x.jH, 2) ∧ x.jH.cancel 13 = (x.jH, 2) ∧ x.jH.appendB x.dF (imgsP (rowL 1) 1 0) false = (x.jH, x.dF, 0, 5) ∧ x.jH.appendB x.dF [] false = (x.jH, x.dF, 0, 80) ∧
    x.jH.appendB x.dF (imgsP (rowL 12) 1 0) true = (x.jC, x.dC, 3, 0) ∧ x.dC.armed 0 = (x.dX, 0) ∧ x.jC.flush x.dX = (x.jX, x.dY, 6) ∧ x.jX.reserve 0 = (x.jX, 4) ∧ x.jX.cancel 0 = (x.jX, 4) ∧ x.jX.release 99 = (x.jX, 4) ∧ x.jX.broken = true ∧
    JB (openJ 64 1 1 14) 14 0 0 1 0 [] ∧ JB x.jA 14 2 0 2 0 [(1, 2)] ∧ JB x.jB 14 5 0 3 0 [(1, 2), (2, 3)] ∧ JB x.jF 14 5 0 3 2 [(1, 2), (2, 3)] ∧ JB x.jR 0 3 0 3 2 [(2, 3)] ∧ JB x.jH 0 3 13 3 2 [(2, 3)] ∧ JB x.jC 0 16 0 4 2 [(2, 3), (3, 13)] ∧ x.jX.Wf ∧
    DB (DSt.of (List.replicate 64 noughts)) 0 ∧ DB x.dA 2 ∧ DB x.dB 5 ∧ DB x.dF 5 ∧ DB x.dC 18 := by
  have h0 := jb_open 14 (by omega)
  have d0 := db_new
  obtain ⟨jA, dA, a1, hA, dA'⟩ := jb_append h0 (by decide) d0 1 (by omega) (by decide) 1 false (t' := 14) (u' := 2) (h' := 0) (at_ := 14) (by decide)
  obtain ⟨jB, dB, a2, hB, dB'⟩ := jb_append hA (by decide) dA' 2 (by omega) (by decide) 2 false (t' := 14) (u' := 5) (h' := 0) (at_ := 0) (by decide)
  obtain ⟨jF, dF, a3, hF, dF'⟩ := jb_flush hB dB'
  obtain ⟨jR, a4, hR⟩ := jb_release hF 1 (by decide) (gs' := [(2, 3)]) (t' := 0) (u' := 3) (h' := 0) (e := 0) (by decide)
  obtain ⟨jH, a5, hH⟩ := jb_reserve hR 12 (by decide) (by decide) (h' := 13) (by decide)
  obtain ⟨jC, dC, a6, hC, dC'⟩ := jb_append hH (by decide) dF' 12 (by omega) (by decide) 1 true (t' := 0) (u' := 16) (h' := 0) (at_ := 3) (by decide)
  have hfl : ∃ jX dY, jC.flush ({ dC with arm := ⟨true, 0⟩ }) = (jX, dY, 6) ∧ jX.broken = true := by
    obtain ⟨safe, now, ws, c, dn, ⟨b1, b2⟩, ⟨f1, f2⟩⟩ := dC
    obtain ⟨⟨c1, c2, c3⟩, _, _⟩ := dC'
    simp only at c1 c2 c3
    subst c1 c2 c3
    unfold JSt.flush
    rw [if_neg (by rw [hC.broken]; simp)]
    exact ⟨_, _, rfl, rfl⟩
  obtain ⟨jX, dY, a7, hX⟩ := hfl
  have wX : jX.Wf := by have := hC.wf.flush { dC with arm := ⟨true, 0⟩ }; rwa [a7] at this
  refine ⟨⟨jA, jB, jF, jR, jH, jC, jX, dA, dB, dF, dC, { dC with arm := ⟨true, 0⟩ }, dY⟩, a1, a2, a3, a4, jb_early hR 3 (by decide), jb_full hR 16 (by omega) (by decide) 1 false (by omega), ?_, a5, jb_noReserve hH 16 232 (.inr (by decide)), jb_noReserve hH 0 2 (.inl (by decide)), jb_noReserve hH 33 2 (.inl (by decide)), jb_noCancel hH 0 (.inl (by decide)), jb_noCancel hH 13 (.inr (by decide)), ?_, jb_nil hH false, a6, rfl, a7, ?_, ?_, ?_, hX, h0, hA, hB, hF, hR, hH, hC, wX, d0, dA', dB', dF', dC'⟩
  · exact jb_short hR 13 (by omega) (by decide) 1 false (r := (0, 0, 0, 0, 5)) (at_ := 0) (by decide) rfl (by decide)
  · exact jb_short hH 1 (by omega) (by decide) 1 false (r := (0, 0, 0, 0, 5)) (at_ := 0) (by decide) rfl (by decide)
  · unfold JSt.reserve; rw [if_pos hX]
  · unfold JSt.cancel; rw [if_pos hX]
  · unfold JSt.release; rw [if_pos hX]
end Go.Proofs.Ytbpdbgcndfcilaa
namespace Go.Proofs.Ytbpdbgcndfcilaa
open Go.RowKit Go.Sl
set_option maxRecDepth 20000

theorem disk_none0 (I : Imm) (S : St) : Tri Try.prog 90 #[.pointer none] I S fun v J S' => v = .bool true ∧ I = J ∧ S' = S := by
  refine Tri.of (args := [.pointer none]) tabOk Try.func90 rfl (by kernel_rfl) (by kernel_rfl) ?_
  exact Done.mk ⟨rfl, rfl, rfl⟩
theorem disk_Size0 (I : Imm) (S : St) : Tri Try.prog 88 #[.pointer none] I S fun v J S' => v = .int .i64 0 ∧ I = J ∧ S' = S := by
  refine Tri.of (args := [.pointer none]) tabOk Try.func88 rfl (by kernel_rfl) (by kernel_rfl) ?_
  refine Tri.mono (disk_none0 I S) ?_
  rintro v J S' hJ ⟨rfl, rfl, rfl⟩
  exact Done.mk ⟨rfl, rfl, rfl⟩
theorem journal_Open0 (x : Lay) (epoch seq tail : Int) (I : Imm) : Tri Try.prog 30 #[.pointer none, x.v, .int .i64 epoch, .int .i64 seq, .int .i64 tail] I [] fun v J _ => v = .tuple #[.pointer none, .int .i64 1] ∧ I = J := by
  obtain ⟨x1, x2, x3, x4, x5, x6, x7⟩ := x
  refine Tri.of (args := [.pointer none, layV x1 x2 x3 x4 x5 x6 x7, .int .i64 epoch, .int .i64 seq, .int .i64 tail]) tabOk Try.func30 rfl (by kernel_rfl) (by kernel_rfl) ?_
  conv => whnf
  intro b6
  refine Tri.nf (disk_Size0 I _) ?_
  rintro v J S' hJ ⟨rfl, rfl, rfl⟩
  repeat (first
    | refine LoadD.own 0 rfl _ rfl rfl ?_
    | refine LoadP.at 0 rfl _ rfl rfl ?_
    | refine StoreD.st 0 rfl rfl rfl ?_
    | refine CmpD.yes rfl ?_
    | refine CmpD.yes (by decide) ?_
    | refine CmpD.no (by decide) ?_
    | refine Chk.mk ⟨rfl, trivial⟩ ?_
    | refine Chk.mk ⟨rfl, rfl, trivial⟩ ?_
    | refine Chk.mk ⟨rfl, rfl, rfl, trivial⟩ ?_
    | refine Chk.mk ⟨rfl, rfl, rfl, rfl, trivial⟩ ?_
    | refine Chk.mk ⟨rfl, rfl, rfl, rfl, rfl, trivial⟩ ?_
    | refine Chk.mk ⟨rfl, rfl, rfl, rfl, rfl, rfl, trivial⟩ ?_)
  exact Done.mk ⟨rfl, rfl⟩
theorem ring_cmp {o : Oper} {ρ : Env} {yt : TypeId} {x y : Operand} {K : Value → Prop} {op : BinOp} (p q : List Int) (ho : o.op = .binOp op 27 x y yt) (hop : op = .eql ∨ op = .neq)
    (hx : ρ.ev x = .agg (p.map (Value.int .i64)).toArray) (hy : ρ.ev y = .agg (q.map (Value.int .i64)).toArray) (hp : p.length = 4) (hq : q.length = 4) (h : CmpD (p = q) fun t => boolF (xor (op == .neq) t) fun t => K (.bool t)) : PureD Try.prog o ρ K :=
  eq_ints (k := .i64) tabOk p q ho hop rfl hx hy (by kernel_rfl) (by kernel_rfl) (by kernel_rfl) hp hq h
set_option maxHeartbeats 4000000 in
theorem journalNumbers_walk (I : Imm) : Tri Try.prog 4 #[] I [] fun v _ _ => v = .bool true := by
  obtain ⟨⟨jA, jB, jF, jR, jH, jC, jX, dA, dB, dF, dC, dX, dY⟩, a1, a2, a3, a4, a5, a6, a7, a8, a9, a10, a11, a12, a13, a14, a15, a16, a17, a18, a19, a20, a21, a22, h0, hA, hB, hF, hR, hH, hC, wX, d0, dA', dB', dF', dC'⟩ := numbers_pure
  dsimp only at a1 a2 a3 a4 a5 a6 a7 a8 a9 a10 a11 a12 a13 a14 a15 a16 a17 a18 a19 a20 a21 a22 hA hB hF hR hH hC wX dA' dB' dF' dC'
  refine Tri.of (args := []) tabOk Try.func4 rfl (by kernel_rfl) (by kernel_rfl) ?_
  refine Tri.frameX (law_open 14 (by omega) I) [] rfl rfl ?_
  rintro v J A' hJ ⟨bD, bJ, chD, chJ, rfl, hD, hj, rfl⟩
  repeat (first
    | refine LoadD.own 0 rfl _ rfl rfl ?_
    | refine LoadD.own 1 rfl _ rfl rfl ?_
    | refine LoadP.at 0 rfl _ rfl rfl ?_
    | refine LoadP.at 1 rfl _ rfl rfl ?_
    | refine StoreD.st 0 rfl rfl rfl ?_
    | refine StoreD.st 1 rfl rfl rfl ?_
    | refine CmpD.yes rfl ?_
    | refine CmpD.yes (by decide) ?_
    | refine CmpD.no (by decide) ?_
    | refine Chk.mk ⟨rfl, trivial⟩ ?_
    | refine Chk.mk ⟨rfl, rfl, trivial⟩ ?_
    | refine Chk.mk ⟨rfl, rfl, rfl, trivial⟩ ?_
    | refine Chk.mk ⟨rfl, rfl, rfl, rfl, trivial⟩ ?_
    | refine Chk.mk ⟨rfl, rfl, rfl, rfl, rfl, trivial⟩ ?_
    | refine Chk.mk ⟨rfl, rfl, rfl, rfl, rfl, rfl, trivial⟩ ?_)
  refine Tri.free (row_of 1 (by omega) _) ?_
  rintro v Jr1 _ hJr1 ⟨aR1, capR1, rfl, hR1⟩
  refine Tri.free (images_fix aR1 capR1 (rowL 1) (by rw [rowL_length]; omega) (rowL_in 1 (by omega)) 1 (by unfold In64; omega) Jr1 (by rw [rowL_length]; exact hR1)) ?_
  rintro v Ji1 _ hJi1 ⟨aI1, capI1, gs1, rfl, hI1, hgs1⟩
  have hgl1 : gs1.length = 1 := by have := congrArg List.length hgs1; rwa [List.length_map, imgsP_length, rowL_length] at this
  refine Tri.frame (jk_Append hj h0.wf (hD.mono (Imm.le_trans hJr1 hJi1)) (d0.few.mono (by omega)) (by rw [h0.groups]; decide) aI1 capI1 gs1 hI1 (by omega) false) [1, 0] rfl rfl ?_
  rw [hgs1, a1]
  rintro v J1 A' hJ1 ⟨rfl, chJ1, chD1, hj1, hD1, rfl⟩
  refine ⟨Nat.le_refl _, ?_⟩
  dsimp only at hj1 hD1
  refine Tri.free (row_of 2 (by omega) _) ?_
  rintro v Jr2 _ hJr2 ⟨aR2, capR2, rfl, hR2⟩
  refine Tri.free (images_fix aR2 capR2 (rowL 2) (by rw [rowL_length]; omega) (rowL_in 2 (by omega)) 2 (by unfold In64; omega) Jr2 (by rw [rowL_length]; exact hR2)) ?_
  rintro v Ji2 _ hJi2 ⟨aI2, capI2, gs2, rfl, hI2, hgs2⟩
  have hgl2 : gs2.length = 2 := by have := congrArg List.length hgs2; rwa [List.length_map, imgsP_length, rowL_length] at this
  refine Tri.frame (jk_Append hj1 hA.wf (hD1.mono (Imm.le_trans hJr2 hJi2)) (dA'.few.mono (by omega)) (by rw [hA.groups]; decide) aI2 capI2 gs2 hI2 (by omega) false) [1, 0] rfl rfl ?_
  rw [hgs2, a2]
  rintro v J2 A' hJ2 ⟨rfl, chJ2, chD2, hj2, hD2, rfl⟩
  refine ⟨Nat.le_refl _, ?_⟩
  dsimp only at hj2 hD2
  refine Tri.frame (jk_Flush hj2 hB.wf hD2) [1, 0] rfl rfl ?_
  rw [a3]
  rintro v Jf A' hJf ⟨rfl, chJf, chDf, hjf, hDf, rfl⟩
  refine ⟨Nat.le_refl _, ?_⟩
  dsimp only at hjf hDf
  refine Tri.frame1 1 rfl (jk_Release hjf hF.wf 1 _) ?_
  rw [a4]
  rintro v _ A' _ ⟨rfl, rfl, chR1, hR1, rfl⟩
  refine ⟨_, rfl, ?_⟩
  dsimp only at hR1
  repeat (first
    | refine LoadD.own 0 rfl _ rfl rfl ?_
    | refine LoadD.own 1 rfl _ rfl rfl ?_
    | refine LoadP.at 0 rfl _ rfl rfl ?_
    | refine LoadP.at 1 rfl _ rfl rfl ?_
    | refine StoreD.st 0 rfl rfl rfl ?_
    | refine StoreD.st 1 rfl rfl rfl ?_
    | refine CmpD.yes rfl ?_
    | refine CmpD.yes (by decide) ?_
    | refine CmpD.no (by decide) ?_
    | refine Chk.mk ⟨rfl, trivial⟩ ?_
    | refine Chk.mk ⟨rfl, rfl, trivial⟩ ?_
    | refine Chk.mk ⟨rfl, rfl, rfl, trivial⟩ ?_
    | refine Chk.mk ⟨rfl, rfl, rfl, rfl, trivial⟩ ?_
    | refine Chk.mk ⟨rfl, rfl, rfl, rfl, rfl, trivial⟩ ?_
    | refine Chk.mk ⟨rfl, rfl, rfl, rfl, rfl, rfl, trivial⟩ ?_)
  refine Tri.frame1 1 rfl (jk_Release hR1 hR.wf 3 _) ?_
  rw [a5]
  rintro v _ A' _ ⟨rfl, rfl, chR2, hR2, rfl⟩
  refine ⟨_, rfl, ?_⟩
  dsimp only at hR2
  repeat (first
    | refine LoadD.own 0 rfl _ rfl rfl ?_
    | refine LoadD.own 1 rfl _ rfl rfl ?_
    | refine LoadP.at 0 rfl _ rfl rfl ?_
    | refine LoadP.at 1 rfl _ rfl rfl ?_
    | refine StoreD.st 0 rfl rfl rfl ?_
    | refine StoreD.st 1 rfl rfl rfl ?_
    | refine CmpD.yes rfl ?_
    | refine CmpD.yes (by decide) ?_
    | refine CmpD.no (by decide) ?_
    | refine Chk.mk ⟨rfl, trivial⟩ ?_
    | refine Chk.mk ⟨rfl, rfl, trivial⟩ ?_
    | refine Chk.mk ⟨rfl, rfl, rfl, trivial⟩ ?_
    | refine Chk.mk ⟨rfl, rfl, rfl, rfl, trivial⟩ ?_
    | refine Chk.mk ⟨rfl, rfl, rfl, rfl, rfl, trivial⟩ ?_
    | refine Chk.mk ⟨rfl, rfl, rfl, rfl, rfl, rfl, trivial⟩ ?_)
  refine Tri.frame1 1 rfl (jk_Next hR2 _) ?_
  rintro v _ A' _ ⟨rfl, rfl, rfl⟩
  refine ⟨_, rfl, ?_⟩
  rw [hR.next]
  repeat (first
    | refine LoadD.own 0 rfl _ rfl rfl ?_
    | refine LoadD.own 1 rfl _ rfl rfl ?_
    | refine LoadP.at 0 rfl _ rfl rfl ?_
    | refine LoadP.at 1 rfl _ rfl rfl ?_
    | refine StoreD.st 0 rfl rfl rfl ?_
    | refine StoreD.st 1 rfl rfl rfl ?_
    | refine CmpD.yes rfl ?_
    | refine CmpD.yes (by decide) ?_
    | refine CmpD.no (by decide) ?_
    | refine Chk.mk ⟨rfl, trivial⟩ ?_
    | refine Chk.mk ⟨rfl, rfl, trivial⟩ ?_
    | refine Chk.mk ⟨rfl, rfl, rfl, trivial⟩ ?_
    | refine Chk.mk ⟨rfl, rfl, rfl, rfl, trivial⟩ ?_
    | refine Chk.mk ⟨rfl, rfl, rfl, rfl, rfl, trivial⟩ ?_
    | refine Chk.mk ⟨rfl, rfl, rfl, rfl, rfl, rfl, trivial⟩ ?_)
  refine Tri.frame1 1 rfl (jk_Synced hR2 _) ?_
  rintro v _ A' _ ⟨rfl, rfl, rfl⟩
  refine ⟨_, rfl, ?_⟩
  rw [hR.synced]
  repeat (first
    | refine LoadD.own 0 rfl _ rfl rfl ?_
    | refine LoadD.own 1 rfl _ rfl rfl ?_
    | refine LoadP.at 0 rfl _ rfl rfl ?_
    | refine LoadP.at 1 rfl _ rfl rfl ?_
    | refine StoreD.st 0 rfl rfl rfl ?_
    | refine StoreD.st 1 rfl rfl rfl ?_
    | refine CmpD.yes rfl ?_
    | refine CmpD.yes (by decide) ?_
    | refine CmpD.no (by decide) ?_
    | refine Chk.mk ⟨rfl, trivial⟩ ?_
    | refine Chk.mk ⟨rfl, rfl, trivial⟩ ?_
    | refine Chk.mk ⟨rfl, rfl, rfl, trivial⟩ ?_
    | refine Chk.mk ⟨rfl, rfl, rfl, rfl, trivial⟩ ?_
    | refine Chk.mk ⟨rfl, rfl, rfl, rfl, rfl, trivial⟩ ?_
    | refine Chk.mk ⟨rfl, rfl, rfl, rfl, rfl, rfl, trivial⟩ ?_)
  refine Tri.free (row_of 16 (by omega) _) ?_
  rintro v Jr3 _ hJr3 ⟨aR3, capR3, rfl, hR3⟩
  refine Tri.free (images_fix aR3 capR3 (rowL 16) (by rw [rowL_length]; omega) (rowL_in 16 (by omega)) 1 (by unfold In64; omega) Jr3 (by rw [rowL_length]; exact hR3)) ?_
  rintro v Ji3 _ hJi3 ⟨aI3, capI3, gs3, rfl, hI3, hgs3⟩
  have hgl3 : gs3.length = 16 := by have := congrArg List.length hgs3; rwa [List.length_map, imgsP_length, rowL_length] at this
  refine Tri.frame (jk_Append hR2 hR.wf (hDf.mono (Imm.le_trans hJr3 hJi3)) (dF'.few.mono (by omega)) (by rw [hR.groups]; decide) aI3 capI3 gs3 hI3 (by omega) false) [1, 0] rfl rfl ?_
  rw [hgs3, a6]
  rintro v J3 A' hJ3 ⟨rfl, chJ3, chD3, hj3, hD3, rfl⟩
  refine ⟨Nat.le_refl _, ?_⟩
  dsimp only at hj3 hD3
  refine Tri.free (row_of 13 (by omega) _) ?_
  rintro v Jr4 _ hJr4 ⟨aR4, capR4, rfl, hR4⟩
  refine Tri.free (images_fix aR4 capR4 (rowL 13) (by rw [rowL_length]; omega) (rowL_in 13 (by omega)) 1 (by unfold In64; omega) Jr4 (by rw [rowL_length]; exact hR4)) ?_
  rintro v Ji4 _ hJi4 ⟨aI4, capI4, gs4, rfl, hI4, hgs4⟩
  have hgl4 : gs4.length = 13 := by have := congrArg List.length hgs4; rwa [List.length_map, imgsP_length, rowL_length] at this
  refine Tri.frame (jk_Append hj3 hR.wf (hD3.mono (Imm.le_trans hJr4 hJi4)) (dF'.few.mono (by omega)) (by rw [hR.groups]; decide) aI4 capI4 gs4 hI4 (by omega) false) [1, 0] rfl rfl ?_
  rw [hgs4, a7]
  rintro v J4 A' hJ4 ⟨rfl, chJ4, chD4, hj4, hD4, rfl⟩
  refine ⟨Nat.le_refl _, ?_⟩
  dsimp only at hj4 hD4
  repeat (first
    | refine LoadD.own 0 rfl _ rfl rfl ?_
    | refine LoadD.own 1 rfl _ rfl rfl ?_
    | refine LoadP.at 0 rfl _ rfl rfl ?_
    | refine LoadP.at 1 rfl _ rfl rfl ?_
    | refine StoreD.st 0 rfl rfl rfl ?_
    | refine StoreD.st 1 rfl rfl rfl ?_
    | refine CmpD.yes rfl ?_
    | refine CmpD.yes (by decide) ?_
    | refine CmpD.no (by decide) ?_
    | refine Chk.mk ⟨rfl, trivial⟩ ?_
    | refine Chk.mk ⟨rfl, rfl, trivial⟩ ?_
    | refine Chk.mk ⟨rfl, rfl, rfl, trivial⟩ ?_
    | refine Chk.mk ⟨rfl, rfl, rfl, rfl, trivial⟩ ?_
    | refine Chk.mk ⟨rfl, rfl, rfl, rfl, rfl, trivial⟩ ?_
    | refine Chk.mk ⟨rfl, rfl, rfl, rfl, rfl, rfl, trivial⟩ ?_)
  refine Tri.frame1 1 rfl (jk_Reserve hj4 hR.wf 12 _) ?_
  rw [a8]
  rintro v _ A' _ ⟨rfl, rfl, chH1, hH1, rfl⟩
  refine ⟨_, rfl, ?_⟩
  dsimp only at hH1
  repeat (first
    | refine LoadD.own 0 rfl _ rfl rfl ?_
    | refine LoadD.own 1 rfl _ rfl rfl ?_
    | refine LoadP.at 0 rfl _ rfl rfl ?_
    | refine LoadP.at 1 rfl _ rfl rfl ?_
    | refine StoreD.st 0 rfl rfl rfl ?_
    | refine StoreD.st 1 rfl rfl rfl ?_
    | refine CmpD.yes rfl ?_
    | refine CmpD.yes (by decide) ?_
    | refine CmpD.no (by decide) ?_
    | refine Chk.mk ⟨rfl, trivial⟩ ?_
    | refine Chk.mk ⟨rfl, rfl, trivial⟩ ?_
    | refine Chk.mk ⟨rfl, rfl, rfl, trivial⟩ ?_
    | refine Chk.mk ⟨rfl, rfl, rfl, rfl, trivial⟩ ?_
    | refine Chk.mk ⟨rfl, rfl, rfl, rfl, rfl, trivial⟩ ?_
    | refine Chk.mk ⟨rfl, rfl, rfl, rfl, rfl, rfl, trivial⟩ ?_)
  refine Tri.frame1 1 rfl (jk_Reserve hH1 hH.wf 16 _) ?_
  rw [a9]
  rintro v _ A' _ ⟨rfl, rfl, chH2, hH2, rfl⟩
  refine ⟨_, rfl, ?_⟩
  dsimp only at hH2
  repeat (first
    | refine LoadD.own 0 rfl _ rfl rfl ?_
    | refine LoadD.own 1 rfl _ rfl rfl ?_
    | refine LoadP.at 0 rfl _ rfl rfl ?_
    | refine LoadP.at 1 rfl _ rfl rfl ?_
    | refine StoreD.st 0 rfl rfl rfl ?_
    | refine StoreD.st 1 rfl rfl rfl ?_
    | refine CmpD.yes rfl ?_
    | refine CmpD.yes (by decide) ?_
    | refine CmpD.no (by decide) ?_
    | refine Chk.mk ⟨rfl, trivial⟩ ?_
    | refine Chk.mk ⟨rfl, rfl, trivial⟩ ?_
    | refine Chk.mk ⟨rfl, rfl, rfl, trivial⟩ ?_
    | refine Chk.mk ⟨rfl, rfl, rfl, rfl, trivial⟩ ?_
    | refine Chk.mk ⟨rfl, rfl, rfl, rfl, rfl, trivial⟩ ?_
    | refine Chk.mk ⟨rfl, rfl, rfl, rfl, rfl, rfl, trivial⟩ ?_)
  refine Tri.frame1 1 rfl (jk_Reserve hH2 hH.wf 0 _) ?_
  rw [a10]
  rintro v _ A' _ ⟨rfl, rfl, chH3, hH3, rfl⟩
  refine ⟨_, rfl, ?_⟩
  dsimp only at hH3
  repeat (first
    | refine LoadD.own 0 rfl _ rfl rfl ?_
    | refine LoadD.own 1 rfl _ rfl rfl ?_
    | refine LoadP.at 0 rfl _ rfl rfl ?_
    | refine LoadP.at 1 rfl _ rfl rfl ?_
    | refine StoreD.st 0 rfl rfl rfl ?_
    | refine StoreD.st 1 rfl rfl rfl ?_
    | refine CmpD.yes rfl ?_
    | refine CmpD.yes (by decide) ?_
    | refine CmpD.no (by decide) ?_
    | refine Chk.mk ⟨rfl, trivial⟩ ?_
    | refine Chk.mk ⟨rfl, rfl, trivial⟩ ?_
    | refine Chk.mk ⟨rfl, rfl, rfl, trivial⟩ ?_
    | refine Chk.mk ⟨rfl, rfl, rfl, rfl, trivial⟩ ?_
    | refine Chk.mk ⟨rfl, rfl, rfl, rfl, rfl, trivial⟩ ?_
    | refine Chk.mk ⟨rfl, rfl, rfl, rfl, rfl, rfl, trivial⟩ ?_)
  refine Tri.frame1 1 rfl (jk_Reserve hH3 hH.wf 33 _) ?_
  rw [a11]
  rintro v _ A' _ ⟨rfl, rfl, chH4, hH4, rfl⟩
  refine ⟨_, rfl, ?_⟩
  dsimp only at hH4
  repeat (first
    | refine LoadD.own 0 rfl _ rfl rfl ?_
    | refine LoadD.own 1 rfl _ rfl rfl ?_
    | refine LoadP.at 0 rfl _ rfl rfl ?_
    | refine LoadP.at 1 rfl _ rfl rfl ?_
    | refine StoreD.st 0 rfl rfl rfl ?_
    | refine StoreD.st 1 rfl rfl rfl ?_
    | refine CmpD.yes rfl ?_
    | refine CmpD.yes (by decide) ?_
    | refine CmpD.no (by decide) ?_
    | refine Chk.mk ⟨rfl, trivial⟩ ?_
    | refine Chk.mk ⟨rfl, rfl, trivial⟩ ?_
    | refine Chk.mk ⟨rfl, rfl, rfl, trivial⟩ ?_
    | refine Chk.mk ⟨rfl, rfl, rfl, rfl, trivial⟩ ?_
    | refine Chk.mk ⟨rfl, rfl, rfl, rfl, rfl, trivial⟩ ?_
    | refine Chk.mk ⟨rfl, rfl, rfl, rfl, rfl, rfl, trivial⟩ ?_)
  refine Tri.frame1 1 rfl (jk_Cancel hH4 hH.wf 0 _) ?_
  rw [a12]
  rintro v _ A' _ ⟨rfl, rfl, chH5, hH5, rfl⟩
  refine ⟨_, rfl, ?_⟩
  dsimp only at hH5
  repeat (first
    | refine LoadD.own 0 rfl _ rfl rfl ?_
    | refine LoadD.own 1 rfl _ rfl rfl ?_
    | refine LoadP.at 0 rfl _ rfl rfl ?_
    | refine LoadP.at 1 rfl _ rfl rfl ?_
    | refine StoreD.st 0 rfl rfl rfl ?_
    | refine StoreD.st 1 rfl rfl rfl ?_
    | refine CmpD.yes rfl ?_
    | refine CmpD.yes (by decide) ?_
    | refine CmpD.no (by decide) ?_
    | refine Chk.mk ⟨rfl, trivial⟩ ?_
    | refine Chk.mk ⟨rfl, rfl, trivial⟩ ?_
    | refine Chk.mk ⟨rfl, rfl, rfl, trivial⟩ ?_
    | refine Chk.mk ⟨rfl, rfl, rfl, rfl, trivial⟩ ?_
    | refine Chk.mk ⟨rfl, rfl, rfl, rfl, rfl, trivial⟩ ?_
    | refine Chk.mk ⟨rfl, rfl, rfl, rfl, rfl, rfl, trivial⟩ ?_)
  refine Tri.frame1 1 rfl (jk_Cancel hH5 hH.wf 13 _) ?_
  rw [a13]
  rintro v _ A' _ ⟨rfl, rfl, chH6, hH6, rfl⟩
  refine ⟨_, rfl, ?_⟩
  dsimp only at hH6
  repeat (first
    | refine LoadD.own 0 rfl _ rfl rfl ?_
    | refine LoadD.own 1 rfl _ rfl rfl ?_
    | refine LoadP.at 0 rfl _ rfl rfl ?_
    | refine LoadP.at 1 rfl _ rfl rfl ?_
    | refine StoreD.st 0 rfl rfl rfl ?_
    | refine StoreD.st 1 rfl rfl rfl ?_
    | refine CmpD.yes rfl ?_
    | refine CmpD.yes (by decide) ?_
    | refine CmpD.no (by decide) ?_
    | refine Chk.mk ⟨rfl, trivial⟩ ?_
    | refine Chk.mk ⟨rfl, rfl, trivial⟩ ?_
    | refine Chk.mk ⟨rfl, rfl, rfl, trivial⟩ ?_
    | refine Chk.mk ⟨rfl, rfl, rfl, rfl, trivial⟩ ?_
    | refine Chk.mk ⟨rfl, rfl, rfl, rfl, rfl, trivial⟩ ?_
    | refine Chk.mk ⟨rfl, rfl, rfl, rfl, rfl, rfl, trivial⟩ ?_)
  refine Tri.free (row_of 1 (by omega) _) ?_
  rintro v Jr5 _ hJr5 ⟨aR5, capR5, rfl, hR5⟩
  refine Tri.free (images_fix aR5 capR5 (rowL 1) (by rw [rowL_length]; omega) (rowL_in 1 (by omega)) 1 (by unfold In64; omega) Jr5 (by rw [rowL_length]; exact hR5)) ?_
  rintro v Ji5 _ hJi5 ⟨aI5, capI5, gs5, rfl, hI5, hgs5⟩
  have hgl5 : gs5.length = 1 := by have := congrArg List.length hgs5; rwa [List.length_map, imgsP_length, rowL_length] at this
  refine Tri.frame (jk_Append hH6 hH.wf (hD4.mono (Imm.le_trans hJr5 hJi5)) (dF'.few.mono (by omega)) (by rw [hH.groups]; decide) aI5 capI5 gs5 hI5 (by omega) false) [1, 0] rfl rfl ?_
  rw [hgs5, a14]
  rintro v J5 A' hJ5 ⟨rfl, chJ5, chD5, hj5, hD5, rfl⟩
  refine ⟨Nat.le_refl _, ?_⟩
  dsimp only at hj5 hD5
  refine Tri.frame (jk_Append hj5 hH.wf hD5 (dF'.few.mono (by omega)) (by rw [hH.groups]; decide) none 0 [] ⟨⟨rfl, .inl rfl⟩, by simp⟩ (by decide) false) [1, 0] rfl rfl ?_
  rw [show List.map Img.pr [] = [] from rfl, a15]
  rintro v J6 A' hJ6 ⟨rfl, chJ6, chD6, hj6, hD6, rfl⟩
  refine ⟨Nat.le_refl _, ?_⟩
  dsimp only at hj6 hD6
  refine Tri.free (row_of 12 (by omega) _) ?_
  rintro v Jr7 _ hJr7 ⟨aR7, capR7, rfl, hR7⟩
  refine Tri.free (images_fix aR7 capR7 (rowL 12) (by rw [rowL_length]; omega) (rowL_in 12 (by omega)) 1 (by unfold In64; omega) Jr7 (by rw [rowL_length]; exact hR7)) ?_
  rintro v Ji7 _ hJi7 ⟨aI7, capI7, gs7, rfl, hI7, hgs7⟩
  have hgl7 : gs7.length = 12 := by have := congrArg List.length hgs7; rwa [List.length_map, imgsP_length, rowL_length] at this
  refine Tri.frame (jk_Append hj6 hH.wf (hD6.mono (Imm.le_trans hJr7 hJi7)) (dF'.few.mono (by omega)) (by rw [hH.groups]; decide) aI7 capI7 gs7 hI7 (by omega) true) [1, 0] rfl rfl ?_
  rw [hgs7, a16]
  rintro v J7 A' hJ7 ⟨rfl, chJ7, chD7, hj7, hD7, rfl⟩
  refine ⟨Nat.le_refl _, ?_⟩
  dsimp only at hj7 hD7
  repeat (first
    | refine LoadD.own 0 rfl _ rfl rfl ?_
    | refine LoadD.own 1 rfl _ rfl rfl ?_
    | refine LoadP.at 0 rfl _ rfl rfl ?_
    | refine LoadP.at 1 rfl _ rfl rfl ?_
    | refine StoreD.st 0 rfl rfl rfl ?_
    | refine StoreD.st 1 rfl rfl rfl ?_
    | refine CmpD.yes rfl ?_
    | refine CmpD.yes (by decide) ?_
    | refine CmpD.no (by decide) ?_
    | refine Chk.mk ⟨rfl, trivial⟩ ?_
    | refine Chk.mk ⟨rfl, rfl, trivial⟩ ?_
    | refine Chk.mk ⟨rfl, rfl, rfl, trivial⟩ ?_
    | refine Chk.mk ⟨rfl, rfl, rfl, rfl, trivial⟩ ?_
    | refine Chk.mk ⟨rfl, rfl, rfl, rfl, rfl, trivial⟩ ?_
    | refine Chk.mk ⟨rfl, rfl, rfl, rfl, rfl, rfl, trivial⟩ ?_)
  refine Tri.frame1 1 rfl (jk_Ring hj7 _) ?_
  rintro v _ A' _ ⟨rfl, rfl, rfl⟩
  refine ⟨_, rfl, ?_⟩
  rw [hC.s, hC.t, hC.u, hC.h]
  refine ring_cmp [16, 0, 16, 0] [16, 0, 16, 0] rfl (.inl rfl) rfl rfl rfl rfl ?_
  repeat (first
    | refine LoadD.own 0 rfl _ rfl rfl ?_
    | refine LoadD.own 1 rfl _ rfl rfl ?_
    | refine LoadP.at 0 rfl _ rfl rfl ?_
    | refine LoadP.at 1 rfl _ rfl rfl ?_
    | refine StoreD.st 0 rfl rfl rfl ?_
    | refine StoreD.st 1 rfl rfl rfl ?_
    | refine CmpD.yes rfl ?_
    | refine CmpD.yes (by decide) ?_
    | refine CmpD.no (by decide) ?_
    | refine Chk.mk ⟨rfl, trivial⟩ ?_
    | refine Chk.mk ⟨rfl, rfl, trivial⟩ ?_
    | refine Chk.mk ⟨rfl, rfl, rfl, trivial⟩ ?_
    | refine Chk.mk ⟨rfl, rfl, rfl, rfl, trivial⟩ ?_
    | refine Chk.mk ⟨rfl, rfl, rfl, rfl, rfl, trivial⟩ ?_
    | refine Chk.mk ⟨rfl, rfl, rfl, rfl, rfl, rfl, trivial⟩ ?_)
  refine Tri.free (ref_Of ((64 : Nat) : Int) _) ?_
  rintro v JL _ hJL ⟨rfl, rfl⟩
  rw [layA, if_neg (by omega)]
  conv => whnf
  intro bl
  repeat (first
    | refine LoadD.own 0 rfl _ rfl rfl ?_
    | refine LoadD.own 1 rfl _ rfl rfl ?_
    | refine LoadD.own 2 rfl _ rfl rfl ?_
    | refine LoadP.at 0 rfl _ rfl rfl ?_
    | refine LoadP.at 1 rfl _ rfl rfl ?_
    | refine LoadP.at 2 rfl _ rfl rfl ?_
    | refine StoreD.st 0 rfl rfl rfl ?_
    | refine StoreD.st 1 rfl rfl rfl ?_
    | refine StoreD.st 2 rfl rfl rfl ?_
    | refine CmpD.yes rfl ?_
    | refine CmpD.yes (by decide) ?_
    | refine CmpD.no (by decide) ?_
    | refine Chk.mk ⟨rfl, trivial⟩ ?_
    | refine Chk.mk ⟨rfl, rfl, trivial⟩ ?_
    | refine Chk.mk ⟨rfl, rfl, rfl, trivial⟩ ?_
    | refine Chk.mk ⟨rfl, rfl, rfl, rfl, trivial⟩ ?_
    | refine Chk.mk ⟨rfl, rfl, rfl, rfl, rfl, trivial⟩ ?_
    | refine Chk.mk ⟨rfl, rfl, rfl, rfl, rfl, rfl, trivial⟩ ?_)
  refine Tri.free (journal_Open0 (layOf 64) 1 1 0 _) ?_
  rintro v J' _ hJ' ⟨rfl, rfl⟩
  repeat (first
    | refine LoadD.own 0 rfl _ rfl rfl ?_
    | refine LoadD.own 1 rfl _ rfl rfl ?_
    | refine LoadD.own 2 rfl _ rfl rfl ?_
    | refine LoadP.at 0 rfl _ rfl rfl ?_
    | refine LoadP.at 1 rfl _ rfl rfl ?_
    | refine LoadP.at 2 rfl _ rfl rfl ?_
    | refine StoreD.st 0 rfl rfl rfl ?_
    | refine StoreD.st 1 rfl rfl rfl ?_
    | refine StoreD.st 2 rfl rfl rfl ?_
    | refine CmpD.yes rfl ?_
    | refine CmpD.yes (by decide) ?_
    | refine CmpD.no (by decide) ?_
    | refine Chk.mk ⟨rfl, trivial⟩ ?_
    | refine Chk.mk ⟨rfl, rfl, trivial⟩ ?_
    | refine Chk.mk ⟨rfl, rfl, rfl, trivial⟩ ?_
    | refine Chk.mk ⟨rfl, rfl, rfl, rfl, trivial⟩ ?_
    | refine Chk.mk ⟨rfl, rfl, rfl, rfl, rfl, trivial⟩ ?_
    | refine Chk.mk ⟨rfl, rfl, rfl, rfl, rfl, rfl, trivial⟩ ?_)
  refine Tri.frameX (jk_Open hD7 64 dC'.len (by omega) (layOf ((64 : Nat) : Int)) 0 1 0 (by unfold In64; omega)) [0] rfl rfl ?_
  rintro v J' A' hJ' (⟨_, rfl, rfl, rfl⟩ | ⟨h, _⟩)
  rotate_left
  · exact absurd h.2.1 (by omega)
  repeat (first
    | refine LoadD.own 0 rfl _ rfl rfl ?_
    | refine LoadD.own 1 rfl _ rfl rfl ?_
    | refine LoadD.own 2 rfl _ rfl rfl ?_
    | refine LoadD.own 3 rfl _ rfl rfl ?_
    | refine LoadP.at 0 rfl _ rfl rfl ?_
    | refine LoadP.at 1 rfl _ rfl rfl ?_
    | refine LoadP.at 2 rfl _ rfl rfl ?_
    | refine LoadP.at 3 rfl _ rfl rfl ?_
    | refine StoreD.st 0 rfl rfl rfl ?_
    | refine StoreD.st 1 rfl rfl rfl ?_
    | refine StoreD.st 2 rfl rfl rfl ?_
    | refine StoreD.st 3 rfl rfl rfl ?_
    | refine CmpD.yes rfl ?_
    | refine CmpD.yes (by decide) ?_
    | refine CmpD.no (by decide) ?_
    | refine Chk.mk ⟨rfl, trivial⟩ ?_
    | refine Chk.mk ⟨rfl, rfl, trivial⟩ ?_
    | refine Chk.mk ⟨rfl, rfl, rfl, trivial⟩ ?_
    | refine Chk.mk ⟨rfl, rfl, rfl, rfl, trivial⟩ ?_
    | refine Chk.mk ⟨rfl, rfl, rfl, rfl, rfl, trivial⟩ ?_
    | refine Chk.mk ⟨rfl, rfl, rfl, rfl, rfl, rfl, trivial⟩ ?_)
  refine Tri.frameX (jk_Open hD7 64 dC'.len (by omega) (layOf ((64 : Nat) : Int)) 1 1 16 (by unfold In64; omega)) [3] rfl rfl ?_
  rintro v J' A' hJ' (⟨_, rfl, rfl, rfl⟩ | ⟨h, _⟩)
  rotate_left
  · exact absurd h.2.2.2.2.2.2 (by rw [layL_64']; omega)
  repeat (first
    | refine LoadD.own 0 rfl _ rfl rfl ?_
    | refine LoadD.own 1 rfl _ rfl rfl ?_
    | refine LoadD.own 2 rfl _ rfl rfl ?_
    | refine LoadD.own 3 rfl _ rfl rfl ?_
    | refine LoadD.own 4 rfl _ rfl rfl ?_
    | refine LoadP.at 0 rfl _ rfl rfl ?_
    | refine LoadP.at 1 rfl _ rfl rfl ?_
    | refine LoadP.at 2 rfl _ rfl rfl ?_
    | refine LoadP.at 3 rfl _ rfl rfl ?_
    | refine LoadP.at 4 rfl _ rfl rfl ?_
    | refine StoreD.st 0 rfl rfl rfl ?_
    | refine StoreD.st 1 rfl rfl rfl ?_
    | refine StoreD.st 2 rfl rfl rfl ?_
    | refine StoreD.st 3 rfl rfl rfl ?_
    | refine StoreD.st 4 rfl rfl rfl ?_
    | refine CmpD.yes rfl ?_
    | refine CmpD.yes (by decide) ?_
    | refine CmpD.no (by decide) ?_
    | refine Chk.mk ⟨rfl, trivial⟩ ?_
    | refine Chk.mk ⟨rfl, rfl, trivial⟩ ?_
    | refine Chk.mk ⟨rfl, rfl, rfl, trivial⟩ ?_
    | refine Chk.mk ⟨rfl, rfl, rfl, rfl, trivial⟩ ?_
    | refine Chk.mk ⟨rfl, rfl, rfl, rfl, rfl, trivial⟩ ?_
    | refine Chk.mk ⟨rfl, rfl, rfl, rfl, rfl, rfl, trivial⟩ ?_)
  refine ToD.to ((layOf ((64 : Nat) : Int)).d + 1) rfl ?_
  repeat (first
    | refine LoadD.own 0 rfl _ rfl rfl ?_
    | refine LoadD.own 1 rfl _ rfl rfl ?_
    | refine LoadD.own 2 rfl _ rfl rfl ?_
    | refine LoadD.own 3 rfl _ rfl rfl ?_
    | refine LoadD.own 4 rfl _ rfl rfl ?_
    | refine LoadP.at 0 rfl _ rfl rfl ?_
    | refine LoadP.at 1 rfl _ rfl rfl ?_
    | refine LoadP.at 2 rfl _ rfl rfl ?_
    | refine LoadP.at 3 rfl _ rfl rfl ?_
    | refine LoadP.at 4 rfl _ rfl rfl ?_
    | refine StoreD.st 0 rfl rfl rfl ?_
    | refine StoreD.st 1 rfl rfl rfl ?_
    | refine StoreD.st 2 rfl rfl rfl ?_
    | refine StoreD.st 3 rfl rfl rfl ?_
    | refine StoreD.st 4 rfl rfl rfl ?_
    | refine CmpD.yes rfl ?_
    | refine CmpD.yes (by decide) ?_
    | refine CmpD.no (by decide) ?_
    | refine Chk.mk ⟨rfl, trivial⟩ ?_
    | refine Chk.mk ⟨rfl, rfl, trivial⟩ ?_
    | refine Chk.mk ⟨rfl, rfl, rfl, trivial⟩ ?_
    | refine Chk.mk ⟨rfl, rfl, rfl, rfl, trivial⟩ ?_
    | refine Chk.mk ⟨rfl, rfl, rfl, rfl, rfl, trivial⟩ ?_
    | refine Chk.mk ⟨rfl, rfl, rfl, rfl, rfl, rfl, trivial⟩ ?_)
  refine Tri.frameX (jk_Open hD7 64 dC'.len (by omega) { layOf ((64 : Nat) : Int) with d := (layOf ((64 : Nat) : Int)).d + 1 } 1 1 0 (by unfold In64; omega)) [4] rfl rfl ?_
  rintro v J' A' hJ' (⟨_, rfl, rfl, rfl⟩ | ⟨h, _⟩)
  rotate_left
  · have := congrArg Lay.d h.1
    dsimp only at this
    omega
  repeat (first
    | refine LoadD.own 0 rfl _ rfl rfl ?_
    | refine LoadD.own 1 rfl _ rfl rfl ?_
    | refine LoadD.own 2 rfl _ rfl rfl ?_
    | refine LoadD.own 3 rfl _ rfl rfl ?_
    | refine LoadD.own 4 rfl _ rfl rfl ?_
    | refine LoadD.own 5 rfl _ rfl rfl ?_
    | refine LoadP.at 0 rfl _ rfl rfl ?_
    | refine LoadP.at 1 rfl _ rfl rfl ?_
    | refine LoadP.at 2 rfl _ rfl rfl ?_
    | refine LoadP.at 3 rfl _ rfl rfl ?_
    | refine LoadP.at 4 rfl _ rfl rfl ?_
    | refine LoadP.at 5 rfl _ rfl rfl ?_
    | refine StoreD.st 0 rfl rfl rfl ?_
    | refine StoreD.st 1 rfl rfl rfl ?_
    | refine StoreD.st 2 rfl rfl rfl ?_
    | refine StoreD.st 3 rfl rfl rfl ?_
    | refine StoreD.st 4 rfl rfl rfl ?_
    | refine StoreD.st 5 rfl rfl rfl ?_
    | refine CmpD.yes rfl ?_
    | refine CmpD.yes (by decide) ?_
    | refine CmpD.no (by decide) ?_
    | refine Chk.mk ⟨rfl, trivial⟩ ?_
    | refine Chk.mk ⟨rfl, rfl, trivial⟩ ?_
    | refine Chk.mk ⟨rfl, rfl, rfl, trivial⟩ ?_
    | refine Chk.mk ⟨rfl, rfl, rfl, rfl, trivial⟩ ?_
    | refine Chk.mk ⟨rfl, rfl, rfl, rfl, rfl, trivial⟩ ?_
    | refine Chk.mk ⟨rfl, rfl, rfl, rfl, rfl, rfl, trivial⟩ ?_)
  refine Tri.frame1 5 rfl (dk_Arm hD7 0 (by unfold In64; omega)) ?_
  rw [a17]
  rintro v J' A' hJ' ⟨rfl, chDa, hDa, rfl⟩
  refine ⟨_, rfl, ?_⟩
  dsimp only at hDa
  repeat (first
    | refine LoadD.own 0 rfl _ rfl rfl ?_
    | refine LoadD.own 1 rfl _ rfl rfl ?_
    | refine LoadD.own 2 rfl _ rfl rfl ?_
    | refine LoadD.own 3 rfl _ rfl rfl ?_
    | refine LoadD.own 4 rfl _ rfl rfl ?_
    | refine LoadD.own 5 rfl _ rfl rfl ?_
    | refine LoadP.at 0 rfl _ rfl rfl ?_
    | refine LoadP.at 1 rfl _ rfl rfl ?_
    | refine LoadP.at 2 rfl _ rfl rfl ?_
    | refine LoadP.at 3 rfl _ rfl rfl ?_
    | refine LoadP.at 4 rfl _ rfl rfl ?_
    | refine LoadP.at 5 rfl _ rfl rfl ?_
    | refine StoreD.st 0 rfl rfl rfl ?_
    | refine StoreD.st 1 rfl rfl rfl ?_
    | refine StoreD.st 2 rfl rfl rfl ?_
    | refine StoreD.st 3 rfl rfl rfl ?_
    | refine StoreD.st 4 rfl rfl rfl ?_
    | refine StoreD.st 5 rfl rfl rfl ?_
    | refine CmpD.yes rfl ?_
    | refine CmpD.yes (by decide) ?_
    | refine CmpD.no (by decide) ?_
    | refine Chk.mk ⟨rfl, trivial⟩ ?_
    | refine Chk.mk ⟨rfl, rfl, trivial⟩ ?_
    | refine Chk.mk ⟨rfl, rfl, rfl, trivial⟩ ?_
    | refine Chk.mk ⟨rfl, rfl, rfl, rfl, trivial⟩ ?_
    | refine Chk.mk ⟨rfl, rfl, rfl, rfl, rfl, trivial⟩ ?_
    | refine Chk.mk ⟨rfl, rfl, rfl, rfl, rfl, rfl, trivial⟩ ?_)
  refine Tri.frame (jk_Flush hj7 hC.wf hDa) [1, 5] rfl rfl ?_
  rw [a18]
  rintro v JZ A' hJZ ⟨rfl, chJz, chDz, hjz, hDz, rfl⟩
  refine ⟨Nat.le_refl _, ?_⟩
  dsimp only at hjz hDz
  repeat (first
    | refine LoadD.own 0 rfl _ rfl rfl ?_
    | refine LoadD.own 1 rfl _ rfl rfl ?_
    | refine LoadD.own 2 rfl _ rfl rfl ?_
    | refine LoadD.own 3 rfl _ rfl rfl ?_
    | refine LoadD.own 4 rfl _ rfl rfl ?_
    | refine LoadD.own 5 rfl _ rfl rfl ?_
    | refine LoadP.at 0 rfl _ rfl rfl ?_
    | refine LoadP.at 1 rfl _ rfl rfl ?_
    | refine LoadP.at 2 rfl _ rfl rfl ?_
    | refine LoadP.at 3 rfl _ rfl rfl ?_
    | refine LoadP.at 4 rfl _ rfl rfl ?_
    | refine LoadP.at 5 rfl _ rfl rfl ?_
    | refine StoreD.st 0 rfl rfl rfl ?_
    | refine StoreD.st 1 rfl rfl rfl ?_
    | refine StoreD.st 2 rfl rfl rfl ?_
    | refine StoreD.st 3 rfl rfl rfl ?_
    | refine StoreD.st 4 rfl rfl rfl ?_
    | refine StoreD.st 5 rfl rfl rfl ?_
    | refine CmpD.yes rfl ?_
    | refine CmpD.yes (by decide) ?_
    | refine CmpD.no (by decide) ?_
    | refine Chk.mk ⟨rfl, trivial⟩ ?_
    | refine Chk.mk ⟨rfl, rfl, trivial⟩ ?_
    | refine Chk.mk ⟨rfl, rfl, rfl, trivial⟩ ?_
    | refine Chk.mk ⟨rfl, rfl, rfl, rfl, trivial⟩ ?_
    | refine Chk.mk ⟨rfl, rfl, rfl, rfl, rfl, trivial⟩ ?_
    | refine Chk.mk ⟨rfl, rfl, rfl, rfl, rfl, rfl, trivial⟩ ?_)
  refine Tri.frame1 1 rfl (jk_Broken hjz _) ?_
  rw [a22]
  rintro v _ A' _ ⟨rfl, rfl, rfl⟩
  refine ⟨_, rfl, ?_⟩
  repeat (first
    | refine LoadD.own 0 rfl _ rfl rfl ?_
    | refine LoadD.own 1 rfl _ rfl rfl ?_
    | refine LoadD.own 2 rfl _ rfl rfl ?_
    | refine LoadD.own 3 rfl _ rfl rfl ?_
    | refine LoadD.own 4 rfl _ rfl rfl ?_
    | refine LoadD.own 5 rfl _ rfl rfl ?_
    | refine LoadP.at 0 rfl _ rfl rfl ?_
    | refine LoadP.at 1 rfl _ rfl rfl ?_
    | refine LoadP.at 2 rfl _ rfl rfl ?_
    | refine LoadP.at 3 rfl _ rfl rfl ?_
    | refine LoadP.at 4 rfl _ rfl rfl ?_
    | refine LoadP.at 5 rfl _ rfl rfl ?_
    | refine StoreD.st 0 rfl rfl rfl ?_
    | refine StoreD.st 1 rfl rfl rfl ?_
    | refine StoreD.st 2 rfl rfl rfl ?_
    | refine StoreD.st 3 rfl rfl rfl ?_
    | refine StoreD.st 4 rfl rfl rfl ?_
    | refine StoreD.st 5 rfl rfl rfl ?_
    | refine CmpD.yes rfl ?_
    | refine CmpD.yes (by decide) ?_
    | refine CmpD.no (by decide) ?_
    | refine Chk.mk ⟨rfl, trivial⟩ ?_
    | refine Chk.mk ⟨rfl, rfl, trivial⟩ ?_
    | refine Chk.mk ⟨rfl, rfl, rfl, trivial⟩ ?_
    | refine Chk.mk ⟨rfl, rfl, rfl, rfl, trivial⟩ ?_
    | refine Chk.mk ⟨rfl, rfl, rfl, rfl, rfl, trivial⟩ ?_
    | refine Chk.mk ⟨rfl, rfl, rfl, rfl, rfl, rfl, trivial⟩ ?_)
  refine Tri.frame1 1 rfl (jk_Reserve hjz wX 0 _) ?_
  rw [a19]
  rintro v _ A' _ ⟨rfl, rfl, chZ1, hz1, rfl⟩
  refine ⟨_, rfl, ?_⟩
  dsimp only at hz1
  repeat (first
    | refine LoadD.own 0 rfl _ rfl rfl ?_
    | refine LoadD.own 1 rfl _ rfl rfl ?_
    | refine LoadD.own 2 rfl _ rfl rfl ?_
    | refine LoadD.own 3 rfl _ rfl rfl ?_
    | refine LoadD.own 4 rfl _ rfl rfl ?_
    | refine LoadD.own 5 rfl _ rfl rfl ?_
    | refine LoadP.at 0 rfl _ rfl rfl ?_
    | refine LoadP.at 1 rfl _ rfl rfl ?_
    | refine LoadP.at 2 rfl _ rfl rfl ?_
    | refine LoadP.at 3 rfl _ rfl rfl ?_
    | refine LoadP.at 4 rfl _ rfl rfl ?_
    | refine LoadP.at 5 rfl _ rfl rfl ?_
    | refine StoreD.st 0 rfl rfl rfl ?_
    | refine StoreD.st 1 rfl rfl rfl ?_
    | refine StoreD.st 2 rfl rfl rfl ?_
    | refine StoreD.st 3 rfl rfl rfl ?_
    | refine StoreD.st 4 rfl rfl rfl ?_
    | refine StoreD.st 5 rfl rfl rfl ?_
    | refine CmpD.yes rfl ?_
    | refine CmpD.yes (by decide) ?_
    | refine CmpD.no (by decide) ?_
    | refine Chk.mk ⟨rfl, trivial⟩ ?_
    | refine Chk.mk ⟨rfl, rfl, trivial⟩ ?_
    | refine Chk.mk ⟨rfl, rfl, rfl, trivial⟩ ?_
    | refine Chk.mk ⟨rfl, rfl, rfl, rfl, trivial⟩ ?_
    | refine Chk.mk ⟨rfl, rfl, rfl, rfl, rfl, trivial⟩ ?_
    | refine Chk.mk ⟨rfl, rfl, rfl, rfl, rfl, rfl, trivial⟩ ?_)
  refine Tri.frame1 1 rfl (jk_Cancel hz1 wX 0 _) ?_
  rw [a20]
  rintro v _ A' _ ⟨rfl, rfl, chZ2, hz2, rfl⟩
  refine ⟨_, rfl, ?_⟩
  dsimp only at hz2
  repeat (first
    | refine LoadD.own 0 rfl _ rfl rfl ?_
    | refine LoadD.own 1 rfl _ rfl rfl ?_
    | refine LoadD.own 2 rfl _ rfl rfl ?_
    | refine LoadD.own 3 rfl _ rfl rfl ?_
    | refine LoadD.own 4 rfl _ rfl rfl ?_
    | refine LoadD.own 5 rfl _ rfl rfl ?_
    | refine LoadP.at 0 rfl _ rfl rfl ?_
    | refine LoadP.at 1 rfl _ rfl rfl ?_
    | refine LoadP.at 2 rfl _ rfl rfl ?_
    | refine LoadP.at 3 rfl _ rfl rfl ?_
    | refine LoadP.at 4 rfl _ rfl rfl ?_
    | refine LoadP.at 5 rfl _ rfl rfl ?_
    | refine StoreD.st 0 rfl rfl rfl ?_
    | refine StoreD.st 1 rfl rfl rfl ?_
    | refine StoreD.st 2 rfl rfl rfl ?_
    | refine StoreD.st 3 rfl rfl rfl ?_
    | refine StoreD.st 4 rfl rfl rfl ?_
    | refine StoreD.st 5 rfl rfl rfl ?_
    | refine CmpD.yes rfl ?_
    | refine CmpD.yes (by decide) ?_
    | refine CmpD.no (by decide) ?_
    | refine Chk.mk ⟨rfl, trivial⟩ ?_
    | refine Chk.mk ⟨rfl, rfl, trivial⟩ ?_
    | refine Chk.mk ⟨rfl, rfl, rfl, trivial⟩ ?_
    | refine Chk.mk ⟨rfl, rfl, rfl, rfl, trivial⟩ ?_
    | refine Chk.mk ⟨rfl, rfl, rfl, rfl, rfl, trivial⟩ ?_
    | refine Chk.mk ⟨rfl, rfl, rfl, rfl, rfl, rfl, trivial⟩ ?_)
  refine Tri.frame1 1 rfl (jk_Release hz2 wX 99 _) ?_
  rw [a21]
  rintro v _ A' _ ⟨rfl, rfl, chZ3, hz3, rfl⟩
  refine ⟨_, rfl, ?_⟩
  repeat (first
    | refine LoadD.own 0 rfl _ rfl rfl ?_
    | refine LoadD.own 1 rfl _ rfl rfl ?_
    | refine LoadD.own 2 rfl _ rfl rfl ?_
    | refine LoadD.own 3 rfl _ rfl rfl ?_
    | refine LoadD.own 4 rfl _ rfl rfl ?_
    | refine LoadD.own 5 rfl _ rfl rfl ?_
    | refine LoadP.at 0 rfl _ rfl rfl ?_
    | refine LoadP.at 1 rfl _ rfl rfl ?_
    | refine LoadP.at 2 rfl _ rfl rfl ?_
    | refine LoadP.at 3 rfl _ rfl rfl ?_
    | refine LoadP.at 4 rfl _ rfl rfl ?_
    | refine LoadP.at 5 rfl _ rfl rfl ?_
    | refine StoreD.st 0 rfl rfl rfl ?_
    | refine StoreD.st 1 rfl rfl rfl ?_
    | refine StoreD.st 2 rfl rfl rfl ?_
    | refine StoreD.st 3 rfl rfl rfl ?_
    | refine StoreD.st 4 rfl rfl rfl ?_
    | refine StoreD.st 5 rfl rfl rfl ?_
    | refine CmpD.yes rfl ?_
    | refine CmpD.yes (by decide) ?_
    | refine CmpD.no (by decide) ?_
    | refine Chk.mk ⟨rfl, trivial⟩ ?_
    | refine Chk.mk ⟨rfl, rfl, trivial⟩ ?_
    | refine Chk.mk ⟨rfl, rfl, rfl, trivial⟩ ?_
    | refine Chk.mk ⟨rfl, rfl, rfl, rfl, trivial⟩ ?_
    | refine Chk.mk ⟨rfl, rfl, rfl, rfl, rfl, trivial⟩ ?_
    | refine Chk.mk ⟨rfl, rfl, rfl, rfl, rfl, rfl, trivial⟩ ?_)
  refine Tri.mono (awake08 _ _) ?_
  rintro v J' S' hJ' rfl
  exact Done.mk rfl
end Go.Proofs.Ytbpdbgcndfcilaa
