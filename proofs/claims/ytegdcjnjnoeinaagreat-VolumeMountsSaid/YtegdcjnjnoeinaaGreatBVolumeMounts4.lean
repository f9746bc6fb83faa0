/- Texts of this claim laid together: Jk3, Jk4, Jk5, Same, Oct, Super, Get, Choose, Ref01, Ref02, Ref03, Shelf, Keys, Sort, Sorted, Home, Home2, SameImgs, Awake10. -/
import Derived.Test.YtegdcjnjnoeinaaGreatBVolumeMounts3
import Derived.Test.YtegdcjnjnoeinaaGreatBVolumeMounts2
import Derived.Shelf.Sort.Plain
import Derived.Shelf.Slices.In.SortNone
import Derived.Test.YtegdcjnjnoeinaaGreatProg
import Derived.Test.YtegdcjnjnoeinaaGreatBVolumeMounts1
namespace Go.Proofs.YtegdcjnjnoeinaaGreat
open Go.RowKit Go.Sl
set_option maxRecDepth 20000

def JSt.flush (j : JSt) (d : DSt) : JSt × DSt × Int := if j.broken then (j, d, 4) else if d.flush.2 ≠ 0 then ({ j with broken := true }, d.flush.1, d.flush.2) else ({ j with synced := j.next - 1 }, d.flush.1, 0)
theorem jk_Flush1 (bx bJ bD : Nat) (j : JSt) (hj : j.Wf) (hb : j.broken = false) (g : Hd) (chG : List Blk) (hG : OwnC chG 2 g.a g.len g.cap (gCells j.groups)) (d : DSt) (chD : List Blk) (I : Imm) (hD : Dk I bD d chD) :
    Tri Tryz.prog 161 #[.pointer (some ⟨bx, 0, none⟩)] I [pBox bx (.pointer (some ⟨bJ, 0, none⟩)) 46, jChunk bJ (j.at bD g), chG, chD] fun v J S' =>
      v = .int .i64 (j.flush d).2.2 ∧ ∃ chJ chD', Jk bJ bD (j.flush d).1 chJ ∧ Dk J bD (j.flush d).2.1 chD' ∧ S' = [chJ, chD'] := by
  have hn := hj.next
  unfold JSt.flush
  rw [if_neg (by rw [hb]; simp)]
  refine Tri.drop ?_ (fun _ _ _ _ h => h)
  refine Tri.of (args := [.pointer (some ⟨bx, 0, none⟩)]) tabOk Tryz.func161 rfl (by kernel_rfl) (by kernel_rfl) ?_
  refine CodeF.sched [[], [], [1], [1, 2], [1, 2, 3], [1, 2, 3, 4], [0, 1, 2, 3, 4, 5], [0, 1, 2, 3, 4, 5, 6]] [0, 1, 2, 3, 4, 5, 6, 7] (by kernel_rfl) ?_
  repeat (first | refine LoadP.at 0 rfl _ rfl rfl ?_ | refine LoadP.at 1 rfl _ rfl rfl ?_)
  refine Tri.frame1 3 rfl (dk_Flush hD) ?_
  rintro v J S' hJ ⟨rfl, chD', hD', rfl⟩
  refine ⟨_, rfl, ?_⟩
  repeat (first | refine Chk.mk ⟨rfl, trivial⟩ ?_)
  refine Tri.frame1 1 rfl (jr_did bJ (j.at bD g) _ J) ?_
  rintro v J S' hJ2 ⟨rfl, rfl, rfl⟩
  refine ⟨_, rfl, ?_⟩
  refine CmpD.split (fun c1 => ?_) (fun c1 => ?_)
  · rw [if_neg (by simpa using c1)]
    refine CodeF.sched [[], [], [1], [1, 2], [1, 2, 3], [1, 2, 3, 4], [0, 1, 2, 3, 4, 5], [0, 1, 2, 3, 4, 5, 6], [0, 1, 2, 3, 4, 5, 6, 7]] [0, 1, 2, 3, 4, 5, 6, 7, 8] (by kernel_rfl) ?_
    repeat (first | refine LoadP.at 0 rfl _ rfl rfl ?_ | refine LoadP.at 1 rfl _ rfl rfl ?_)
    refine ToD.i64 (show -9223372036854775808 ≤ j.next - 1 by omega) (show j.next - 1 ≤ _ by omega) ?_
    repeat (first | refine StoreD.st 1 rfl rfl rfl ?_)
    refine Done.mk ⟨[jChunk bJ ({ j with synced := j.next - 1 }.at bD g) ++ chG, chD'], (Drop.pick [1, 2, 3] _ rfl).trans (Drop.flat ?_), rfl, _, _, ⟨g, chG, rfl, hG⟩, hD', rfl⟩
    rw [decide_eq_true c1]
    simp [St.at, hb]
    rfl
  · rw [if_pos c1]
    skip
    refine Done.mk ⟨[jChunk bJ ({ j with broken := true }.at bD g) ++ chG, chD'], (Drop.pick [1, 2, 3] _ rfl).trans (Drop.flat ?_), rfl, _, _, ⟨g, chG, rfl, hG⟩, hD', rfl⟩
    rw [decide_eq_false c1]
    simp [St.at, hb]
theorem jk_Flush {bJ bD : Nat} {j : JSt} {ch : List Blk} (hJ0 : Jk bJ bD j ch) (hj : j.Wf) {I : Imm} {d : DSt} {chD : List Blk} (hD : Dk I bD d chD) :
    Tri Tryz.prog 88 #[.pointer (some ⟨bJ, 0, none⟩)] I [ch, chD] fun v J S' =>
      v = .int .i64 (j.flush d).2.2 ∧ ∃ chJ chD', Jk bJ bD (j.flush d).1 chJ ∧ Dk J bD (j.flush d).2.1 chD' ∧ S' = [chJ, chD'] := by
  obtain ⟨g, chG, rfl, hG⟩ := hJ0
  have hm := fun bx => jr_may1 bJ (j.at bD g) 161 bx I [pBox bx (.pointer (some ⟨bJ, 0, none⟩)) 46, jChunk bJ (j.at bD g), chG, chD] 1 rfl (fun hb => jk_Flush1 bx bJ bD j hj hb g chG hG d chD I hD)
  refine Tri.lay (S2 := [jChunk bJ (j.at bD g), chG, chD]) (by simp) ?_
  refine Tri.drop ?_ (fun _ _ _ _ h => h)
  refine Tri.of (args := [.pointer (some ⟨bJ, 0, none⟩)]) tabOk Tryz.func88 rfl (by kernel_rfl) (by kernel_rfl) ?_
  conv => whnf
  intro b3
  repeat (first | refine LoadD.own 3 rfl _ rfl rfl ?_)
  refine Tri.frameX (hm b3) [3, 0, 1, 2] rfl rfl ?_
  rintro v J A' hJ (⟨hb, rfl, rfl, rfl⟩ | ⟨hb, rfl, chJ, chD', h1, h2, rfl⟩)
  · unfold JSt.flush
    rw [if_pos hb]
    exact Done.mk ⟨[jChunk bJ (j.at bD g) ++ chG, chD], (Drop.pick [5, 6, 7] _ rfl).trans (Drop.flat (by simp [St.at])), rfl, _, _, ⟨g, chG, rfl, hG⟩, hD, rfl⟩
  · exact Done.mk ⟨[chJ, chD'], (Drop.pick [4, 5] _ rfl).trans (Drop.flat (by simp [St.at])), rfl, _, _, h1, h2, rfl⟩
/-- groups let go, one by one -/
def relAll (seq : Int) : List (Int × Int) → Int → Int → Int → Int → List (Int × Int) × R5
  | [], s, t, u, h => ([], (s, t, u, h, 0))
  | g :: gs, s, t, u, h => if g.1 ≤ seq then (match dropS s t u h g.2 with
    | (s', t', u', h', e) => if e = 0 then relAll seq gs s' t' u' h' else (g :: gs, (s, t, u, h, e))) else (g :: gs, (s, t, u, h, 0))
def JSt.release (j : JSt) (seq : Int) : JSt × Int := if j.broken then (j, 4) else if j.synced < seq then (j, 2) else match relAll seq j.groups j.s j.t j.u j.h with
  | (gs, (s, t, u, h, e)) => ({ j with s := s, t := t, u := u, h := h, groups := gs }, e)
theorem dropS_mid {s t u h n : Int} (hr : Ok s t u h) {s' t' u' h' e : Int} (hp : dropS s t u h n = (s', t', u', h', e)) (he : e = 0) : Ok s' t' u' h' := by
  unfold dropS at hp
  subst he
  split at hp
  · simp at hp
  · rename_i h1
    simp only [Prod.mk.injEq] at hp
    obtain ⟨rfl, rfl, rfl, rfl, _⟩ := hp
    unfold Ok at hr h1 ⊢
    have := Int.emod_nonneg (t + n) (b := s) (by omega)
    have := Int.emod_lt_of_pos (t + n) (b := s) (by omega)
    omega
set_option maxHeartbeats 2000000 in
theorem jk_Release1 (bn bx bJ bD : Nat) (seq : Int) (j : JSt) (hj : j.Wf) (hb : j.broken = false) (g : Hd) (chG : List Blk) (hG : OwnC chG 2 g.a g.len g.cap (gCells j.groups)) (I : Imm) :
    Tri Tryz.prog 165 #[.pointer (some ⟨bn, 0, none⟩), .pointer (some ⟨bx, 0, none⟩)] I [pBox bn (.int .i64 seq) 3, pBox bx (.pointer (some ⟨bJ, 0, none⟩)) 46, jChunk bJ (j.at bD g), chG] fun v J S' =>
      I = J ∧ v = .int .i64 (j.release seq).2 ∧ ∃ chJ, Jk bJ bD (j.release seq).1 chJ ∧ S' = [chJ] := by
  unfold JSt.release
  rw [if_neg (by rw [hb]; simp)]
  refine Tri.drop ?_ (fun _ _ _ _ h => h)
  refine Tri.of (args := [.pointer (some ⟨bn, 0, none⟩), .pointer (some ⟨bx, 0, none⟩)]) tabOk Tryz.func165 rfl (by kernel_rfl) (by kernel_rfl) ?_
  refine CodeF.sched [[], [], [1], [1, 2], [1, 2, 3], [0, 1, 2, 3, 4]] [0, 1, 2, 3, 4, 5] (by kernel_rfl) ?_
  repeat (first | refine LoadP.at 0 rfl _ rfl rfl ?_ | refine LoadP.at 1 rfl _ rfl rfl ?_ | refine LoadP.at 2 rfl _ rfl rfl ?_)
  refine CmpD.split (fun c1 => ?_) (fun c1 => ?_)
  · replace c1 : j.synced < seq := c1
    rw [if_pos c1]
    exact Done.mk ⟨[jChunk bJ (j.at bD g) ++ chG], (Drop.pick [2, 3] _ rfl).trans (Drop.flat (by simp [St.at])), rfl, rfl, _, ⟨g, chG, rfl, hG⟩, rfl⟩
  replace c1 : ¬ j.synced < seq := c1
  rw [if_neg c1]
  obtain ⟨W, hW⟩ : ∃ W, W = relAll seq j.groups j.s j.t j.u j.h := ⟨_, rfl⟩
  rw [← hW]
  refine CodeF.loopD [0, 1] (fun vs J' S' => ∃ (gs : List (Int × Int)) (g' : Hd) (chG' : List Blk) (s t u h : Int), gs.length ≤ 1000000 ∧ (∀ x ∈ gs, In64 x.1 ∧ In64 x.2) ∧ W = relAll seq gs s t u h ∧ Ok s t u h ∧ OwnC chG' 2 g'.a g'.len g'.cap (gCells gs) ∧ J' = I ∧
      vs = [.pointer (some ⟨bn, 0, none⟩), .pointer (some ⟨bx, 0, none⟩)] ∧
      S' = [pBox bn (.int .i64 seq) 3, pBox bx (.pointer (some ⟨bJ, 0, none⟩)) 46, jChunk bJ ({ j with s := s, t := t, u := u, h := h, groups := gs }.at bD g'), chG'])
    (fun _ _ S' => match S' with | [_, _, [(_, .cells c _ _)], _] => (match c[15]? with | some (Value.slice _ l _) => l | _ => 0) | _ => 0) ?_ ?_
  · exact ⟨_, Drop.refl _, j.groups, g, chG, j.s, j.t, j.u, j.h, hj.few, hj.groups, hW, hj.ring, hG, rfl, rfl, rfl⟩
  rintro vs gE J' S' hJ' ⟨gs, ⟨ga, gl, gc⟩, chG', s, t, u, h, hfew, hin, hWi, hr, hG', rfl, rfl, rfl⟩
  dsimp only at hG'
  have hr2 := hr
  unfold Ok at hr2
  have hgl : gs.length = gl := by have := hG'.n; rw [gCells_length] at this; omega
  refine CodeF.sched [[], [0], [0, 1], [0, 1, 2], [0, 1, 2, 3], [0, 1, 2, 3, 4], [0, 1, 2, 3, 4, 5], [0, 1, 2, 3, 4, 5, 6], [0, 1, 2, 3, 4, 5, 6, 7], [0, 1, 2, 3, 4, 5, 6, 7, 8], [0, 1, 2, 3, 4, 5, 6, 7, 8, 9], [0, 1, 2, 3, 4, 5, 6, 7, 8, 9, 10], [0, 1, 2, 3, 4, 5, 6, 7, 8, 9, 10, 11], [0, 1, 2, 3, 4, 5, 6, 7, 8, 9, 10, 11, 12], [0, 1, 2, 3, 4, 5, 6], [0, 1, 2, 3, 4, 5, 6, 7, 8, 9, 10, 11, 12, 13, 14], [0, 1, 2, 3, 4, 5, 6, 7, 8, 9, 10, 11, 12, 13, 14, 15]] [0, 1, 2, 3, 4, 5, 6, 7, 8, 9, 10, 11, 12, 13, 14, 15, 16] (by kernel_rfl) ?_
  repeat (first | refine LoadP.at 1 rfl _ rfl rfl ?_ | refine LoadP.at 2 rfl _ rfl rfl ?_)
  match gs, hgl, hG', hWi, hin, hfew with
  | [], hgl, hG', hWi, _, _ =>
    obtain rfl : gl = 0 := by simpa using hgl.symm
    refine CmpD.no (by show ¬ (0 : Int) < ((0 : Nat) : Int); decide) ?_
    refine Done.mk ?_
    rw [hWi, relAll]
    exact ⟨[jChunk bJ ({ j with s := s, t := t, u := u, h := h, groups := [] }.at bD ⟨ga, 0, gc⟩) ++ chG'], (Drop.pick [2, 3] _ rfl).trans (Drop.flat (by simp [St.at])), rfl, rfl, _, ⟨⟨ga, 0, gc⟩, chG', rfl, hG'⟩, rfl⟩
  | (gq, gb) :: gs, hgl, hG', hWi, hin, hfew =>
    simp only [List.length_cons] at hgl hfew
    have hi := hin (gq, gb) (by simp)
    rcases hG'.at' with q0 | ⟨bG, pre, post, TG, rfl, rfl, hpost⟩
    · have := hG'.le; omega
    have ht : ((pre ++ gCells ((gq, gb) :: gs) ++ post).drop pre.length).take 1 = [.int .i64 gq] := by
      rw [List.append_assoc, List.drop_left]; simp [gCells]
    have ht2 : ((pre ++ gCells ((gq, gb) :: gs) ++ post).drop (pre.length + 1)).take 1 = [.int .i64 gb] := by
      rw [List.append_assoc, ← List.drop_drop, List.drop_left]; simp [gCells]
    refine CmpD.yes (by show (0 : Int) < (gl : Int); omega) ?_
    repeat (first | refine LoadP.at 1 rfl _ rfl rfl ?_ | refine LoadP.at 2 rfl _ rfl rfl ?_)
    refine Chk.mk (by show (0 : Int) ≤ 0 ∧ (0 : Int) < (gl : Int); omega) ?_
    refine LoadP.at 3 rfl [.int .i64 gq] ht rfl ?_
    repeat (first | refine LoadP.at 0 rfl _ rfl rfl ?_)
    refine CmpD.split (fun c2 => ?_) (fun c2 => ?_)
    rotate_left
    · refine Done.mk ?_
      rw [hWi, relAll, if_neg (by exact c2)]
      exact ⟨[jChunk bJ ({ j with s := s, t := t, u := u, h := h, groups := (gq, gb) :: gs }.at bD ⟨_, gl, gc⟩) ++ _], (Drop.pick [2, 3] _ rfl).trans (Drop.flat (by simp [St.at])), rfl, rfl, _, ⟨⟨_, gl, gc⟩, _, rfl, hG'⟩, rfl⟩
    refine CodeF.sched [[], [], [1], [1, 2], [1, 2, 3], [], [5], [5, 6], [5, 6, 7], [5, 6, 7, 8], [5, 6, 7, 8, 9], [5, 6, 7, 8, 9, 10], [1, 2, 3, 4, 5, 6, 7, 8, 9, 10, 11], [1, 2, 3, 4, 5, 6, 7, 8, 9, 10, 11, 12], [1, 2, 3, 4, 5, 6, 7, 8, 9, 10, 11, 12], [0, 1, 2, 3, 4, 5, 6, 7, 8, 9, 10, 11, 12, 13, 14], [0, 1, 2, 3, 4, 5, 6, 7, 8, 9, 10, 11, 12, 13, 14, 15]] [0, 1, 2, 3, 4, 5, 6, 7, 8, 9, 10, 11, 12, 13, 14, 15, 16] (by kernel_rfl) ?_
    repeat (first | refine LoadP.at 1 rfl _ rfl rfl ?_ | refine LoadP.at 2 rfl _ rfl rfl ?_)
    refine Chk.mk (by show (0 : Int) ≤ 0 ∧ (0 : Int) < (gl : Int); omega) ?_
    refine LoadP.at 3 rfl [.int .i64 gb] ht2 rfl ?_
    refine Tri.free (ring_Drop s t u h gb J' (by unfold In64; omega) (by unfold In64; omega) (by unfold In64; omega) (by unfold In64; omega) hi.2) ?_
    rintro v J2 _ hJ2 ⟨⟨s', t', u', h', e', rfl, hd⟩, rfl⟩
    repeat (first | refine Chk.mk ⟨rfl, trivial⟩ ?_)
    refine Tri.frame1 2 rfl (jr_turned bJ ({ j with s := s, t := t, u := u, h := h, groups := (gq, gb) :: gs }.at bD ⟨some ⟨bG, pre.length, none⟩, gl, gc⟩) s' t' u' h' e' J') ?_
    rintro v J3 S' hJ3 ⟨rfl, rfl, rfl⟩
    refine ⟨_, rfl, ?_⟩
    rw [relAll, if_pos (by exact c2), hd] at hWi
    dsimp only at hWi
    refine CmpD.split (fun c3 => ?_) (fun c3 => ?_)
    rotate_left
    · skip
      refine Done.mk ?_
      rw [hWi, if_neg c3, if_neg c3]
      exact ⟨[jChunk bJ ({ j with s := s, t := t, u := u, h := h, groups := (gq, gb) :: gs }.at bD ⟨_, gl, gc⟩) ++ _], (Drop.pick [2, 3] _ rfl).trans (Drop.flat (by simp [St.at])), rfl, rfl, _, ⟨⟨_, gl, gc⟩, _, rfl, hG'⟩, rfl⟩
    rw [if_pos c3] at hWi ⊢
    have hr3 := dropS_mid hr hd c3
    refine CodeF.sched [[], [], [1], [1, 2], [1, 2, 3], [1, 2, 3, 4], [0, 1, 2, 3, 4, 5], [0, 1, 2, 3, 4, 5, 6], [0, 1, 2, 3, 4, 5, 6, 7]] [0, 1, 2, 3, 4, 5, 6, 7, 8] (by kernel_rfl) ?_
    repeat (first | refine LoadP.at 1 rfl _ rfl rfl ?_ | refine LoadP.at 2 rfl _ rfl rfl ?_)
    refine sliceD tabOk rfl rfl rfl rfl 1 gl gc ⟨_, rfl⟩ rfl rfl (.inl rfl) ⟨by omega, hG'.le, Nat.le_refl _⟩ ?_
    have hp := hG'.part 1 gl (by omega) (Nat.le_refl _)
    have e2 : ((gCells ((gq, gb) :: gs)).drop (1 * 2)).take ((gl - 1) * 2) = gCells gs := by
      have e : gCells ((gq, gb) :: gs) = [.int .i64 gq, .int .i64 gb] ++ gCells gs := by simp [gCells]
      rw [e]
      show (gCells gs).take _ = _
      exact List.take_of_length_le (by rw [gCells_length]; omega)
    rw [e2] at hp
    repeat (first | refine StoreD.st 2 rfl rfl rfl ?_ | refine Chk.mk ⟨rfl, trivial⟩ ?_)
    refine ⟨[pBox bn (.int .i64 seq) 3, pBox bx (.pointer (some ⟨bJ, 0, none⟩)) 46, jChunk bJ ({ j with s := s', t := t', u := u', h := h', groups := gs }.at bD ⟨slAddr (some ⟨bG, pre.length, none⟩) 1 gc 2, gl - 1, gc - 1⟩), [(bG, row (pre ++ gCells ((gq, gb) :: gs) ++ post) TG)]], Drop.refl _, ⟨gs, ⟨_, _, _⟩, _, s', t', u', h', by omega, fun x hx => hin x (by simp [hx]), hWi, hr3, hp, rfl, rfl, rfl⟩, ?_⟩
    show gl - 1 < gl
    omega
theorem jk_Release {bJ bD : Nat} {j : JSt} {ch : List Blk} (hJ0 : Jk bJ bD j ch) (hj : j.Wf) (seq : Int) (I : Imm) :
    Tri Tryz.prog 95 #[.pointer (some ⟨bJ, 0, none⟩), .int .i64 seq] I [ch] fun v J S' =>
      I = J ∧ v = .int .i64 (j.release seq).2 ∧ ∃ chJ, Jk bJ bD (j.release seq).1 chJ ∧ S' = [chJ] := by
  obtain ⟨g, chG, rfl, hG⟩ := hJ0
  have hm := fun bn bx => jr_may2 bJ (j.at bD g) 165 bn bx I [pBox bn (.int .i64 seq) 3, pBox bx (.pointer (some ⟨bJ, 0, none⟩)) 46, jChunk bJ (j.at bD g), chG] 2 rfl (fun hb => jk_Release1 bn bx bJ bD seq j hj hb g chG hG I)
  refine Tri.lay (S2 := [jChunk bJ (j.at bD g), chG]) (by simp) ?_
  refine Tri.drop ?_ (fun _ _ _ _ h => h)
  refine Tri.of (args := [.pointer (some ⟨bJ, 0, none⟩), .int .i64 seq]) tabOk Tryz.func95 rfl (by kernel_rfl) (by kernel_rfl) ?_
  conv => whnf
  intro bx
  conv => whnf
  intro bn
  repeat (first | refine LoadD.own 2 rfl _ rfl rfl ?_)
  refine Tri.frameX (hm bn bx) [3, 2, 0, 1] rfl rfl ?_
  rintro v J A' hJ (⟨hb, rfl, rfl, rfl⟩ | ⟨hb, rfl, rfl, chJ, h1, rfl⟩)
  · unfold JSt.release
    rw [if_pos hb]
    exact Done.mk ⟨[jChunk bJ (j.at bD g) ++ chG], (Drop.pick [6, 7] _ rfl).trans (Drop.flat (by simp [St.at])), rfl, rfl, _, ⟨g, chG, rfl, hG⟩, rfl⟩
  · exact Done.mk ⟨[chJ], (Drop.pick [4] _ rfl).trans (Drop.flat (by simp [St.at])), rfl, rfl, _, h1, rfl⟩
end Go.Proofs.YtegdcjnjnoeinaaGreat
namespace Go.Proofs.YtegdcjnjnoeinaaGreat
open Go.RowKit Go.Sl
set_option maxRecDepth 20000

def openJ (n : Nat) (epoch seq tail : Int) : JSt := ⟨layOf n, layL n, tail, 0, 0, epoch, seq, seq - 1, [], false⟩
def OpenOk (n : Nat) (x : Lay) (epoch seq tail : Int) : Prop := x = layOf n ∧ 1 ≤ epoch ∧ epoch ≤ 8388608 ∧ 1 ≤ seq ∧ seq ≤ 549755813888 ∧ 0 ≤ tail ∧ tail < layL n
theorem jk_Open {I : Imm} {bD : Nat} {st : DSt} {ch : List Blk} (h : Dk I bD st ch) (n : Nat) (hn : st.now.length = n) (hn2 : 64 ≤ n) (x : Lay) (epoch seq tail : Int) (hseq : In64 seq) :
    Tri Tryz.prog 109 #[.pointer (some ⟨bD, 0, none⟩), x.v, .int .i64 epoch, .int .i64 seq, .int .i64 tail] I [ch] fun v J S' =>
      (¬ OpenOk n x epoch seq tail ∧ v = .tuple #[.pointer none, .int .i64 2] ∧ I = J ∧ S' = [ch]) ∨
      (OpenOk n x epoch seq tail ∧ I = J ∧ ∃ bJ chJ, v = .tuple #[.pointer (some ⟨bJ, 0, none⟩), .int .i64 0] ∧ Jk bJ bD (openJ n epoch seq tail) chJ ∧ S' = [ch, chJ]) := by
  obtain ⟨hw, d, chS, chN, chW, bS, bN, bW, rfl, hD, q1, q2, q3, q4, q5, q6, q7⟩ := h
  have hl := hD.hN.len1
  have hl' : st.now.length = d.now.len := by rw [← q2]; simpa using hl
  have hr := hw.range
  refine Tri.abs (S2 := [dChunk bD d, chS ++ (chN ++ chW)]) (by simp) (Tri.frameX (jr_Open bD d n (by omega) (by omega) x epoch seq tail hseq I) [0] rfl rfl (K := fun v J S' => (¬ OpenOk n x epoch seq tail ∧ v = .tuple #[.pointer none, .int .i64 2] ∧ I = J ∧ Drop S' [dChunk bD d ++ (chS ++ (chN ++ chW))]) ∨
      (OpenOk n x epoch seq tail ∧ I = J ∧ ∃ bJ chJ, v = .tuple #[.pointer (some ⟨bJ, 0, none⟩), .int .i64 0] ∧ Jk bJ bD (openJ n epoch seq tail) chJ ∧ Drop S' [dChunk bD d ++ (chS ++ (chN ++ chW)), chJ])) ?_) ?_
  · rintro v J S' hJ (⟨c, rfl, rfl, rfl⟩ | ⟨c1, c2, c3, c4, c5, c6, c7, rfl, bJ, rfl, rfl⟩)
    · exact .inl ⟨c, rfl, rfl, (Drop.pick [2, 1] _ rfl).trans (Drop.flat (by simp [St.at]))⟩
    · refine .inr ⟨⟨c1, c2, c3, c4, c5, c6, c7⟩, rfl, bJ, _, rfl, ⟨⟨none, 0, 0⟩, [], ?_, OwnC.nil _ _⟩, (Drop.pick [2, 1, 3] _ rfl).trans (Drop.flat (by simp [St.at]; rfl))⟩
      rw [List.append_nil, c1]; rfl
  · rintro v J S' hJ (⟨c, rfl, rfl, hd⟩ | ⟨c, rfl, bJ, chJ, rfl, hj, hd⟩)
    · exact ⟨_, hd, .inl ⟨c, rfl, rfl, rfl⟩⟩
    · exact ⟨_, hd, .inr ⟨c, rfl, bJ, chJ, rfl, hj, rfl⟩⟩
theorem layL_64' : layL ((64 : Nat) : Int) = 16 := by decide
theorem openJ_wf (n : Nat) (hn : 64 ≤ n ∧ n ≤ 512) {epoch seq tail : Int} (h : OpenOk n (layOf n) epoch seq tail) : (openJ n epoch seq tail).Wf := by
  obtain ⟨_, h1, h2, h3, h4, h5, h6⟩ := h
  have := layL_range (n := (n : Int)) (by omega)
  refine ⟨rfl, ?_, ?_, ?_, ?_, by simp [openJ], by simp [openJ]⟩
  · unfold Ok; show 1 ≤ layL n ∧ layL n ≤ 512 ∧ 0 ≤ tail ∧ tail < layL n ∧ (0 : Int) ≤ 0 ∧ (0 : Int) ≤ 0 ∧ (0 : Int) + 0 ≤ layL n; omega
  · show In64 epoch; unfold In64; omega
  · show 1 ≤ seq ∧ seq ≤ 549755813889; omega
  · show 0 ≤ seq - 1 ∧ seq - 1 < seq; omega
/-! ### where nothing fails -/
def DSt.Calm (d : DSt) : Prop := d.down = false ∧ d.arm.on = false ∧ d.fault.on = false
theorem DSt.stop_calm {d : DSt} (h : d.Calm) : d.stop = (d, 0) := by
  obtain ⟨safe, now, ws, c, dn, ⟨a1, a2⟩, ⟨f1, f2⟩⟩ := d
  obtain ⟨h1, h2, h3⟩ := h
  simp only at h1 h2 h3
  subst h1 h2 h3
  rfl
def DSt.put (d : DSt) (n : Int) (b : Dat) : DSt := { d with now := d.now.set n.toNat b, writes := d.writes ++ [(n, b)], count := d.count + 1 }
theorem DSt.write_calm {d : DSt} (h : d.Calm) {n : Int} {b : Dat} (hn : 0 ≤ n ∧ n < d.now.length) (hb : b.length = 4096) : d.write n b = (d.put n b, 0) := by
  unfold DSt.write
  have hw : wrongE d.now.length n = 0 := (wrongE_dec _ (by omega) n).2 hn
  rw [if_neg (by omega), if_neg (by omega), DSt.stop_calm h, if_neg (by simp)]
  rfl
theorem DSt.Calm.put {d : DSt} (h : d.Calm) (n : Int) (b : Dat) : (d.put n b).Calm := h
theorem DSt.put_len (d : DSt) (n : Int) (b : Dat) : (d.put n b).now.length = d.now.length := by simp [DSt.put]
def wrD (f : Nat → Int) : List Dat → Nat → DSt → DSt
  | [], _, d => d
  | b :: bs, i, d => wrD f bs (i + 1) (d.put (f i) b)
theorem wrAll_calm (f : Nat → Int) : ∀ (bs : List Dat) (i : Nat) (d : DSt), d.Calm → (∀ b ∈ bs, b.length = 4096) → (∀ k, 0 ≤ f k ∧ f k < d.now.length) → wrAll f bs i d = (wrD f bs i d, 0)
  | [], _, _, _, _, _ => rfl
  | b :: bs, i, d, hc, hb, hf => by
    rw [wrAll, DSt.write_calm hc (hf i) (hb b (by simp)), if_neg (by simp), wrD]
    exact wrAll_calm f bs (i + 1) _ (hc.put _ _) (fun x hx => hb x (by simp [hx])) (by rw [DSt.put_len]; exact hf)
theorem wrD_calm (f : Nat → Int) : ∀ (bs : List Dat) (i : Nat) (d : DSt), d.Calm → (wrD f bs i d).Calm
  | [], _, _, h => h
  | _ :: bs, i, _, h => wrD_calm f bs (i + 1) _ (h.put _ _)
theorem wrD_len (f : Nat → Int) : ∀ (bs : List Dat) (i : Nat) (d : DSt), (wrD f bs i d).now.length = d.now.length
  | [], _, _ => rfl
  | b :: bs, i, d => by rw [wrD, wrD_len f bs, DSt.put_len]
theorem wrD_few (f : Nat → Int) : ∀ (bs : List Dat) (i : Nat) (d : DSt) (k : Nat), d.Few k → (wrD f bs i d).Few (k + bs.length)
  | [], _, _, _, h => h
  | b :: bs, i, d, k, h => by
    have : (d.put (f i) b).Few (k + 1) := by
      obtain ⟨h1, h2, h3⟩ := h
      exact ⟨by show (d.writes ++ [_]).length ≤ _; simp; omega, by show 0 ≤ d.count + 1; omega, by show d.count + 1 ≤ _; omega⟩
    have := wrD_few f bs (i + 1) _ _ this
    rw [wrD, List.length_cons]
    exact this.mono (by omega)
theorem sprK_length {m l : List UInt8} (hm : m.length = 8) : ∀ k, k * 504 ≤ l.length → (sprK m l k).length = 512 * k
  | 0, _ => by rw [sprK_zero]; rfl
  | k + 1, h => by
    rw [sprK_succ, List.length_append, List.length_append, sprK_length hm k (by omega), List.length_take, List.length_drop, hm]
    omega
theorem hidP_length : ∀ (l : List PImg), (∀ g ∈ l, g.2.length = 4096) → (hidP l).length = 66 * l.length
  | [], _ => rfl
  | g :: l, h => by
    have e : hidP (g :: l) = be g.1.toNat 2 ++ hidK g.2 8 ++ hidP l := by simp [hidP]
    have := h g (by simp)
    rw [e, List.length_append, List.length_append, be_length, hidK_length _ _ (by omega) (by omega), hidP_length l (fun x hx => h x (by simp [hx])), List.length_cons]
    omega
theorem putP_len {e s : Nat} {l : List PImg} (hl : l.length ≤ 32) (h : ∀ g ∈ l, g.2.length = 4096) : ∀ b ∈ putP e s l, b.length = 4096 := by
  have hlist : (listP l).length = 4026 := by
    rw [listP, List.length_append, hidP_length l h, List.length_replicate]; omega
  have hhead : (headP l).length = 4032 := by rw [headP, List.length_append, List.length_append, be_length, be_length, hlist]
  intro b hb
  rcases List.mem_cons.1 hb with rfl | hb
  · rw [sprK_length (stampB_length _ _) 8 (by omega)]
  · obtain ⟨g, hg, rfl⟩ := List.mem_map.1 hb
    have := h g hg
    rw [markK_length (stampB_length _ _) 8 (by omega) (by omega)]; exact this
/-- a group that fits is appended -/
theorem JSt.append_calm {j : JSt} {d : DSt} {l : List PImg} {held : Bool} (hb : j.broken = false) (hR : RightP j.epoch j.next l) (hs : (l.length : Int) + 1 ≤ j.s) (hlog : j.lay.l = 2) (hd : d.Calm) (hlen : j.s + 2 ≤ d.now.length)
    {t u h at_ : Int} (hp : putS j.s j.t j.u j.h (l.length + 1) (if held then l.length + 1 else 0) = ((j.s, t, u, h, 0), at_)) :
    j.appendB d l held = ({ j with t := t, u := u, h := h, groups := j.groups ++ [(j.next, (l.length + 1 : Int))], next := j.next + 1 }, wrD (fun i => 2 + (at_ + i) % j.s) (putP j.epoch.toNat j.next.toNat l) 0 d, j.next, 0) := by
  unfold JSt.appendB JSt.append
  rw [if_neg (by simp [hb]), if_neg (by simpa using hR), if_neg (by omega), hp]
  dsimp only
  rw [if_neg (by simp), hlog, wrAll_calm _ _ _ _ hd (putP_len hR.2.2.2.2.2.1 fun g hg => (hR.2.2.2.2.2.2.1 g hg).2.2)]
  · dsimp only
    rw [if_neg (by simp)]
  · intro k
    have := Int.emod_nonneg (at_ + k) (b := j.s) (by omega)
    have := Int.emod_lt_of_pos (at_ + k) (b := j.s) (by omega)
    omega
theorem right_row {e s : Int} (h1 : 1 ≤ e ∧ e ≤ 8388608) (h2 : 1 ≤ s ∧ s ≤ 549755813888) (k : Nat) (hk : 1 ≤ k ∧ k ≤ 32) (n : Int) : RightP e s (imgsP (rowL k) n 0) := by
  have hl : (rowL k).length = k := by simp [rowL]
  refine ⟨h1.1, h1.2, h2.1, h2.2, by rw [imgsP_length, hl]; omega, by rw [imgsP_length, hl]; omega, ?_, ?_⟩
  · intro g hg
    have h3 := imgsP_snd _ _ _ g hg
    have h4 : g.1 ∈ rowL k := by rw [← imgsP_fst (rowL k) n 0]; exact List.mem_map_of_mem hg
    unfold rowL at h4
    obtain ⟨i, hi, he⟩ := List.mem_map.1 h4
    have := List.mem_range.1 hi
    exact ⟨by omega, by omega, h3⟩
  · rw [imgsP_fst]
    unfold rowL
    rw [List.nodup_iff_pairwise_ne, List.pairwise_map]
    refine List.Pairwise.imp ?_ List.nodup_range
    intro a b hab he
    exact hab (by omega)
/-! ### images, fixed -/
theorem Rds.of_ownS {ch : List Blk} {a : Option Addr} {len cap size : Nat} {vs : List Value} (h : OwnC ch size a len cap vs) {J : Imm} (hJ : ∀ x ∈ ch, J x.1 = some x.2) : Rds J a (len * size) vs := by
  refine ⟨h.n, ?_⟩
  rcases h.at' with h0 | ⟨b, pre, post, T, ha, hc, hp⟩
  · left; have := h.le; rw [show len = 0 by omega]; simp
  · right
    refine ⟨b, _, _, T, (0, 0), ha, hJ (b, _) (by rw [hc]; exact List.mem_singleton.2 rfl), ?_⟩
    have := own_take pre vs post
    rw [h.n] at this
    exact this
theorem rowL_in (n : Nat) (hn : n ≤ 1000) : ∀ x ∈ rowL n, In64 x := by
  intro x hx
  unfold rowL at hx
  obtain ⟨i, hi, rfl⟩ := List.mem_map.1 hx
  have := List.mem_range.1 hi
  unfold In64; omega
theorem rowL_length (n : Nat) : (rowL n).length = n := by simp [rowL]
end Go.Proofs.YtegdcjnjnoeinaaGreat
namespace Go.Proofs.YtegdcjnjnoeinaaGreat
open Go.RowKit Go.Sl
set_option maxRecDepth 20000

def blocksN (n : Int) : Int := if n < 1 ∨ 32 < n then 0 else n + 1
theorem record_Blocks (n : Int) (I : Imm) (S : St) : Tri Tryz.prog 83 #[.int .i64 n] I S fun v J S' => v = .int .i64 (blocksN n) ∧ I = J ∧ S' = S := by
  refine Tri.of (args := [.int .i64 n]) tabOk Tryz.func83 rfl (by kernel_rfl) (by kernel_rfl) ?_
  unfold blocksN
  refine CmpD.split (fun c1 => ?_) (fun c1 => ?_)
  · rw [if_pos (.inl c1)]; exact Done.mk ⟨rfl, rfl, rfl⟩
  refine CmpD.split (fun c2 => ?_) (fun c2 => ?_)
  · rw [if_pos (.inr c2)]; exact Done.mk ⟨rfl, rfl, rfl⟩
  rw [if_neg (by omega)]
  refine ToD.i64 (by omega) (by omega) ?_
  exact Done.mk ⟨rfl, rfl, rfl⟩
def JSt.turn (j : JSt) (r : R5) : JSt × Int := match r with
  | (s, t, u, h, e) => if e = 0 then ({ j with s := s, t := t, u := u, h := h }, 0) else (j, e)
theorem jk_Next {bJ bD : Nat} {j : JSt} {ch : List Blk} (hJ0 : Jk bJ bD j ch) (I : Imm) : Tri Tryz.prog 80 #[.pointer (some ⟨bJ, 0, none⟩)] I [ch] fun v J S' => v = .int .i64 j.next ∧ I = J ∧ S' = [ch] := by
  obtain ⟨g, chG, rfl, hG⟩ := hJ0
  refine Tri.abs1 (Q := fun v J S' => v = .int .i64 j.next ∧ I = J ∧ S' = [jChunk bJ (j.at bD g)]) ?_ (fun v J S' hJ h => ⟨_, h.2.2, h.1, h.2.1, rfl⟩)
  refine Tri.of (args := [.pointer (some ⟨bJ, 0, none⟩)]) tabOk Tryz.func80 rfl (by kernel_rfl) (by kernel_rfl) ?_
  refine Tri.nf (jr_none bJ (j.at bD g) I) ?_
  rintro _ _ _ _ ⟨rfl, rfl, rfl⟩
  refine LoadD.own 0 rfl [.int .i64 j.next] rfl rfl ?_
  exact Done.mk ⟨rfl, rfl, rfl⟩
theorem jk_Synced {bJ bD : Nat} {j : JSt} {ch : List Blk} (hJ0 : Jk bJ bD j ch) (I : Imm) : Tri Tryz.prog 96 #[.pointer (some ⟨bJ, 0, none⟩)] I [ch] fun v J S' => v = .int .i64 j.synced ∧ I = J ∧ S' = [ch] := by
  obtain ⟨g, chG, rfl, hG⟩ := hJ0
  refine Tri.abs1 (Q := fun v J S' => v = .int .i64 j.synced ∧ I = J ∧ S' = [jChunk bJ (j.at bD g)]) ?_ (fun v J S' hJ h => ⟨_, h.2.2, h.1, h.2.1, rfl⟩)
  refine Tri.of (args := [.pointer (some ⟨bJ, 0, none⟩)]) tabOk Tryz.func96 rfl (by kernel_rfl) (by kernel_rfl) ?_
  refine Tri.nf (jr_none bJ (j.at bD g) I) ?_
  rintro _ _ _ _ ⟨rfl, rfl, rfl⟩
  refine LoadD.own 0 rfl [.int .i64 j.synced] rfl rfl ?_
  exact Done.mk ⟨rfl, rfl, rfl⟩
theorem jk_Ring {bJ bD : Nat} {j : JSt} {ch : List Blk} (hJ0 : Jk bJ bD j ch) (I : Imm) : Tri Tryz.prog 82 #[.pointer (some ⟨bJ, 0, none⟩)] I [ch] fun v J S' => v = rg j.s j.t j.u j.h ∧ I = J ∧ S' = [ch] := by
  obtain ⟨g, chG, rfl, hG⟩ := hJ0
  refine Tri.abs1 (Q := fun v J S' => v = rg j.s j.t j.u j.h ∧ I = J ∧ S' = [jChunk bJ (j.at bD g)]) ?_ (fun v J S' hJ h => ⟨_, h.2.2, h.1, h.2.1, rfl⟩)
  refine Tri.drop ?_ (fun _ _ _ _ h => h)
  refine Tri.of (args := [.pointer (some ⟨bJ, 0, none⟩)]) tabOk Tryz.func82 rfl (by kernel_rfl) (by kernel_rfl) ?_
  conv => whnf
  intro b2
  refine Tri.frame1 0 rfl (jr_none bJ (j.at bD g) I) ?_
  rintro _ _ _ _ ⟨rfl, rfl, rfl⟩
  refine ⟨_, rfl, ?_⟩
  repeat (first | refine LoadD.own 0 rfl _ rfl rfl ?_ | refine LoadD.own 1 rfl _ rfl rfl ?_ | refine StoreD.st 1 rfl rfl rfl ?_)
  exact Done.mk ⟨_, Drop.pick [0] _ rfl, rfl, rfl, rfl⟩
end Go.Proofs.YtegdcjnjnoeinaaGreat
namespace Go.Proofs.YtegdcjnjnoeinaaGreat
open Go.RowKit Go.Sl
set_option maxRecDepth 20000

theorem same_bytes {I : Imm} {S : St} {a1 a2 : Option Addr} {n1 n2 c1 c2 : Nat} {l1 l2 : List UInt8} (h1 : SlC I S a1 n1 (bts l1)) (h2 : SlC I S a2 n2 (bts l2)) :
    Tri Tryz.prog 18 #[.slice a1 n1 c1, .slice a2 n2 c2] I S fun v J S' => v = .bool (decide (l1 = l2)) ∧ I = J ∧ S' = S := by
  refine Tri.of (args := [.slice a1 n1 c1, .slice a2 n2 c2]) tabOk Tryz.func18 rfl (by kernel_rfl) (by kernel_rfl) ?_
  refine convStrD tabOk rfl rfl rfl rfl rfl h1 ?_
  refine convStrD tabOk rfl rfl rfl rfl rfl h2 ?_
  refine CmpD.keep ?_
  refine Done.mk ⟨?_, rfl, rfl⟩
  rw [bytes_toList, bytes_toList]; rfl
theorem bytes_Equal {I : Imm} {S : St} {a1 a2 : Option Addr} {n1 n2 c1 c2 : Nat} {l1 l2 : List UInt8} (h1 : SlC I S a1 n1 (bts l1)) (h2 : SlC I S a2 n2 (bts l2)) :
    Tri Tryz.prog 226 #[.slice a1 n1 c1, .slice a2 n2 c2] I S fun v J S' => v = .bool (decide (l1 = l2)) ∧ I = J ∧ S' = S := by
  refine Tri.of (args := [.slice a1 n1 c1, .slice a2 n2 c2]) tabOk Tryz.func226 rfl (by kernel_rfl) (by kernel_rfl) ?_
  refine convStrD tabOk rfl rfl rfl rfl rfl h1 ?_
  refine convStrD tabOk rfl rfl rfl rfl rfl h2 ?_
  refine CmpD.keep ?_
  refine Done.mk ⟨?_, rfl, rfl⟩
  rw [bytes_toList, bytes_toList]; rfl
end Go.Proofs.YtegdcjnjnoeinaaGreat
namespace Go.Proofs.YtegdcjnjnoeinaaGreat
open Go.RowKit Go.Sl
set_option maxRecDepth 20000

theorem snoc_ind {α : Type} {p : List α → Prop} (h0 : p []) (h1 : ∀ l a, p l → p (l ++ [a])) (l : List α) : p l := by
  have : ∀ n (l : List α), l.length = n → p l := by
    intro n
    induction n with
    | zero => intro l hl; rw [List.length_eq_zero_iff.1 hl]; exact h0
    | succ n ih =>
      intro l hl
      have hne : l ≠ [] := by rintro rfl; simp at hl
      rw [← List.dropLast_concat_getLast hne]
      exact h1 _ _ (ih _ (by rw [List.length_dropLast]; omega))
  exact this _ l rfl
/-- bytes as a number, the greatest first -/
def nb (l : List UInt8) : Nat := l.foldl (fun v b => v * 256 ||| b.toNat) 0
theorem nb_snoc (l : List UInt8) (b : UInt8) : nb (l ++ [b]) = nb l * 256 ||| b.toNat := by simp [nb]
theorem nb_lt (l : List UInt8) : nb l < 2 ^ (8 * l.length) := by
  refine snoc_ind (p := fun l => nb l < 2 ^ (8 * l.length)) (by simp [nb]) ?_ l
  · intro l b ih
    rw [nb_snoc, List.length_append, List.length_singleton]
    have hb : b.toNat < 2 ^ (8 * (l.length + 1)) := Nat.lt_of_lt_of_le b.toNat_lt (Nat.pow_le_pow_right (by omega) (by omega))
    refine Nat.or_lt_two_pow ?_ hb
    rw [show 8 * (l.length + 1) = 8 * l.length + 8 by omega, Nat.pow_add]
    omega
def numV (l : List UInt8) (at_ : Int) (n : Nat) : Nat × Bool := if at_ < 0 ∨ (l.length : Int) - n < at_ then (0, false) else (nb ((l.drop at_.toNat).take n), true)
theorem octets_number {I : Imm} {S : St} {a : Option Addr} {len cap : Nat} {l : List UInt8} (h : SlC I S a len (bts l)) (hlen : len ≤ 1000000000) (at_ : Int) (hat : In64 at_) (n : Nat) (hn : n ≤ 8) :
    Tri Tryz.prog 251 #[.slice a len cap, .int .i64 at_, .int .i64 n] I S fun v J S' => v = .tuple #[.int .u64 (numV l at_ n).1, .bool (numV l at_ n).2] ∧ I = J ∧ S' = S := by
  have hl : l.length = len := by rw [← bts_length, h.len]
  unfold In64 at hat
  unfold numV
  refine Tri.of (args := [.slice a len cap, .int .i64 at_, .int .i64 n]) tabOk Tryz.func251 rfl (by kernel_rfl) (by kernel_rfl) ?_
  refine CmpD.split (fun c1 => ?_) (fun c1 => ?_)
  · rw [if_pos (.inl c1)]; exact Done.mk ⟨rfl, rfl, rfl⟩
  refine ToD.i64 (by omega) (by omega) ?_
  refine CmpD.split (fun c2 => ?_) (fun c2 => ?_)
  · rw [if_pos (.inr (by rw [hl]; exact c2))]; exact Done.mk ⟨rfl, rfl, rfl⟩
  rw [if_neg (by rw [hl]; omega)]
  obtain ⟨k, rfl⟩ : ∃ k : Nat, at_ = k := ⟨at_.toNat, by omega⟩
  rw [show ((k : Int)).toNat = k from rfl]
  refine CodeF.loopD [0, 1, 8, 20, 21] (fun vs J' S' => ∃ (i : Nat), i ≤ n ∧ vs = [.slice a len cap, .int .i64 k, .int .u64 (nb ((l.drop k).take i) : Nat), .int .i64 n, .int .i64 i] ∧ I = J' ∧ S' = S)
    (fun vs _ _ => match vs with | [_, _, _, _, .int _ i] => ((n : Int) - i).toNat | _ => 0) ?_ ?_
  · exact ⟨_, Drop.refl _, 0, by omega, rfl, rfl, rfl⟩
  rintro vs g J' S' hJ' ⟨i, hi, rfl, rfl, rfl⟩
  refine CmpD.split (fun c3 => ?_) (fun c3 => ?_)
  · have hin : k + i < l.length := by omega
    rcases h.mem with h0 | ⟨b, off, rfl, hc⟩
    · omega
    have hv := nb_lt ((l.drop k).take i)
    have hvl : ((l.drop k).take i).length ≤ 7 := by rw [List.length_take]; omega
    have hv2 : nb ((l.drop k).take i) < 2 ^ 56 := Nat.lt_of_lt_of_le hv (Nat.pow_le_pow_right (by omega) (by omega))
    have htk : (l.drop k).take (i + 1) = (l.drop k).take i ++ [l[k + i]] := by
      rw [List.take_add_one, List.getElem?_drop, List.getElem?_eq_getElem hin]; rfl
    refine Chk.mk (by omega) ?_
    refine ToD.to ((nb ((l.drop k).take i) * 256 : Nat) : Int) ?_ ?_
    · rw [wrap_u rfl (by show 0 ≤ (nb ((l.drop k).take i) : Int) * 2 ^ 8; omega) (by show (nb ((l.drop k).take i) : Int) * 2 ^ 8 < 2 ^ 64; omega)]
      show (nb ((l.drop k).take i) : Int) * 2 ^ 8 = _; omega
    refine ToD.i64 (by omega) (by omega) ?_
    refine Chk.mk (by omega) ?_
    refine LoadD.mk [byte l[k + i]] (hc.at (i := k + i) (bts_get (List.getElem?_eq_getElem hin))) ?_
    have hb := l[k + i].toNat_lt
    refine ToD.to ((l[k + i].toNat : Nat) : Int) (wrap_u rfl (by omega) (by show (l[k + i].toNat : Int) < 2 ^ 64; omega)) ?_
    refine ToD.to ((nb ((l.drop k).take i) * 256 ||| l[k + i].toNat : Nat) : Int) (u64_or_nat _ _ (by omega) (by omega)) ?_
    refine ToD.i64 (by omega) (by omega) ?_
    refine ⟨_, Drop.refl _, ⟨i + 1, by omega, by rw [htk, nb_snoc]; rfl, rfl, rfl⟩, ?_⟩
    show ((n : Int) - ((i : Int) + 1)).toNat < ((n : Int) - (i : Int)).toNat
    omega
  · obtain rfl : i = n := by omega
    exact Done.mk ⟨rfl, rfl, rfl⟩
theorem octets_U64 {I : Imm} {S : St} {a : Option Addr} {len cap : Nat} {l : List UInt8} (h : SlC I S a len (bts l)) (hlen : len ≤ 1000000000) (at_ : Int) (hat : In64 at_) :
    Tri Tryz.prog 225 #[.slice a len cap, .int .i64 at_] I S fun v J S' => v = .tuple #[.int .u64 (numV l at_ 8).1, .bool (numV l at_ 8).2] ∧ I = J ∧ S' = S := by
  refine Tri.of (args := [.slice a len cap, .int .i64 at_]) tabOk Tryz.func225 rfl (by kernel_rfl) (by kernel_rfl) ?_
  refine Tri.mono (octets_number h hlen at_ hat 8 (by omega)) ?_
  rintro v J S' hJ ⟨rfl, rfl, rfl⟩
  exact Done.mk ⟨rfl, rfl, rfl⟩
end Go.Proofs.YtegdcjnjnoeinaaGreat
namespace Go.Proofs.YtegdcjnjnoeinaaGreat
open Go.RowKit Go.Sl
set_option maxRecDepth 20000

structure Sup where
  blocks : Int
  epoch : Int
  seq : Int
  tail : Int
@[reducible] def Sup.v (s : Sup) : Value := .agg #[.int .i64 s.blocks, .int .i64 s.epoch, .int .i64 s.seq, .int .i64 s.tail]
def RightS (s : Sup) : Prop := 64 ≤ s.blocks ∧ s.blocks ≤ 512 ∧ 1 ≤ s.epoch ∧ s.epoch ≤ 8388608 ∧ 1 ≤ s.seq ∧ s.seq ≤ 549755813888 ∧ 0 ≤ s.tail ∧ s.tail ≤ 511
instance (s : Sup) : Decidable (RightS s) := by unfold RightS; infer_instance
def magicL : Dat := [76, 69, 68, 71, 69, 82, 48, 49]
def sup40 (s : Sup) : Dat := magicL ++ be s.blocks.toNat 8 ++ be s.epoch.toNat 8 ++ be s.seq.toNat 8 ++ be s.tail.toNat 8
def sup44 (s : Sup) : Dat := sup40 s ++ be (crcMore 0 (sup40 s)) 4
def supL (s : Sup) : Dat := sup44 s ++ List.replicate 4052 0
theorem sup40_length (s : Sup) : (sup40 s).length = 40 := by simp [sup40, be_length, magicL]
theorem sup44_length (s : Sup) : (sup44 s).length = 44 := by simp [sup44, be_length, sup40_length]
theorem supL_length (s : Sup) : (supL s).length = 4096 := by rw [supL, List.length_append, sup44_length, List.length_replicate]
theorem super_within (a n b : Int) (I : Imm) (S : St) : Tri Tryz.prog 204 #[.int .i64 a, .int .i64 n, .int .i64 b] I S fun v J S' => v = .bool (decide (a ≤ n ∧ n ≤ b)) ∧ I = J ∧ S' = S := by
  refine Tri.of (args := [.int .i64 a, .int .i64 n, .int .i64 b]) tabOk Tryz.func204 rfl (by kernel_rfl) (by kernel_rfl) ?_
  refine CmpD.split (fun c1 => ?_) (fun c1 => ?_)
  · refine CmpD.keep ?_
    refine Done.mk ⟨?_, rfl, rfl⟩
    show Value.bool _ = Value.bool _
    congr 1; simp [show a ≤ n by omega]
  · refine Done.mk ⟨?_, rfl, rfl⟩
    show Value.bool _ = Value.bool _
    rw [decide_eq_false (by omega)]
theorem super_right (s : Sup) (I : Imm) : Tri Tryz.prog 179 #[s.v] I [] fun v J _ => v = .bool (decide (RightS s)) ∧ I = J := by
  refine Tri.of (args := [s.v]) tabOk Tryz.func179 rfl (by kernel_rfl) (by kernel_rfl) ?_
  conv => whnf
  intro b
  repeat (first | refine LoadD.own 0 rfl _ rfl rfl ?_)
  refine Tri.nf (super_within 64 s.blocks 512 I _) ?_
  rintro _ _ _ _ ⟨rfl, rfl, rfl⟩
  have no : ¬ RightS s → decide (RightS s) = false := decide_eq_false
  by_cases c1 : 64 ≤ s.blocks ∧ s.blocks ≤ 512
  rotate_left
  · rw [decide_eq_false c1, no (fun h => c1 ⟨h.1, h.2.1⟩)]
    exact Done.mk ⟨rfl, rfl⟩
  rw [decide_eq_true c1]
  repeat (first | refine LoadD.own 0 rfl _ rfl rfl ?_)
  refine Tri.nf (super_within 1 s.epoch 8388608 I _) ?_
  rintro _ _ _ _ ⟨rfl, rfl, rfl⟩
  by_cases c2 : 1 ≤ s.epoch ∧ s.epoch ≤ 8388608
  rotate_left
  · rw [decide_eq_false c2, no (fun h => c2 ⟨h.2.2.1, h.2.2.2.1⟩)]
    exact Done.mk ⟨rfl, rfl⟩
  rw [decide_eq_true c2]
  repeat (first | refine LoadD.own 0 rfl _ rfl rfl ?_)
  refine Tri.nf (super_within 1 s.seq 549755813888 I _) ?_
  rintro _ _ _ _ ⟨rfl, rfl, rfl⟩
  by_cases c3 : 1 ≤ s.seq ∧ s.seq ≤ 549755813888
  rotate_left
  · rw [decide_eq_false c3, no (fun h => c3 ⟨h.2.2.2.2.1, h.2.2.2.2.2.1⟩)]
    exact Done.mk ⟨rfl, rfl⟩
  rw [decide_eq_true c3]
  repeat (first | refine LoadD.own 0 rfl _ rfl rfl ?_)
  refine Tri.nf (super_within 0 s.tail 511 I _) ?_
  rintro _ _ _ _ ⟨rfl, rfl, rfl⟩
  have e : decide (0 ≤ s.tail ∧ s.tail ≤ 511) = decide (RightS s) := by
    by_cases h : RightS s
    · rw [decide_eq_true h, decide_eq_true ⟨h.2.2.2.2.2.2.1, h.2.2.2.2.2.2.2⟩]
    · rw [no h, decide_eq_false (fun h' => h ⟨c1.1, c1.2, c2.1, c2.2, c3.1, c3.2, h'.1, h'.2⟩)]
  rw [e]
  exact Done.mk ⟨rfl, rfl⟩
set_option maxHeartbeats 1000000 in
theorem super_Put (s : Sup) (I : Imm) : Tri Tryz.prog 124 #[s.v] I [] fun v J S' => I = J ∧
    ((¬ RightS s ∧ v = .tuple #[.slice none 0 0, .int .i64 2] ∧ S' = []) ∨ (RightS s ∧ ∃ a cap ch, v = .tuple #[.slice a 4096 cap, .int .i64 0] ∧ OwnB ch a 4096 cap (supL s) ∧ S' = [ch])) := by
  refine Tri.drop ?_ (fun _ _ _ _ h => h)
  refine Tri.of (args := [s.v]) tabOk Tryz.func124 rfl (by kernel_rfl) (by kernel_rfl) ?_
  conv => whnf
  intro b
  repeat (first | refine LoadD.own 0 rfl _ rfl rfl ?_)
  refine Tri.free (super_right s I) ?_
  rintro v J _ hJ ⟨rfl, rfl⟩
  by_cases hR : RightS s
  rotate_left
  · rw [decide_eq_false hR]
    exact Done.mk ⟨[], ⟨_, List.Perm.refl _⟩, rfl, .inl ⟨hR, rfl, rfl⟩⟩
  rw [decide_eq_true hR]
  have hR2 := hR
  unfold RightS at hR2
  conv => whnf
  intro bM
  refine convMarkD tabOk rfl rfl rfl rfl 1 rfl ?_
  repeat (first | refine LoadD.own 0 rfl _ rfl rfl ?_)
  conv => whnf
  intro bN
  obtain ⟨nB, hB⟩ : ∃ n : Nat, s.blocks = n := ⟨s.blocks.toNat, by omega⟩
  obtain ⟨nE, hE⟩ : ∃ n : Nat, s.epoch = n := ⟨s.epoch.toNat, by omega⟩
  obtain ⟨nS, hS⟩ : ∃ n : Nat, s.seq = n := ⟨s.seq.toNat, by omega⟩
  obtain ⟨nT, hTl⟩ : ∃ n : Nat, s.tail = n := ⟨s.tail.toNat, by omega⟩
  have h40 : sup40 s = magicL ++ [nB, nE, nS, nT].flatMap (fun n => be n 8) := by
    unfold sup40
    rw [hB, hE, hS, hTl]
    simp
  refine CodeF.loopD [4, 20, 21, 22] (fun vs J' S' => ∃ (i : Nat) (a : Option Addr) (cap : Nat) (ch : List Blk), i ≤ 4 ∧ S' = [[(bN, row [.int .i64 s.blocks, .int .i64 s.epoch, .int .i64 s.seq, .int .i64 s.tail] 3)], ch] ∧ SlC I S' a (8 + 8 * i) (bts (magicL ++ (([nB, nE, nS, nT] : List Nat).take i).flatMap (fun n => be n 8))) ∧ vs = [.slice a (8 + 8 * i : Nat) cap, .slice (some ⟨bN, 0, none⟩) 4 4, .int .i64 4, .int .i64 i] ∧ I = J')
    (fun vs _ _ => match vs with | [_, _, _, .int _ i] => ((4 : Int) - i).toNat | _ => 0) ?_ ?_
  · refine ⟨_, Drop.pick [2, 1] _ rfl, 0, some ⟨bM, 0, none⟩, 8, _, by omega, rfl, ⟨rfl, .inr ⟨bM, 0, rfl, _, _, _, .own 1 List.mem_cons_self, rfl, rfl⟩⟩, rfl, rfl⟩
  rintro vs gE J' S' hJ' ⟨i, a, cap, ch, hi, rfl, hsl, rfl, rfl⟩
  refine CmpD.split (fun c1 => ?_) (fun c1 => ?_)
  · have h4 : i = 0 ∨ i = 1 ∨ i = 2 ∨ i = 3 := by omega
    rcases h4 with rfl | rfl | rfl | rfl
    all_goals
      refine Chk.mk (by decide) ?_
      refine LoadD.own 0 rfl _ rfl rfl ?_
      first
        | refine ToD.to (nB : Int) (by show IntKind.u64.wrap s.blocks = _; rw [hB]; exact wrap_u64 nB (by omega)) ?_
        | refine ToD.to (nE : Int) (by show IntKind.u64.wrap s.epoch = _; rw [hE]; exact wrap_u64 nE (by omega)) ?_
        | refine ToD.to (nS : Int) (by show IntKind.u64.wrap s.seq = _; rw [hS]; exact wrap_u64 nS (by omega)) ?_
        | refine ToD.to (nT : Int) (by show IntKind.u64.wrap s.tail = _; rw [hTl]; exact wrap_u64 nT (by omega)) ?_
      refine Tri.nf (octets_Add64 I _ a _ cap _ hsl _ (by omega) (by omega)) ?_
      rintro v J2 S2 hJ2 ⟨a2, cap2, ch2, rfl, hown, rfl, rfl⟩
      refine ToD.i64 (by decide) (by decide) ?_
      first
        | refine ⟨_, Drop.pick [0, 2] _ rfl, ⟨1, a2, cap2, ch2, ?_, rfl, ?_, rfl, rfl⟩, ?_⟩
        | refine ⟨_, Drop.pick [0, 2] _ rfl, ⟨2, a2, cap2, ch2, ?_, rfl, ?_, rfl, rfl⟩, ?_⟩
        | refine ⟨_, Drop.pick [0, 2] _ rfl, ⟨3, a2, cap2, ch2, ?_, rfl, ?_, rfl, rfl⟩, ?_⟩
        | refine ⟨_, Drop.pick [0, 2] _ rfl, ⟨4, a2, cap2, ch2, ?_, rfl, ?_, rfl, rfl⟩, ?_⟩
      · decide
      · have := hown.slC1 (I := I) (S := [[(bN, row [.int .i64 s.blocks, .int .i64 s.epoch, .int .i64 s.seq, .int .i64 s.tail] 3)], ch2]) 1 rfl
        show SlC I [[(bN, row [.int .i64 s.blocks, .int .i64 s.epoch, .int .i64 s.seq, .int .i64 s.tail] 3)], ch2] a2 _ _
        simpa [List.append_assoc] using this
      · first
        | (show (4 - (((0 : Nat) : Int) + 1)).toNat < (4 - ((0 : Nat) : Int)).toNat; decide)
        | (show (4 - (((1 : Nat) : Int) + 1)).toNat < (4 - ((1 : Nat) : Int)).toNat; decide)
        | (show (4 - (((2 : Nat) : Int) + 1)).toNat < (4 - ((2 : Nat) : Int)).toNat; decide)
        | (show (4 - (((3 : Nat) : Int) + 1)).toNat < (4 - ((3 : Nat) : Int)).toNat; decide)
  · obtain rfl : i = 4 := by omega
    have h40' : magicL ++ (([nB, nE, nS, nT] : List Nat).take 4).flatMap (fun n => be n 8) = sup40 s := by rw [h40]; rfl
    rw [h40'] at hsl
    skip
    refine Tri.nf (sums_Crc I _ a _ cap _ hsl (by omega)) ?_
    rintro v J2 S2 hJ2 ⟨rfl, rfl, rfl⟩
    have hcrc : crcMore 0 (sup40 s) < 4294967296 := Nat.xor_lt_two_pow (n := 32) (crcReg_lt (by decide) _) (by decide)
    refine Tri.nf (octets_Add32 I _ a _ cap _ hsl _ hcrc (by omega)) ?_
    rintro v J2 S2 hJ2 ⟨a2, cap2, ch2, rfl, hown, rfl, rfl⟩
    refine ToD.to ((4052 : Nat) : Int) (by decide) ?_
    refine appendZD tabOk rfl rfl rfl rfl rfl rfl rfl rfl 2 rfl hown 4052 rfl rfl (by decide) (by intro v hv; have hv : v ∈ [Value.int .u8 0] := hv; simp at hv; subst hv; rfl) (by show (8 + 8 * 4 + 4 + 4052) * 1 ≤ _; omega) (by omega) ?_
    intro a3 cap3 ch3 hown3
    refine Done.mk ⟨[ch3], Drop.pick [2] _ rfl, rfl, .inr ⟨hR, a3, cap3, ch3, rfl, ?_, rfl⟩⟩
    have e : bts (supL s) = bts (sup40 s ++ be (crcMore 0 (sup40 s)) 4) ++ rows 4052 [Value.int .u8 0] := by rw [rows_zero, ← bts_append]; rfl
    rw [OwnB, e]
    exact hown3
end Go.Proofs.YtegdcjnjnoeinaaGreat
namespace Go.Proofs.YtegdcjnjnoeinaaGreat
open Go.RowKit Go.Sl
set_option maxRecDepth 20000

theorem be_snoc (v n : Nat) : be v (n + 1) = be (v / 256) n ++ [UInt8.ofNat v] := by
  unfold be
  rw [List.range_succ, List.map_append, List.map_singleton]
  congr 1
  · apply List.map_congr_left
    intro i hi
    have := List.mem_range.1 hi
    congr 1
    rw [show 8 * (n + 1 - 1 - i) = 8 + 8 * (n - 1 - i) by omega, Nat.pow_add, Nat.div_div_eq_div_mul]
  · congr 2
    rw [show 8 * (n + 1 - 1 - n) = 0 by omega]; simp
theorem or_low (a b : Nat) (h : b < 256) : a * 256 ||| b = a * 256 + b := by
  have := Nat.shiftLeft_add_eq_or_of_lt (i := 8) (b := b) (by omega) a
  rw [Nat.shiftLeft_eq] at this
  exact this.symm
theorem nb_be : ∀ (n v : Nat), v < 256 ^ n → nb (be v n) = v
  | 0, v, h => by simp [be, nb] at *; omega
  | n + 1, v, h => by
    rw [be_snoc, nb_snoc, nb_be n (v / 256) (by rw [Nat.pow_succ] at h; omega)]
    have e : (UInt8.ofNat v).toNat = v % 256 := by simp [UInt8.toNat_ofNat']
    rw [e, or_low _ _ (by omega)]; omega
theorem supL_at (s : Sup) : ((supL s).drop 8).take 8 = be s.blocks.toNat 8 ∧ ((supL s).drop 16).take 8 = be s.epoch.toNat 8 ∧ ((supL s).drop 24).take 8 = be s.seq.toNat 8 ∧ ((supL s).drop 32).take 8 = be s.tail.toNat 8 := by
  have key : ∀ (x y z : Dat) (k : Nat), x.length = k → y.length = 8 → ((x ++ y ++ z).drop k).take 8 = y := by
    intro x y z k hx hy
    subst hx
    rw [List.append_assoc, List.drop_left, ← hy, List.take_left]
  refine ⟨?_, ?_, ?_, ?_⟩
  · rw [show supL s = magicL ++ be s.blocks.toNat 8 ++ (be s.epoch.toNat 8 ++ be s.seq.toNat 8 ++ be s.tail.toNat 8 ++ be (crcMore 0 (sup40 s)) 4 ++ List.replicate 4052 0) by simp [supL, sup44, sup40]]
    exact key _ _ _ _ rfl (be_length _ _)
  · rw [show supL s = (magicL ++ be s.blocks.toNat 8) ++ be s.epoch.toNat 8 ++ (be s.seq.toNat 8 ++ be s.tail.toNat 8 ++ be (crcMore 0 (sup40 s)) 4 ++ List.replicate 4052 0) by simp [supL, sup44, sup40]]
    exact key _ _ _ _ (by simp [be_length, magicL]) (be_length _ _)
  · rw [show supL s = (magicL ++ be s.blocks.toNat 8 ++ be s.epoch.toNat 8) ++ be s.seq.toNat 8 ++ (be s.tail.toNat 8 ++ be (crcMore 0 (sup40 s)) 4 ++ List.replicate 4052 0) by simp [supL, sup44, sup40]]
    exact key _ _ _ _ (by simp [be_length, magicL]) (be_length _ _)
  · rw [show supL s = (magicL ++ be s.blocks.toNat 8 ++ be s.epoch.toNat 8 ++ be s.seq.toNat 8) ++ be s.tail.toNat 8 ++ (be (crcMore 0 (sup40 s)) 4 ++ List.replicate 4052 0) by simp [supL, sup44, sup40]]
    exact key _ _ _ _ (by simp [be_length, magicL]) (be_length _ _)
/-- what bytes say, read -/
def decS (b : Dat) : Sup := ⟨IntKind.i64.wrap ((numV b 8 8).1 : Int), IntKind.i64.wrap ((numV b 16 8).1 : Int), IntKind.i64.wrap ((numV b 24 8).1 : Int), IntKind.i64.wrap ((numV b 32 8).1 : Int)⟩
theorem dec_supL (s : Sup) (h : RightS s) : decS (supL s) = s := by
  obtain ⟨h1, h2, h3, h4, h5, h6, h7, h8⟩ := h
  obtain ⟨a1, a2, a3, a4⟩ := supL_at s
  have key : ∀ (k : Nat) (x : Int), ((supL s).drop k).take 8 = be x.toNat 8 → k ≤ 4000 → 0 ≤ x → x ≤ 549755813888 → IntKind.i64.wrap ((numV (supL s) k 8).1 : Int) = x := by
    intro k x hx hk h0 hm
    unfold numV
    rw [if_neg (by rw [supL_length]; omega)]
    show IntKind.i64.wrap ((nb (((supL s).drop ((k : Int)).toNat).take 8) : Nat) : Int) = x
    rw [show ((k : Int)).toNat = k from rfl, hx, nb_be 8 _ (by omega), wrap_i64 (by omega) (by omega)]
    omega
  unfold decS
  rw [show (8 : Int) = ((8 : Nat) : Int) from rfl, show (16 : Int) = ((16 : Nat) : Int) from rfl, show (24 : Int) = ((24 : Nat) : Int) from rfl, show (32 : Int) = ((32 : Nat) : Int) from rfl,
    key 8 s.blocks a1 (by omega) (by omega) (by omega), key 16 s.epoch a2 (by omega) (by omega) (by omega), key 24 s.seq a3 (by omega) (by omega) (by omega), key 32 s.tail a4 (by omega) (by omega) (by omega)]
def getS (b : Dat) : Option Sup := if RightS (decS b) ∧ supL (decS b) = b then some (decS b) else none
theorem getS_some {b : Dat} {s : Sup} : getS b = some s ↔ RightS s ∧ supL s = b := by
  unfold getS
  constructor
  · intro h
    split at h
    · rename_i h1; cases h; exact h1
    · cases h
  · rintro ⟨h1, h2⟩
    have : decS b = s := by rw [← h2, dec_supL s h1]
    rw [this, if_pos ⟨h1, h2⟩]
@[reducible] def getV (r : Option Sup) : Value := match r with
  | some s => .tuple #[s.v, .int .i64 0]
  | none => .tuple #[Sup.v ⟨0, 0, 0, 0⟩, .int .i64 30]
set_option maxHeartbeats 1000000 in
theorem super_Get {I : Imm} {a : Option Addr} {len cap : Nat} {b : Dat} (h : Rds I a len (bts b)) (hlen : len ≤ 1000000000) : Tri Tryz.prog 197 #[.slice a len cap] I [] fun v J _ => I = J ∧ v = getV (getS b) := by
  refine Tri.of (args := [.slice a len cap]) tabOk Tryz.func197 rfl (by kernel_rfl) (by kernel_rfl) ?_
  conv => whnf
  intro b2
  conv => whnf
  intro b4
  refine CodeF.loopD [0, 2, 4, 11] (fun vs J' S' => ∃ (i : Nat), i ≤ 4 ∧ vs = [.slice a len cap, .pointer (some ⟨b2, 0, none⟩), .pointer (some ⟨b4, 0, none⟩), .int .i64 i] ∧ I = J' ∧
      S' = [[(b2, row [.int .i64 0, .int .i64 0, .int .i64 0, .int .i64 0] 143)], [(b4, row ((List.range 4).map fun (j : Nat) => Value.int .i64 (if j < i then IntKind.i64.wrap ((numV b (8 + 8 * j) 8).1 : Int) else 0)) 279)]])
    (fun vs _ _ => match vs with | [_, _, _, .int _ i] => ((4 : Int) - i).toNat | _ => 0) ?_ ?_
  · exact ⟨_, Drop.refl _, 0, by omega, rfl, rfl, rfl⟩
  rintro vs gE J' S' hJ' ⟨i, hi, rfl, rfl, rfl⟩
  refine CmpD.split (fun c1 => ?_) (fun c1 => ?_)
  · have h4 : i = 0 ∨ i = 1 ∨ i = 2 ∨ i = 3 := by omega
    rcases h4 with rfl | rfl | rfl | rfl
    all_goals
      refine ToD.i64 (by decide) (by decide) ?_
      refine ToD.i64 (by decide) (by decide) ?_
      refine Tri.nf (octets_U64 (l := b) h.slC hlen _ (by unfold In64; decide)) ?_
      rintro v J2 S2 hJ2 ⟨rfl, rfl, rfl⟩
      refine ToD.keep ?_
      refine Chk.mk (by decide) ?_
      refine StoreD.st 1 rfl rfl rfl ?_
      refine ToD.i64 (by decide) (by decide) ?_
      first
        | refine ⟨_, Drop.refl _, ⟨1, by omega, rfl, rfl, rfl⟩, ?_⟩
        | refine ⟨_, Drop.refl _, ⟨2, by omega, rfl, rfl, rfl⟩, ?_⟩
        | refine ⟨_, Drop.refl _, ⟨3, by omega, rfl, rfl, rfl⟩, ?_⟩
        | refine ⟨_, Drop.refl _, ⟨4, by omega, rfl, rfl, rfl⟩, ?_⟩
      first
        | (show (4 - (((0 : Nat) : Int) + 1)).toNat < (4 - ((0 : Nat) : Int)).toNat; decide)
        | (show (4 - (((1 : Nat) : Int) + 1)).toNat < (4 - ((1 : Nat) : Int)).toNat; decide)
        | (show (4 - (((2 : Nat) : Int) + 1)).toNat < (4 - ((2 : Nat) : Int)).toNat; decide)
        | (show (4 - (((3 : Nat) : Int) + 1)).toNat < (4 - ((3 : Nat) : Int)).toNat; decide)
  · obtain rfl : i = 4 := by omega
    have e4 : ((List.range 4).map fun (j : Nat) => Value.int .i64 (if j < 4 then IntKind.i64.wrap ((numV b (8 + 8 * j) 8).1 : Int) else 0)) = [.int .i64 (decS b).blocks, .int .i64 (decS b).epoch, .int .i64 (decS b).seq, .int .i64 (decS b).tail] := rfl
    rw [e4]
    clear e4
    repeat (first | refine LoadD.own 1 rfl _ rfl rfl ?_ | refine Chk.mk (by omega) ?_)
    conv => whnf
    intro b8
    repeat (first | refine LoadD.own 2 rfl _ rfl rfl ?_ | refine StoreD.st 2 rfl rfl rfl ?_)
    refine Tri.frameX (super_Put (decS b) I) [] rfl rfl ?_
    unfold getS
    rintro v J2 S2 hJ2 ⟨rfl, ⟨hR, rfl, rfl⟩ | ⟨hR, a2, cap2, ch2, rfl, hown, rfl⟩⟩
    · rw [if_neg (fun h => hR h.1)]
      repeat (first | refine LoadD.own 0 rfl _ rfl rfl ?_ | refine StoreD.st 0 rfl rfl rfl ?_ | refine CmpD.no (by decide) ?_)
      exact Done.mk ⟨rfl, rfl⟩
    · repeat (first | refine CmpD.yes rfl ?_)
      refine Tri.nf (bytes_Equal (l1 := supL (decS b)) (l2 := b) ?_ ?_) ?_
      · exact hown.slC1 3 rfl
      · exact h.slC
      rintro v J3 S3 hJ3 ⟨rfl, rfl, rfl⟩
      by_cases hb : supL (decS b) = b
      · rw [decide_eq_true hb, if_pos ⟨hR, hb⟩]
        repeat (first | refine LoadD.own 0 rfl _ rfl rfl ?_ | refine LoadD.own 2 rfl _ rfl rfl ?_ | refine StoreD.st 0 rfl rfl rfl ?_)
        exact Done.mk ⟨rfl, rfl⟩
      · rw [decide_eq_false hb, if_neg (fun h => hb h.2)]
        repeat (first | refine LoadD.own 0 rfl _ rfl rfl ?_ | refine StoreD.st 0 rfl rfl rfl ?_)
        exact Done.mk ⟨rfl, rfl⟩
end Go.Proofs.YtegdcjnjnoeinaaGreat
namespace Go.Proofs.YtegdcjnjnoeinaaGreat
open Go.RowKit Go.Sl
set_option maxRecDepth 20000

theorem two_ways (r : Option Sup) {p : Prop} (h1 : ∀ s, r = some s → p) (h2 : r = none → p) : p := by
  cases r with
  | none => exact h2 rfl
  | some s => exact h1 s rfl
@[reducible] def Sup.zero : Sup := ⟨0, 0, 0, 0⟩
def chooseP : Option Sup → Option Sup → Sup × Int × Bool
  | none, none => (Sup.zero, 0, false)
  | none, some y => (y, 1, true)
  | some x, none => (x, 0, true)
  | some x, some y => if y.epoch < x.epoch ∨ (y.epoch = x.epoch ∧ y.seq ≤ x.seq) then (x, 0, true) else (y, 1, true)
@[reducible] def chooseV (r : Sup × Int × Bool) : Value := .tuple #[r.1.v, .int .i64 r.2.1, .bool r.2.2]
theorem replay_Choose {I : Imm} {a1 a2 : Option Addr} {n1 n2 c1 c2 : Nat} {l1 l2 : Dat} (h1 : Rds I a1 n1 (bts l1)) (h2 : Rds I a2 n2 (bts l2)) (hn1 : n1 ≤ 1000000000) (hn2 : n2 ≤ 1000000000) :
    Tri Tryz.prog 168 #[.slice a1 n1 c1, .slice a2 n2 c2] I [] fun v J _ => I = J ∧ v = chooseV (chooseP (getS l1) (getS l2)) := by
  refine Tri.of (args := [.slice a1 n1 c1, .slice a2 n2 c2]) tabOk Tryz.func168 rfl (by kernel_rfl) (by kernel_rfl) ?_
  conv => whnf
  intro b4
  refine Tri.free (super_Get h1 hn1) ?_
  rintro v J _ hJ ⟨rfl, rfl⟩
  refine Go.Proofs.YtegdcjnjnoeinaaGreat.two_ways (getS l1) (fun s1 e1 => ?_) (fun e1 => ?_)
  all_goals
    rw [e1]
    conv => whnf
    intro b7
    repeat (first | refine StoreD.st 1 rfl rfl rfl ?_)
    refine Tri.free (super_Get h2 hn2) ?_
    rintro v J _ hJ ⟨rfl, rfl⟩
    refine Go.Proofs.YtegdcjnjnoeinaaGreat.two_ways (getS l2) (fun s2 e2 => ?_) (fun e2 => ?_)
  all_goals
    rw [e2]
    conv => whnf
    intro b9
    repeat (first | refine LoadD.own 0 rfl _ rfl rfl ?_ | refine LoadD.own 1 rfl _ rfl rfl ?_ | refine LoadD.own 2 rfl _ rfl rfl ?_ | refine StoreD.st 0 rfl rfl rfl ?_ | refine StoreD.st 2 rfl rfl rfl ?_ | refine CmpD.yes rfl ?_ | refine CmpD.no (by decide) ?_)
  · refine CmpD.split (fun c1 => ?_) (fun c1 => ?_)
    · repeat (first | refine LoadD.own 0 rfl _ rfl rfl ?_ | refine LoadD.own 1 rfl _ rfl rfl ?_ | refine StoreD.st 0 rfl rfl rfl ?_)
      refine Done.mk ⟨rfl, ?_⟩
      show _ = chooseV (chooseP (some s1) (some s2))
      rw [chooseP, if_pos (.inl c1)]; rfl
    repeat (first | refine LoadD.own 1 rfl _ rfl rfl ?_ | refine LoadD.own 2 rfl _ rfl rfl ?_)
    refine CmpD.split (fun c2 => ?_) (fun c2 => ?_)
    · repeat (first | refine LoadD.own 1 rfl _ rfl rfl ?_ | refine LoadD.own 2 rfl _ rfl rfl ?_)
      refine CmpD.split (fun c3 => ?_) (fun c3 => ?_)
      · repeat (first | refine LoadD.own 0 rfl _ rfl rfl ?_ | refine LoadD.own 1 rfl _ rfl rfl ?_ | refine StoreD.st 0 rfl rfl rfl ?_)
        refine Done.mk ⟨rfl, ?_⟩
        show _ = chooseV (chooseP (some s1) (some s2))
        rw [chooseP, if_pos (.inr ⟨c2, c3⟩)]; rfl
      · repeat (first | refine LoadD.own 0 rfl _ rfl rfl ?_ | refine LoadD.own 2 rfl _ rfl rfl ?_ | refine StoreD.st 0 rfl rfl rfl ?_)
        refine Done.mk ⟨rfl, ?_⟩
        show _ = chooseV (chooseP (some s1) (some s2))
        rw [chooseP, if_neg (by rintro (h | h); exact c1 h; exact c3 h.2)]; rfl
    · repeat (first | refine LoadD.own 0 rfl _ rfl rfl ?_ | refine LoadD.own 2 rfl _ rfl rfl ?_ | refine StoreD.st 0 rfl rfl rfl ?_)
      refine Done.mk ⟨rfl, ?_⟩
      show _ = chooseV (chooseP (some s1) (some s2))
      rw [chooseP, if_neg (by rintro (h | h); exact c1 h; exact c2 h.1)]; rfl
  all_goals exact Done.mk ⟨rfl, rfl⟩
end Go.Proofs.YtegdcjnjnoeinaaGreat
namespace Go.Proofs.YtegdcjnjnoeinaaGreat
open Go.RowKit Go.Sl
set_option maxRecDepth 20000

def lowL (v i : Nat) : Dat := (List.range i).map fun j => UInt8.ofNat (v / 256 ^ j)
theorem lowL_succ (v i : Nat) : lowL v (i + 1) = lowL v i ++ [UInt8.ofNat (v / 256 ^ i)] := by simp [lowL, List.range_succ]
theorem be_take (v n k : Nat) (hk : k < n) : (be v n)[k]? = some (UInt8.ofNat (v / 256 ^ (n - 1 - k))) := by
  unfold be
  rw [List.getElem?_map, List.getElem?_range hk]
  simp only [Option.map_some]
  rw [Nat.pow_mul]
set_option maxHeartbeats 1000000 in
theorem ref_Add {I : Imm} {a : Option Addr} {len cap : Nat} {l : Dat} (c0 : List Blk) (h : SlC I [c0] a len (bts l)) (hlen : len ≤ 1000000) (v : Nat) (hv : v < 18446744073709551616) (n : Nat) (hn : n ≤ 8) :
    Tri Tryz.prog 200 #[.slice a len cap, .int .u64 v, .int .i64 n] I [c0] fun r J S' => ∃ a' cap' ch, r = .slice a' (len + n) cap' ∧ OwnB ch a' (len + n) cap' (l ++ be v n) ∧ I = J ∧ S' = [c0, ch] := by
  have hl : l.length = len := by rw [← bts_length, h.len]
  refine Tri.drop ?_ (fun _ _ _ _ h => h)
  refine Tri.of (args := [.slice a len cap, .int .u64 v, .int .i64 n]) tabOk Tryz.func200 rfl (by kernel_rfl) (by kernel_rfl) ?_
  have hpow : ∀ i : Nat, v / 256 ^ i < 18446744073709551616 := fun i => Nat.lt_of_le_of_lt (Nat.div_le_self _ _) hv
  refine CodeF.loopD [0, 1, 2, 7, 8] (fun vs J' S' => ∃ (i : Nat) (a1 : Option Addr) (cap1 : Nat) (ch1 : List Blk), i ≤ n ∧ OwnB ch1 a1 i cap1 (lowL v i) ∧ vs = [.slice a len cap, .int .u64 (v / 256 ^ i : Nat), .int .i64 n, .slice a1 i cap1, .int .i64 i] ∧ I = J' ∧ S' = [c0, ch1, []])
    (fun vs _ _ => match vs with | [_, _, _, _, .int _ i] => ((n : Int) - i).toNat | _ => 0) ?_ ?_
  · exact ⟨_, Drop.and (Drop.and (Drop.refl _)), 0, none, 0, [], by omega, OwnC.nil _ _, by rw [Nat.pow_zero, Nat.div_one]; rfl, rfl, rfl⟩
  rintro vs gE J' S' hJ' ⟨i, a1, cap1, ch1, hi, hown, rfl, rfl, rfl⟩
  refine CmpD.split (fun c1 => ?_) (fun c1 => ?_)
  · have hp := hpow i
    have hsucc : v / 256 ^ (i + 1) = v / 256 ^ i / 256 := by rw [Nat.pow_succ, Nat.div_div_eq_div_mul]
    have hls := lowL_succ v i
    generalize hq : v / 256 ^ i = q at *
    have hu : (UInt8.ofNat (q)).toNat = q % 256 := by simp [UInt8.toNat_ofNat']
    refine Chk.mk (by decide) ?_
    refine ToD.rem (by omega) ?_
    refine ToD.to ((UInt8.ofNat (q)).toNat : Int) (by rw [hu]; exact wrap_u rfl (by omega) (by show ((q : Nat) : Int) % 256 < 2 ^ 8; omega)) ?_
    conv => whnf
    intro bN
    refine appendD tabOk rfl rfl rfl rfl rfl rfl rfl 1 rfl hown (SrcOk.slice (n := 1) (news := bts [UInt8.ofNat (q)]) tabOk rfl ((OwnC.whole (len := 1) (size := 1) rfl).slC 3 rfl) (bts_plain _)) rfl (by show (i + 1) * 1 ≤ _; omega) (by omega) ?_
    intro a2 cap2 ch2 hown2
    refine Chk.mk (by decide) ?_
    refine ToD.to ((q / 256 : Nat) : Int) (by rw [Int.tdiv_eq_ediv_of_nonneg (by omega)]; show IntKind.u64.wrap ((q : Int) / 256) = _; rw [show (q : Int) / 256 = ((q / 256 : Nat) : Int) by omega]; exact wrap_u64 _ (by omega)) ?_
    refine ToD.i64 (by omega) (by omega) ?_
    refine ⟨_, Drop.pick [0, 1, 2] _ rfl, ⟨i + 1, a2, cap2, ch2, by omega, by rw [OwnB, hls, bts_append]; exact hown2, by rw [hsucc]; rfl, rfl, rfl⟩, ?_⟩
    show ((n : Int) - ((i : Int) + 1)).toNat < ((n : Int) - (i : Int)).toNat
    omega
  · obtain rfl : i = n := by omega
    refine appendD (ch := []) tabOk rfl rfl rfl rfl rfl rfl rfl 2 rfl (OwnC.nil _ _) (SrcOk.slice (n := len) (news := bts l) tabOk rfl (by show SlC _ _ a (len * 1) _; rw [Nat.mul_one]; exact h.mores [ch1, []]) (bts_plain _)) rfl (by show (0 + len) * 1 ≤ _; omega) (by omega) ?_
    intro a9 cap9 ch9 hown9
    rw [Nat.zero_add, List.nil_append] at hown9
    rw [Nat.zero_add]
    refine ToD.i64 (by omega) (by omega) ?_
    have hbl := be_length v i
    refine CodeF.loopD [7, 9, 10] (fun vs J' S' => ∃ (k : Nat) (a2 : Option Addr) (cap2 : Nat) (ch2 : List Blk), k ≤ i ∧ OwnB ch2 a2 (len + k) cap2 (l ++ (be v i).take k) ∧ vs = [.slice a1 i cap1, .slice a2 (len + k) cap2, .int .i64 ((i : Int) - 1 - k)] ∧ I = J' ∧ S' = [c0, ch1, ch2])
      (fun vs _ _ => match vs with | [_, _, .int _ j] => (j + 1).toNat | _ => 0) ?_ ?_
    · refine ⟨_, Drop.refl _, 0, a9, cap9, ch9, by omega, by rw [List.take_zero, List.append_nil]; exact hown9, by rw [show (i : Int) - 1 - ((0 : Nat) : Int) = (i : Int) - 1 by omega]; rfl, rfl, rfl⟩
    rintro vs gE2 J' S' hJ' ⟨k, a2, cap2, ch2, hk, hown2, rfl, rfl, rfl⟩
    refine CmpD.split (fun c2 => ?_) (fun c2 => ?_)
    · have hki : k < i := by omega
      rcases hown.at' with q0 | ⟨b1, pre, post, T1, rfl, rfl, hpost⟩
      · have := hown.le; omega
      obtain ⟨m, hm⟩ : ∃ m, m = i - 1 - k := ⟨_, rfl⟩
      have hcell : (bts (lowL v i))[m]? = some (byte (UInt8.ofNat (v / 256 ^ m))) := bts_get (by unfold lowL; rw [List.getElem?_map, List.getElem?_range (by omega)]; rfl)
      have hbe : (be v i).take (k + 1) = (be v i).take k ++ [UInt8.ofNat (v / 256 ^ m)] := by rw [List.take_add_one, be_take v i k hki, hm]; rfl
      rw [show ((i : Int) - 1 - k) = (m : Int) by omega]
      refine Chk.mk (by omega) ?_
      refine LoadD.own 1 rfl _ (take_get (own_take pre (bts (lowL v i)) post) hcell) rfl ?_
      conv => whnf
      intro bN
      refine appendD tabOk rfl rfl rfl rfl rfl rfl rfl 2 rfl hown2 (SrcOk.slice (n := 1) (news := bts [UInt8.ofNat (v / 256 ^ m)]) tabOk rfl ((OwnC.whole (len := 1) (size := 1) rfl).slC 3 rfl) (bts_plain _)) rfl (by show (len + k + 1) * 1 ≤ _; omega) (by omega) ?_
      intro a3 cap3 ch3 hown3
      refine ToD.to ((i : Int) - 1 - ((k + 1 : Nat) : Int)) (by rw [wrap_i64 (by omega) (by omega)]; omega) ?_
      refine ⟨_, Drop.pick [0, 1, 2] _ rfl, ⟨k + 1, a3, cap3, ch3, by omega, by rw [OwnB, hbe, ← List.append_assoc, bts_append]; exact hown3, rfl, rfl, rfl⟩, ?_⟩
      show ((i : Int) - 1 - ((k + 1 : Nat) : Int) + 1).toNat < ((m : Int) + 1).toNat
      omega
    · obtain rfl : k = i := by omega
      refine Done.mk ⟨[c0, ch2], Drop.pick [0, 2] _ rfl, a2, cap2, ch2, rfl, ?_, rfl, rfl⟩
      rw [List.take_of_length_le (by omega)] at hown2
      exact hown2
end Go.Proofs.YtegdcjnjnoeinaaGreat
namespace Go.Proofs.YtegdcjnjnoeinaaGreat
open Go.RowKit Go.Sl
set_option maxRecDepth 20000

theorem sub_xor (x : Nat) (h : x < 4294967296) : 4294967295 - x = x ^^^ 4294967295 := by
  have h1 : (BitVec.ofNat 32 x ^^^ BitVec.allOnes 32).toNat = x ^^^ 4294967295 := by
    rw [BitVec.toNat_xor, BitVec.toNat_ofNat, Nat.mod_eq_of_lt (by omega), BitVec.toNat_allOnes]
  rw [BitVec.xor_allOnes, BitVec.toNat_not, BitVec.toNat_ofNat, Nat.mod_eq_of_lt (by omega)] at h1
  omega
theorem xor_mod2 (a b : Nat) : (a ^^^ b) % 2 = (a % 2) ^^^ (b % 2) := Nat.xor_mod_two_pow (n := 1) ..
theorem xor_div2 (a b : Nat) : (a ^^^ b) / 2 = (a / 2) ^^^ (b / 2) := by
  apply Nat.eq_of_testBit_eq
  intro i
  simp [Nat.testBit_div_two, Nat.testBit_xor]
def bitS (r c k : Nat) : Nat := if c / 2 ^ k % 2 = r % 2 then r / 2 else (r / 2) ^^^ 2197175160
def bitsS (c r : Nat) : Nat → Nat
  | 0 => r
  | k + 1 => bitS (bitsS c r k) c k
theorem bitsS_turns (c r : Nat) : ∀ k, turns k (r ^^^ c) = bitsS c r k ^^^ (c / 2 ^ k)
  | 0 => by simp [turns, bitsS]
  | k + 1 => by
    rw [turns, bitsS_turns c r k, bitsS, bitS, turn, xor_mod2, xor_div2, show c / 2 ^ (k + 1) = c / 2 ^ k / 2 by rw [Nat.pow_succ, Nat.div_div_eq_div_mul]]
    generalize bitsS c r k = x
    generalize c / 2 ^ k = y
    have hx := Nat.mod_two_eq_zero_or_one x
    have hy := Nat.mod_two_eq_zero_or_one y
    rcases hx with hx | hx <;> rcases hy with hy | hy <;> rw [hx, hy] <;> simp
    · rw [Nat.xor_assoc, Nat.xor_comm (y / 2), ← Nat.xor_assoc]
    · rw [Nat.xor_assoc, Nat.xor_comm (y / 2), ← Nat.xor_assoc]
theorem bitsS_lt {c r : Nat} (hr : r < 4294967296) : ∀ k, bitsS c r k < 4294967296
  | 0 => hr
  | k + 1 => by
    have := bitsS_lt (c := c) hr k
    rw [bitsS, bitS]
    split
    · omega
    · exact Nat.xor_lt_two_pow (n := 32) (by omega) (by decide)
theorem bitsS_8 {c : Nat} (r : Nat) (hc : c < 256) : bitsS c r 8 = turns 8 (r ^^^ c) := by
  rw [bitsS_turns, show c / 2 ^ 8 = 0 by omega, Nat.xor_zero]
theorem shr_nat32 (v s : Nat) (hs : s ≤ 32) : (v : Int).fdiv (2 ^ (min ((s : Int)).toNat IntKind.u32.bits)) = ((v / 2 ^ s : Nat) : Int) := by
  have e : min ((s : Int)).toNat IntKind.u32.bits = s := by
    show min s 32 = s; omega
  rw [e, Int.fdiv_eq_ediv_of_nonneg _ (by exact_mod_cast Nat.zero_le _)]
  norm_cast
set_option maxHeartbeats 1000000 in
theorem ref_More {I : Imm} {S : St} (sum : Nat) (hsum : sum < 4294967296) {a : Option Addr} {len cap : Nat} {l : Dat} (h : SlC I S a len (bts l)) (hlen : len ≤ 1000000000) :
    Tri Tryz.prog 171 #[.int .u32 sum, .slice a len cap] I S fun v J S' => v = .int .u32 (crcMore sum l : Nat) ∧ I = J ∧ S' = S := by
  have hl : l.length = len := by rw [← bts_length, h.len]
  have hs0 : sum ^^^ 4294967295 < 4294967296 := Nat.xor_lt_two_pow (n := 32) hsum (by decide)
  refine Tri.of (args := [.int .u32 sum, .slice a len cap]) tabOk Tryz.func171 rfl (by kernel_rfl) (by kernel_rfl) ?_
  refine ToD.to ((sum ^^^ 4294967295 : Nat) : Int) (by rw [← sub_xor sum hsum, wrap_u rfl (by omega) (by show (4294967295 : Int) - sum < 2 ^ 32; omega)]; omega) ?_
  refine CodeF.loopD [1, 5, 6] (fun vs J' S' => ∃ (i : Nat), i ≤ len ∧ vs = [.slice a len cap, .int .u32 (crcReg (sum ^^^ 4294967295) (l.take i) : Nat), .int .i64 i] ∧ I = J' ∧ S' = S)
    (fun vs _ _ => match vs with | [_, _, .int _ i] => ((len : Int) - i).toNat | _ => 0) ?_ ?_
  · exact ⟨_, Drop.refl _, 0, by omega, rfl, rfl, rfl⟩
  rintro vs gE J' S' hJ' ⟨i, hi, rfl, rfl, rfl⟩
  have hreg := crcReg_lt hs0 (l.take i)
  refine CmpD.split (fun c1 => ?_) (fun c1 => ?_)
  · have hil : i < l.length := by omega
    have htk : l.take (i + 1) = l.take i ++ [l[i]] := by rw [List.take_add_one, List.getElem?_eq_getElem hil]; rfl
    have hc256 := l[i].toNat_lt
    rcases h.mem with h0 | ⟨b, off, rfl, hc⟩
    · omega
    have hcell := hc.at (i := i) (bts_get (List.getElem?_eq_getElem hil))
    generalize hcq : l[i] = cq at *
    refine CodeF.loopD [1, 5, 6, 7] (fun vs J2 S2 => ∃ (k : Nat), k ≤ 8 ∧ vs = [.slice (some ⟨b, off, none⟩) len cap, .int .u32 (bitsS cq.toNat (crcReg (sum ^^^ 4294967295) (l.take i)) k : Nat), .int .i64 i, .int .i64 k] ∧ I = J2 ∧ S2 = S')
      (fun vs _ _ => match vs with | [_, _, _, .int _ k] => ((8 : Int) - k).toNat | _ => 0) ?_ ?_
    · exact ⟨_, Drop.refl _, 0, by omega, rfl, rfl, rfl⟩
    rintro vs gE2 J2 S2 hJ2 ⟨k, hk, rfl, rfl, rfl⟩
    have hb := bitsS_lt (c := cq.toNat) hreg k
    refine CmpD.split (fun c2 => ?_) (fun c2 => ?_)
    · have hstep : bitsS cq.toNat (crcReg (sum ^^^ 4294967295) (l.take i)) (k + 1) = bitS (bitsS cq.toNat (crcReg (sum ^^^ 4294967295) (l.take i)) k) cq.toNat k := rfl
      have hlt2 := bitsS_lt (c := cq.toNat) hreg (k + 1)
      rw [hstep] at hlt2
      have hck : cq.toNat / 2 ^ k < 256 := Nat.lt_of_le_of_lt (Nat.div_le_self _ _) hc256
      generalize bitsS cq.toNat (crcReg (sum ^^^ 4294967295) (l.take i)) k = r at *
      generalize hy : cq.toNat / 2 ^ k = y at *
      refine Chk.mk (by omega) ?_
      refine LoadD.mk [byte cq] hcell ?_
      refine ToD.to ((cq.toNat : Nat) : Int) (wrap_u rfl (by omega) (by show (cq.toNat : Int) < 2 ^ 32; omega)) ?_
      refine ToD.to (k : Int) (wrap_u rfl (by omega) (by show (k : Int) < 2 ^ 64; omega)) ?_
      refine Chk.mk (by omega) ?_
      refine ToD.to (y : Int) (by rw [← hy]; exact shr_nat32 _ _ (by omega)) ?_
      refine Chk.mk (by decide) ?_
      refine ToD.rem (by omega) ?_
      refine Chk.mk (by decide) ?_
      refine ToD.rem (by omega) ?_
      refine Chk.mk (by decide) ?_
      refine ToD.to ((r / 2 : Nat) : Int) (by rw [Int.tdiv_eq_ediv_of_nonneg (by omega)]; show IntKind.u32.wrap ((r : Int) / 2) = _; rw [show (r : Int) / 2 = ((r / 2 : Nat) : Int) by omega]; exact wrap_u32 _ (by omega)) ?_
      unfold bitS at hstep hlt2
      rw [hy] at hstep hlt2
      refine CmpD.split (fun c3 => ?_) (fun c3 => ?_)
      · have c3' : y % 2 = r % 2 := by omega
        rw [if_pos c3'] at hstep
        refine ToD.i64 (by omega) (by omega) ?_
        refine ⟨_, Drop.refl _, ⟨k + 1, by omega, by rw [hstep]; rfl, rfl, rfl⟩, ?_⟩
        show ((8 : Int) - ((k : Int) + 1)).toNat < ((8 : Int) - (k : Int)).toNat
        omega
      · have c3' : ¬ y % 2 = r % 2 := by omega
        rw [if_neg c3'] at hstep hlt2
        refine ToD.to ((r / 2 ^^^ 2197175160 : Nat) : Int) (u32_xor_nat (r / 2) 2197175160 (by omega) (by decide)) ?_
        refine ToD.i64 (by omega) (by omega) ?_
        refine ⟨_, Drop.refl _, ⟨k + 1, by omega, by rw [hstep]; rfl, rfl, rfl⟩, ?_⟩
        show ((8 : Int) - ((k : Int) + 1)).toNat < ((8 : Int) - (k : Int)).toNat
        omega
    · obtain rfl : k = 8 := by omega
      have hsn : crcReg (sum ^^^ 4294967295) (l.take (i + 1)) = bitsS cq.toNat (crcReg (sum ^^^ 4294967295) (l.take i)) 8 := by rw [htk, crcReg_snoc, bitsS_8 _ hc256]
      refine ToD.i64 (by omega) (by omega) ?_
      refine ⟨_, Drop.refl _, ⟨i + 1, by omega, by rw [hsn]; rfl, rfl, rfl⟩, ?_⟩
      show ((len : Int) - ((i : Int) + 1)).toNat < ((len : Int) - (i : Int)).toNat
      omega
  · obtain rfl : i = len := by omega
    rw [List.take_of_length_le (by omega)] at hreg ⊢
    refine ToD.to ((crcMore sum l : Nat) : Int) ?_ ?_
    · unfold crcMore
      rw [← sub_xor _ hreg, wrap_u rfl (by omega) (by show (4294967295 : Int) - _ < 2 ^ 32; omega)]; omega
    exact Done.mk ⟨rfl, rfl, rfl⟩
end Go.Proofs.YtegdcjnjnoeinaaGreat
namespace Go.Proofs.YtegdcjnjnoeinaaGreat
open Go.RowKit Go.Sl
set_option maxRecDepth 20000

theorem ref_Add' {I : Imm} {S : St} {a : Option Addr} {len cap : Nat} {l : Dat} (h : SlC I S a len (bts l)) (hlen : len ≤ 1000000) (v : Nat) (hv : v < 18446744073709551616) (n : Nat) (hn : n ≤ 8) :
    Tri Tryz.prog 200 #[.slice a len cap, .int .u64 v, .int .i64 n] I S fun r J S' => ∃ a' cap' ch, r = .slice a' (len + n) cap' ∧ OwnB ch a' (len + n) cap' (l ++ be v n) ∧ I = J ∧ S' = S ++ [ch] := by
  refine Tri.pack ((ref_Add S.flatten h.pack hlen v hv n hn).mono ?_)
  rintro r J S' hJ ⟨a', cap', ch, rfl, hown, rfl, rfl⟩
  exact ⟨[ch], rfl, a', cap', ch, rfl, hown, rfl, rfl⟩
theorem ref_add {I : Imm} {S : St} {a : Option Addr} {len cap : Nat} {l : Dat} (h : SlC I S a len (bts l)) (hlen : len ≤ 1000000) (x : Int) (hx : 0 ≤ x ∧ x ≤ 9223372036854775807) (n : Nat) (hn : n ≤ 8) :
    Tri Tryz.prog 170 #[.slice a len cap, .int .i64 x, .int .i64 n] I S fun r J S' => ∃ a' cap' ch, r = .slice a' (len + n) cap' ∧ OwnB ch a' (len + n) cap' (l ++ be x.toNat n) ∧ I = J ∧ S' = S ++ [ch] := by
  obtain ⟨k, rfl⟩ : ∃ k : Nat, x = k := ⟨x.toNat, by omega⟩
  refine Tri.of (args := [.slice a len cap, .int .i64 k, .int .i64 n]) tabOk Tryz.func170 rfl (by kernel_rfl) (by kernel_rfl) ?_
  refine ToD.to (k : Int) (wrap_u64 k (by omega)) ?_
  refine Tri.mono (ref_Add' h hlen k (by omega) n hn) ?_
  rintro r J S' hJ ⟨a', cap', ch, rfl, hown, rfl, rfl⟩
  exact Done.mk ⟨a', cap', ch, rfl, hown, rfl, rfl⟩
theorem zeros_snoc (l : Dat) (n : Nat) : l ++ List.replicate n 0 ++ [0] = l ++ List.replicate (n + 1) (0 : UInt8) := by
  rw [List.append_assoc, ← List.replicate_succ']
set_option maxHeartbeats 2000000 in
theorem ref_PutSuper (s : Sup) (I : Imm) : Tri Tryz.prog 111 #[s.v] I [] fun v J S' => I = J ∧
    ((¬ RightS s ∧ v = .tuple #[.slice none 0 0, .int .i64 2] ∧ S' = []) ∨ (RightS s ∧ ∃ a cap ch, v = .tuple #[.slice a 4096 cap, .int .i64 0] ∧ OwnB ch a 4096 cap (supL s) ∧ S' = [ch])) := by
  refine Tri.drop ?_ (fun _ _ _ _ h => h)
  refine Tri.of (args := [s.v]) tabOk Tryz.func111 rfl (by kernel_rfl) (by kernel_rfl) ?_
  conv => whnf
  intro b
  repeat (first | refine LoadD.own 0 rfl _ rfl rfl ?_)
  by_cases hR : RightS s
  rotate_left
  · have fin : ∃ S'', Drop [[(b, row [.int .i64 s.blocks, .int .i64 s.epoch, .int .i64 s.seq, .int .i64 s.tail] 143)]] S'' ∧ I = I ∧ ((¬ RightS s ∧ Value.tuple #[.slice none 0 0, .int .i64 2] = .tuple #[.slice none 0 0, .int .i64 2] ∧ S'' = []) ∨ (RightS s ∧ ∃ a cap ch, Value.tuple #[.slice none 0 0, .int .i64 2] = .tuple #[.slice a 4096 cap, .int .i64 0] ∧ OwnB ch a 4096 cap (supL s) ∧ S'' = [ch])) :=
      ⟨[], ⟨_, List.Perm.refl _⟩, rfl, .inl ⟨hR, rfl, rfl⟩⟩
    refine CmpD.split (fun c1 => ?_) (fun c1 => ?_)
    · exact Done.mk fin
    repeat (first | refine LoadD.own 0 rfl _ rfl rfl ?_)
    refine CmpD.split (fun c2 => ?_) (fun c2 => ?_)
    · exact Done.mk fin
    repeat (first | refine LoadD.own 0 rfl _ rfl rfl ?_)
    refine CmpD.split (fun c3 => ?_) (fun c3 => ?_)
    · exact Done.mk fin
    repeat (first | refine LoadD.own 0 rfl _ rfl rfl ?_)
    refine CmpD.split (fun c4 => ?_) (fun c4 => ?_)
    · exact Done.mk fin
    repeat (first | refine LoadD.own 0 rfl _ rfl rfl ?_)
    refine CmpD.split (fun c5 => ?_) (fun c5 => ?_)
    · exact Done.mk fin
    repeat (first | refine LoadD.own 0 rfl _ rfl rfl ?_)
    refine CmpD.split (fun c6 => ?_) (fun c6 => ?_)
    · exact Done.mk fin
    repeat (first | refine LoadD.own 0 rfl _ rfl rfl ?_)
    refine CmpD.split (fun c7 => ?_) (fun c7 => ?_)
    · exact Done.mk fin
    repeat (first | refine LoadD.own 0 rfl _ rfl rfl ?_)
    refine CmpD.split (fun c8 => ?_) (fun c8 => ?_)
    · exact Done.mk fin
    exact absurd ⟨by omega, by omega, by omega, by omega, by omega, by omega, by omega, by omega⟩ hR
  have hR2 := hR
  unfold RightS at hR2
  repeat (first | refine LoadD.own 0 rfl _ rfl rfl ?_ | refine CmpD.no (by omega) ?_)
  refine CodeF.sched [[], [0], [], [2], [0, 1, 2, 3], [], [5], [0, 1, 2, 3, 4, 5, 6], [], [8], [0, 1, 2, 3, 4, 5, 6, 7, 8, 9], [], [11], [0, 1, 2, 3, 4, 5, 6, 7, 8, 9, 10, 11, 12], [0, 1, 2, 3, 4, 5, 6, 7, 8, 9, 10, 11, 12, 13]] [2, 3, 5, 6, 8, 9, 11, 12, 0, 1, 4, 7, 10, 13, 14] (by kernel_rfl) ?_
  repeat (first | refine LoadP.at 0 rfl _ rfl rfl ?_)
  conv => whnf
  intro bM
  repeat (first | refine Chk.mk ⟨rfl, rfl, rfl, rfl, trivial⟩ ?_)
  refine convMarkD tabOk rfl rfl rfl rfl 1 rfl ?_
  repeat (first | refine Chk.mk ⟨rfl, rfl, rfl, rfl, trivial⟩ ?_)
  refine Tri.nf (ref_add (l := magicL) ?_ (by omega) s.blocks (by omega) 8 (by omega)) ?_
  · exact ⟨rfl, .inr ⟨bM, 0, rfl, _, _, _, .own 1 List.mem_cons_self, rfl, rfl⟩⟩
  rintro v J S' hJ ⟨a1, cap1, ch1, rfl, h1, rfl, rfl⟩
  repeat (first | refine Chk.mk ⟨rfl, rfl, rfl, trivial⟩ ?_)
  refine Tri.nf (ref_add (h1.slC1 2 rfl) (by omega) s.epoch (by omega) 8 (by omega)) ?_
  rintro v J S' hJ ⟨a2, cap2, ch2, rfl, h2, rfl, rfl⟩
  repeat (first | refine Chk.mk ⟨rfl, rfl, trivial⟩ ?_)
  refine Tri.nf (ref_add (h2.slC1 3 rfl) (by omega) s.seq (by omega) 8 (by omega)) ?_
  rintro v J S' hJ ⟨a3, cap3, ch3, rfl, h3, rfl, rfl⟩
  repeat (first | refine Chk.mk ⟨rfl, trivial⟩ ?_)
  refine Tri.nf (ref_add (h3.slC1 4 rfl) (by omega) s.tail (by omega) 8 (by omega)) ?_
  rintro v J S' hJ ⟨a4, cap4, ch4, rfl, h4, rfl, rfl⟩
  skip
  have h40 : OwnB ch4 a4 (8 + 8 + 8 + 8 + 8) cap4 (sup40 s) := h4
  refine Tri.nf (ref_More 0 (by decide) (h40.slC1 5 rfl) (by omega)) ?_
  rintro v J S' hJ ⟨rfl, rfl, rfl⟩
  have hcrc : crcMore 0 (sup40 s) < 4294967296 := Nat.xor_lt_two_pow (n := 32) (crcReg_lt (by decide) _) (by decide)
  refine ToD.to ((crcMore 0 (sup40 s) : Nat) : Int) (wrap_i64 (by omega) (by omega)) ?_
  refine Tri.nf (ref_add (h40.slC1 5 rfl) (by omega) _ (by omega) 4 (by omega)) ?_
  rintro v J S' hJ ⟨a5, cap5, ch5, rfl, h5, rfl, rfl⟩
  have h44 : OwnB ch5 a5 44 cap5 (sup44 s) := h5
  refine CodeF.loopD [4] (fun vs J' S' => ∃ (i : Nat) (a : Option Addr) (cap : Nat) (ch : List Blk), i ≤ 4052 ∧ OwnB ch a (44 + i) cap (sup44 s ++ List.replicate i 0) ∧ vs = [.slice a (44 + i) cap] ∧ I = J' ∧ S' = [ch])
    (fun vs _ _ => match vs with | [.slice _ l _] => 4096 - l | _ => 0) ?_ ?_
  · exact ⟨_, Drop.pick [6] _ rfl, 0, a5, cap5, ch5, by omega, by rw [List.replicate_zero, List.append_nil]; exact h44, rfl, rfl, rfl⟩
  rintro vs gE J' S' hJ' ⟨i, a, cap, ch, hi, hown, rfl, rfl, rfl⟩
  refine CmpD.split (fun c1 => ?_) (fun c1 => ?_)
  · conv => whnf
    intro bN
    refine appendD tabOk rfl rfl rfl rfl rfl rfl rfl 0 rfl hown (SrcOk.slice (n := 1) (news := bts [0]) tabOk rfl ((OwnC.whole (len := 1) (size := 1) rfl).slC 1 rfl) (bts_plain _)) rfl (by show (44 + i + 1) * 1 ≤ _; omega) (by omega) ?_
    intro a2 cap2 ch2 hown2
    refine ⟨_, Drop.pick [0] _ rfl, ⟨i + 1, a2, cap2, ch2, by omega, by rw [OwnB, ← zeros_snoc, bts_append]; exact hown2, rfl, rfl, rfl⟩, ?_⟩
    show 4096 - (44 + i + 1) < 4096 - (44 + i)
    omega
  · obtain rfl : i = 4052 := by omega
    exact Done.mk ⟨[ch], Drop.refl _, rfl, .inr ⟨hR, a, cap, ch, rfl, hown, rfl⟩⟩
/-- law 10's superblock as bytes, fixed -/
def superOf (epoch seq : Int) : Sup := ⟨64, epoch, seq, 0⟩
end Go.Proofs.YtegdcjnjnoeinaaGreat
namespace Go.Proofs
open Go.Shelf
def Tryz.lays189_ren : Go.Shelf.Ren := ⟨fun | 189 => 163 | 125 => 196 | 257 => 195 | 128 => 223 | 129 => 224 | 294 => 214 | 295 => 215 | 296 => 216 | 297 => 217 | 298 => 218 | 299 => 219 | 216 => 220 | 300 => 221 | 301 => 222 | 328 => 245 | 329 => 246 | 330 => 247 | 331 => 248 | 332 => 249 | 215 => 250 | 343 => 262 | n => n, fun | 28 => 28 | 3 => 3 | 46 => 136 | 0 => 0 | 51 => 206 | 53 => 135 | 4 => 4 | 183 => 271 | 182 => 270 | 131 => 275 | 5 => 5 | 9 => 9 | 218 => 291 | 222 => 295 | 228 => 303 | 229 => 304 | n => n, fun | n => n⟩
theorem Tryz.lays189 : Go.Proofs.Lays.n189 Tryz.prog Tryz.lays189_ren := {
  mixed := by kernel_rfl
  f125 := Tryz.func196.trans (congrArg some (by kernel_rfl))
  f128 := Tryz.func223.trans (congrArg some (by kernel_rfl))
  f129 := Tryz.func224.trans (congrArg some (by kernel_rfl))
  f189 := Tryz.func163.trans (congrArg some (by kernel_rfl))
  f215 := Tryz.func250.trans (congrArg some (by kernel_rfl))
  f216 := Tryz.func220.trans (congrArg some (by kernel_rfl))
  f257 := Tryz.func195.trans (congrArg some (by kernel_rfl))
  f294 := Tryz.func214.trans (congrArg some (by kernel_rfl))
  f295 := Tryz.func215.trans (congrArg some (by kernel_rfl))
  f296 := Tryz.func216.trans (congrArg some (by kernel_rfl))
  f297 := Tryz.func217.trans (congrArg some (by kernel_rfl))
  f298 := Tryz.func218.trans (congrArg some (by kernel_rfl))
  f299 := Tryz.func219.trans (congrArg some (by kernel_rfl))
  f300 := Tryz.func221.trans (congrArg some (by kernel_rfl))
  f301 := Tryz.func222.trans (congrArg some (by kernel_rfl))
  f328 := Tryz.func245.trans (congrArg some (by kernel_rfl))
  f329 := Tryz.func246.trans (congrArg some (by kernel_rfl))
  f330 := Tryz.func247.trans (congrArg some (by kernel_rfl))
  f331 := Tryz.func248.trans (congrArg some (by kernel_rfl))
  f332 := Tryz.func249.trans (congrArg some (by kernel_rfl))
  f343 := Tryz.func262.trans (congrArg some (by kernel_rfl))
  t0 := Tryz.underlying0
  a0 := Tryz.isAgg0
  z0 := Tryz.sizeOf0
  v0 := Tryz.zeroValue0
  t3 := Tryz.underlying3
  a3 := Tryz.isAgg3
  z3 := Tryz.sizeOf3
  v3 := Tryz.zeroValue3
  t4 := Tryz.underlying4
  a4 := Tryz.isAgg4
  z4 := Tryz.sizeOf4
  v4 := Tryz.zeroValue4
  t5 := Tryz.underlying5
  a5 := Tryz.isAgg5
  z5 := Tryz.sizeOf5
  v5 := Tryz.zeroValue5
  t9 := Tryz.underlying9
  a9 := Tryz.isAgg9
  z9 := Tryz.sizeOf9
  v9 := Tryz.zeroValue9
  t28 := Tryz.underlying28
  a28 := Tryz.isAgg28
  z28 := Tryz.sizeOf28
  v28 := Tryz.zeroValue28
  t46 := Tryz.underlying136
  a46 := Tryz.isAgg136
  z46 := Tryz.sizeOf136
  v46 := Tryz.zeroValue136
  t51 := Tryz.underlying206
  a51 := Tryz.isAgg206
  z51 := Tryz.sizeOf206
  v51 := Tryz.zeroValue206
  t53 := Tryz.underlying135
  a53 := Tryz.isAgg135
  z53 := Tryz.sizeOf135
  v53 := Tryz.zeroValue135
  t131 := Tryz.underlying275
  a131 := Tryz.isAgg275
  z131 := Tryz.sizeOf275
  v131 := Tryz.zeroValue275
  t182 := Tryz.underlying270
  a182 := Tryz.isAgg270
  z182 := Tryz.sizeOf270
  v182 := Tryz.zeroValue270
  t183 := Tryz.underlying271
  a183 := Tryz.isAgg271
  z183 := Tryz.sizeOf271
  v183 := Tryz.zeroValue271
  t218 := Tryz.underlying291
  a218 := Tryz.isAgg291
  z218 := Tryz.sizeOf291
  v218 := Tryz.zeroValue291
  t222 := Tryz.underlying295
  a222 := Tryz.isAgg295
  z222 := Tryz.sizeOf295
  v222 := Tryz.zeroValue295
  t228 := Tryz.underlying303
  a228 := Tryz.isAgg303
  z228 := Tryz.sizeOf303
  v228 := Tryz.zeroValue303
  t229 := Tryz.underlying304
  a229 := Tryz.isAgg304
  z229 := Tryz.sizeOf304
  v229 := Tryz.zeroValue304 }
open Go.Sort Go.RowKit in
theorem Tryz.slices_Sort_int (blk off cap : Nat) (zs : List Int) (w : World) (hH : Holds (Value.int .i64) w blk off zs.toArray) (hblk : blk < w.heap.size) (hsz : zs.length < 4611686018427387904) :
    Calls Tryz.prog 163 #[.slice (some ⟨blk, off, none⟩) zs.length cap] w fun e w' =>
      e = .returned (.tuple #[]) ∧ ∃ n os, w' = grow (putRow (Value.int .i64) (Sort.ahead w n) blk off (zs.mergeSort fun x y => decide (x ≤ y)).toArray) os := Any.slices_Sort_int Tryz.lays189 blk off cap zs w hH hblk hsz
open Go.RowKit Go.Sort in
/-- .. and plain. (LAID: no walk: one application.) -/
theorem Tryz.slices_Sort_int_none (p : Option Addr) (cap : Nat) (w : World) :
    Calls Tryz.prog 163 #[.slice p 0 cap] w fun e w' => e = .returned (.tuple #[]) ∧ w' = w := Any.slices_Sort_int_none Tryz.lays189 p cap w
end Go.Proofs
namespace Go.Proofs.YtegdcjnjnoeinaaGreat
open Go.RowKit Go.Sl
set_option maxRecDepth 20000

theorem nodup_len {α : Type} [DecidableEq α] : ∀ (l m : List α), l.Nodup → (∀ x ∈ l, x ∈ m) → l.length ≤ m.length
  | [], _, _, _ => by simp
  | x :: l, m, h, hs => by
    have hx := hs x (by simp)
    rw [List.nodup_cons] at h
    have h1 := nodup_len l (m.erase x) h.2 (fun y hy => (List.mem_erase_of_ne (by rintro rfl; exact h.1 hy)).2 (hs y (by simp [hy])))
    rw [List.length_erase_of_mem hx] at h1
    have h2 : 0 < m.length := List.length_pos_of_mem hx
    rw [List.length_cons]; omega
theorem keys_of (r : Nat) (I : Imm) (S : St) : Tri Tryz.prog 90 #[.map (some r)] I S fun v J S' => ∃ b, v = .func (.func 164) #[] #[.pointer (some ⟨b, 0, none⟩)] ∧ I = J ∧ S' = S ++ [[(b, row [.map (some r)] 47)]] := by
  refine Tri.of (args := [.map (some r)]) tabOk Tryz.func90 rfl (by kernel_rfl) (by kernel_rfl) ?_
  conv => whnf
  intro b
  exact Done.mk ⟨b, rfl, rfl, rfl⟩
@[reducible] def keyBox (b r : Nat) : List Blk := [(b, row [.map (some r)] 47)]
theorem keys_it (b r : Nat) (ob : Obj) (l : List (Int × Value)) (hM : MapR ob l) (I : Imm) :
    SeqG Tryz.prog 164 #[.pointer (some ⟨b, 0, none⟩)] I [keyBox b r, [(r, ob)]] (σ := List Int) [] (fun s xs s' => ∃ n, xs = [.int .i64 n] ∧ n ∉ s ∧ n ∈ l.map Prod.fst ∧ s' = s ++ [n])
      (fun s _ R => s.Nodup ∧ (∀ n, n ∈ s ↔ n ∈ l.map Prod.fst) ∧ R = [[(r, ob)]]) (fun _ R => R = [[(r, ob)]]) := by
  intro lp inv stp J c hJ hY h0
  refine Tri.drop ?_ (fun _ _ _ _ h => h)
  refine Tri.of (args := [.func (.yield lp) #[] #[], .pointer (some ⟨b, 0, none⟩)]) tabOk Tryz.func164 rfl (by kernel_rfl) (by kernel_rfl) ?_
  refine LoadD.own 1 rfl [.map (some r)] rfl rfl ?_
  refine rangeMapD tabOk rfl rfl rfl 2 rfl hM ?_
  intro bi it0 hI0
  refine CodeF.loopD [0, 5] (fun vs J' S' => ∃ (s : List Int) (c' : List Blk) (it : Obj), s.Nodup ∧ (∀ n ∈ s, n ∈ l.map Prod.fst) ∧ IterR r ob it s ∧ inv s J' c' ∧ J.le J' ∧ vs = [.func (.yield lp) #[] #[], .pointer (some ⟨bi, 0, none⟩)] ∧ S' = [c', keyBox b r, [(r, ob)], [(bi, it)]])
    (fun _ _ S' => match S' with | [_, _, _, [(_, .mapIter _ _ sb _)]] => l.length + 1 - sb.size | _ => 0) ?_ ?_
  · exact ⟨_, Drop.refl _, [], c, it0, by simp, by simp, hI0, h0, J.le_refl, rfl, rfl⟩
  rintro vs g J' S' hJ' ⟨s, c', it, hnd, hsub, hI, hinv, hJJ, rfl, rfl⟩
  have hsz : ∀ it s, IterR r ob it s → ∃ a q sb t, it = .mapIter a q sb t ∧ sb.size = s.length := by
    rintro it s ⟨es, clk, sb, c0, ms, _, rfl, _, _, h1, _, h2⟩
    refine ⟨_, _, _, _, rfl, ?_⟩
    have h3 := congrArg List.length h1
    have h4 := congrArg List.length h2
    simp only [List.length_map, Array.length_toList] at h3 h4
    omega
  refine nextMapD rfl rfl 2 3 rfl rfl hM hI ?_ ?_
  · intro hall
    refine Done.mk ⟨[c', [(r, ob)]], Drop.pick [0, 2] _ rfl, c', _, rfl, .inl ⟨s, ⟨hnd, fun n => ⟨hsub n, fun hn => ?_⟩, rfl⟩, hinv⟩⟩
    obtain ⟨p, hp, rfl⟩ := List.mem_map.1 hn
    exact hall p hp
  · intro n v it' hmem hns hI'
    refine entryMapD rfl rfl 2 3 rfl rfl hM hI' ?_
    intro v' hv'
    have hnk : n ∈ l.map Prod.fst := List.mem_map.2 ⟨(n, v), hmem, rfl⟩
    refine yieldD rfl rfl rfl (args := #[.int .i64 n]) rfl 0 rfl (hY s [.int .i64 n] (s ++ [n]) J' c' hJJ ⟨n, rfl, hns, hnk, rfl⟩ hinv) ?_
    have hnd2 : (s ++ [n]).Nodup := by
      rw [List.nodup_append]
      refine ⟨hnd, by simp, ?_⟩
      intro a ha b' hb' hab
      simp only [List.mem_singleton] at hb'
      subst hb'; subst hab; exact hns ha
    have hsub2 : ∀ m ∈ s ++ [n], m ∈ l.map Prod.fst := by
      intro m hm
      rcases List.mem_append.1 hm with hm | hm
      · exact hsub m hm
      · simp only [List.mem_singleton] at hm; subst hm; exact hnk
    rintro bb J2 c2 hle (⟨rfl, hi2⟩ | ⟨rfl, hs2⟩)
    · refine ⟨_, Drop.refl _, ⟨s ++ [n], c2, it', hnd2, hsub2, hI', hi2, Imm.le_trans hJJ hle, rfl, rfl⟩, ?_⟩
      obtain ⟨a1, q1, sb1, t1, rfl, e1⟩ := hsz _ _ hI
      obtain ⟨a2, q2, sb2, t2, rfl, e2⟩ := hsz _ _ hI'
      show l.length + 1 - sb2.size < l.length + 1 - sb1.size
      have h5 : (s ++ [n]).length ≤ (l.map Prod.fst).length := nodup_len _ _ hnd2 hsub2
      rw [List.length_append, List.length_map, List.length_singleton] at h5
      rw [List.length_append, List.length_singleton] at e2
      omega
    · exact Done.mk ⟨[c2, [(r, ob)]], Drop.pick [0, 2] _ rfl, c2, _, rfl, .inr ⟨hs2, rfl⟩⟩
/-- the keys, collected -/
theorem appendSeq_keys (b r : Nat) (ob : Obj) (l : List (Int × Value)) (hM : MapR ob l) (hl : l.length ≤ 1000000) (I : Imm) :
    Tri Tryz.prog 194 #[.slice none 0 0, .func (.func 164) #[] #[.pointer (some ⟨b, 0, none⟩)]] I [keyBox b r, [(r, ob)]] fun v J S' =>
      ∃ a cap ch s, v = .slice a s.length cap ∧ OwnC ch 1 a s.length cap (ints s) ∧ s.Nodup ∧ (∀ n, n ∈ s ↔ n ∈ l.map Prod.fst) ∧ I.le J ∧ S' = [[(r, ob)], ch] := by
  refine Tri.drop ?_ (fun _ _ _ _ h => h)
  refine Tri.of (args := [.slice none 0 0, .func (.func 164) #[] #[.pointer (some ⟨b, 0, none⟩)]]) tabOk Tryz.func194 rfl (by kernel_rfl) (by kernel_rfl) ?_
  conv => whnf
  intro b2
  refine CodeF.rangeG rfl [[(b2, row [.slice none 0 0] 28)], []] [keyBox b r, [(r, ob)]] ((Drop.pick [2, 0, 1] _ rfl).trans (Drop.flat (by simp [St.at]))) (keys_it b r ob l hM I) (by rintro s xs s' ⟨n, rfl, _⟩; rfl)
    (fun s J' S' => ∃ (a : Option Addr) (cap : Nat) (ch : List Blk), s.Nodup ∧ (∀ n ∈ s, n ∈ l.map Prod.fst) ∧ S' = [[(b2, row [.slice a s.length cap] 28)], ch] ∧ OwnC ch 1 a s.length cap (ints s) ∧ I.le J')
    (fun _ _ _ => False) ⟨none, 0, [], by simp, by simp, rfl, OwnC.nil _ _, I.le_refl⟩ ?round ?done ?stop
  case round =>
    rintro s xs s' J' S' hJ' ⟨n, rfl, hns, hnk, rfl⟩ ⟨a, cap, ch, hnd, hsub, rfl, hown, hle⟩
    have hnd2 : (s ++ [n]).Nodup := by
      rw [List.nodup_append]
      refine ⟨hnd, by simp, ?_⟩
      intro a ha b' hb' hab
      simp only [List.mem_singleton] at hb'
      subst hb'; subst hab; exact hns ha
    have hsub2 : ∀ m ∈ s ++ [n], m ∈ l.map Prod.fst := by
      intro m hm
      rcases List.mem_append.1 hm with hm | hm
      · exact hsub m hm
      · simp only [List.mem_singleton] at hm; subst hm; exact hnk
    have h5 : (s ++ [n]).length ≤ (l.map Prod.fst).length := nodup_len _ _ hnd2 hsub2
    rw [List.length_append, List.length_map, List.length_singleton] at h5
    repeat (first | refine LoadD.own 0 rfl _ rfl rfl ?_)
    conv => whnf
    intro bN
    refine appendD tabOk rfl rfl rfl rfl rfl rfl rfl 1 rfl hown (SrcOk.slice (n := 1) (news := ints [n]) tabOk rfl ((OwnC.whole (len := 1) (size := 1) rfl).slC 2 rfl) (ints_plain _)) rfl (by show (s.length + 1) * 8 ≤ _; omega) (by omega) ?_
    intro a2 cap2 ch2 hown2
    repeat (first | refine StoreD.st 0 rfl rfl rfl ?_)
    refine ⟨_, Drop.pick [0, 1] _ rfl, a2, cap2, ch2, hnd2, hsub2, ?_, ?_, hle⟩
    · rw [List.length_append]; rfl
    · rw [List.length_append]; unfold ints at *; rw [List.map_append]; exact hown2
  case done =>
    rintro s J' S' R hJ' ⟨hnd, hall, rfl⟩ ⟨a, cap, ch, _, _, rfl, hown, hle⟩
    repeat (first | refine LoadD.own 0 rfl _ rfl rfl ?_)
    exact Done.mk ⟨[[(r, ob)], ch], Drop.pick [2, 1] _ rfl, a, cap, ch, s, rfl, hown, hnd, hall, hle, rfl⟩
  case stop =>
    rintro e J' S' R hJ' hs _
    exact hs.elim
theorem collect_keys (b r : Nat) (ob : Obj) (l : List (Int × Value)) (hM : MapR ob l) (hl : l.length ≤ 1000000) (I : Imm) :
    Tri Tryz.prog 162 #[.func (.func 164) #[] #[.pointer (some ⟨b, 0, none⟩)]] I [keyBox b r, [(r, ob)]] fun v J S' =>
      ∃ a cap ch s, v = .slice a s.length cap ∧ OwnC ch 1 a s.length cap (ints s) ∧ s.Nodup ∧ (∀ n, n ∈ s ↔ n ∈ l.map Prod.fst) ∧ I.le J ∧ S' = [[(r, ob)], ch] := by
  refine Tri.of (args := [.func (.func 164) #[] #[.pointer (some ⟨b, 0, none⟩)]]) tabOk Tryz.func162 rfl (by kernel_rfl) (by kernel_rfl) ?_
  refine Tri.mono (appendSeq_keys b r ob l hM hl I) ?_
  rintro v J S' hJ ⟨a, cap, ch, s, rfl, h1, h2, h3, h4, rfl⟩
  exact Done.mk ⟨a, cap, ch, s, rfl, h1, h2, h3, h4, rfl⟩
end Go.Proofs.YtegdcjnjnoeinaaGreat
namespace Go.Proofs.YtegdcjnjnoeinaaGreat
open Go.RowKit Go.Sl
set_option maxRecDepth 20000

def sortI (l : List Int) : List Int := l.mergeSort fun x y => decide (x ≤ y)
theorem sortI_perm (l : List Int) : (sortI l).Perm l := List.mergeSort_perm _ _
theorem putCells_mid (pre post : List Value) (zs : List Int) (cs : List Value) (hc : cs.length = zs.length) :
    (Go.Sort.putCells (Value.int .i64) pre.length zs.toArray (pre ++ cs ++ post).toArray).toList = pre ++ ints zs ++ post := by
  apply List.ext_getElem?
  intro j
  simp only [Go.Sort.putCells, Array.toList_mapIdx, List.getElem?_mapIdx, List.size_toArray]
  have hil : (ints zs).length = zs.length := by simp [ints]
  have e : ∀ ds : List Value, ds.length = zs.length → ∀ i, (pre ++ ds ++ post)[i]? = if i < pre.length then pre[i]? else if i - pre.length < zs.length then ds[i - pre.length]? else post[i - pre.length - zs.length]? := by
    intro ds hd i
    rw [List.append_assoc]
    split
    · rename_i h; rw [List.getElem?_append_left h]
    · rename_i h
      rw [List.getElem?_append_right (by omega)]
      split
      · rename_i h2; rw [List.getElem?_append_left (by omega)]
      · rename_i h2; rw [List.getElem?_append_right (by omega), hd]
  rw [e cs hc, e (ints zs) hil]
  by_cases h1 : j < pre.length
  · rw [if_pos h1, if_pos h1, List.getElem?_eq_getElem h1]
    simp only [Option.map_some]
    rw [if_neg (by omega)]
  · rw [if_neg h1, if_neg h1]
    by_cases h2 : j - pre.length < zs.length
    · rw [if_pos h2, if_pos h2, List.getElem?_eq_getElem (by omega), List.getElem?_eq_getElem (by omega)]
      simp only [Option.map_some]
      rw [if_pos (by omega)]
      simp [ints, h2]
    · rw [if_neg h2, if_neg h2]
      cases hp : post[j - pre.length - zs.length]? with
      | none => rfl
      | some v =>
        simp only [Option.map_some]
        rw [if_neg (by omega)]
theorem Has_grow {w : World} {I : Imm} {L : List Blk} (os : Array Obj) (h : Has w I L) : Has (Go.Sort.grow w os) I L := by
  have old : ∀ (b : Nat) (x : Obj), w.heap[b]? = some x → (Go.Sort.grow w os).heap[b]? = some x := fun b x hb => by
    show (w.heap ++ os)[b]? = _
    rw [Array.getElem?_append_left (lt_of_some hb)]; exact hb
  exact ⟨fun b o hb => old _ _ (h.imm b o hb), fun x hx => old _ _ (h.mem x hx), h.nodup, h.disj⟩
theorem sort_ints {I : Imm} {S : St} (k : Nat) {ch : List Blk} (hk : S[k]? = some ch) {a : Option Addr} {len cap : Nat} {zs : List Int} (hown : OwnC ch 1 a len cap (ints zs)) (hlen : len ≤ 1000000000) :
    Tri Tryz.prog 163 #[.slice a len cap] I S fun v J S' => I = J ∧ v = .tuple #[] ∧ ∃ ch', OwnC ch' 1 a len cap (ints (sortI zs)) ∧ S' = S.set k ch' := by
  have hzl : zs.length = len := by have := hown.len1; simpa [ints] using this
  have hlt : k < S.length := by
    rcases Nat.lt_or_ge k S.length with g | g
    · exact g
    · rw [List.getElem?_eq_none g] at hk; cases hk
  have same : S.set k ch = S := by
    apply List.ext_getElem?
    intro j
    by_cases hj : k = j
    · subst hj; rw [List.getElem?_set_self hlt, hk]
    · rw [List.getElem?_set_ne hj]
  refine ⟨fun w F hw => ?_, fun w F hw => ?_⟩
  · simp [callFunc, Tryz.func163]
    kernel_rfl
  · rcases Nat.eq_zero_or_pos len with h0 | h0
    · subst h0
      refine (Tryz.slices_Sort_int_none a cap w).mono ?_
      rintro e w' ⟨rfl, rfl⟩
      have hz : zs = [] := List.length_eq_zero_iff.1 hzl
      subst hz
      exact ⟨_, I, S, rfl, I.le_refl, ⟨rfl, rfl, ch, by simpa [sortI] using hown, same.symm⟩, hw, Ext.refl _⟩
    · rcases hown.at' with q0 | ⟨b, pre, post, T, rfl, rfl, hpost⟩
      · have := hown.le; omega
      have hb : w.heap[b]? = some (row (pre ++ ints zs ++ post) T) := by
        refine In.heap (S := S) (I := I) (.own k ?_) hw
        rw [List.getD_eq_getElem?_getD, hk]; simp
      have hil : (ints zs).length = zs.length := by simp [ints]
      have hholds : Go.Sort.Holds (Value.int .i64) w b pre.length zs.toArray := by
        intro j hj
        have hj : j < zs.length := by simpa using hj
        refine ⟨?_, ?_⟩
        · rw [Go.Sl.cell_of_row hb, List.append_assoc, List.getElem?_append_right (by omega), Nat.add_sub_cancel_left, List.getElem?_append_left (by omega)]
          simp [ints, hj]
        · rw [Go.Sl.frozen_of_row hb]; simp
      have hcall := Tryz.slices_Sort_int b pre.length cap zs w hholds (lt_of_some hb) (by omega)
      rw [hzl] at hcall
      refine hcall.mono ?_
      rintro e w' ⟨rfl, n, os, rfl⟩
      have hblt := lt_of_some hb
      have hsz : ∀ d : Array Int, (Go.Sort.putRow (Value.int .i64) (Go.Sort.ahead w n) b pre.length d).heap.size = w.heap.size := by
        intro d; simp [Go.Sort.putRow, Go.Sort.mapBlock, Go.Sort.ahead]
      refine ⟨_, I, _, rfl, I.le_refl, ⟨rfl, rfl, [(b, row (pre ++ ints (sortI zs) ++ post) T)], ⟨?_, hown.le, .inr ⟨b, pre, post, T, rfl, rfl, hpost⟩⟩, rfl⟩, ?_, ⟨rfl, rfl, rfl, ?_⟩⟩
      · have := (sortI_perm zs).length_eq
        simp [ints, this, hzl]
      · refine Has_grow os (Has.turnAt (A := []) (B := []) hw hk ?_ ?_)
        · have hp := putCells_mid pre post (zs.mergeSort fun x y => decide (x ≤ y)) (ints zs) (by rw [hil, List.length_mergeSort])
          have : (Go.Sort.putCells (Value.int .i64) pre.length (zs.mergeSort fun x y => decide (x ≤ y)).toArray (pre ++ ints zs ++ post).toArray) = (pre ++ ints (sortI zs) ++ post).toArray := Array.ext' hp
          simp only [Go.Sort.putRow, Go.Sort.mapBlock, Go.Sort.ahead, Array.getElem?_modify, hb, if_true, Option.map_some, row, Go.Sort.onCells, this]
        · intro j hj
          simp only [Go.Sort.putRow, Go.Sort.mapBlock, Go.Sort.ahead, Array.getElem?_modify]
          rw [if_neg (Ne.symm hj)]
      · show w.heap.size ≤ (_ ++ os).size
        rw [Array.size_append, hsz]; omega
end Go.Proofs.YtegdcjnjnoeinaaGreat
namespace Go.Proofs.YtegdcjnjnoeinaaGreat
open Go.RowKit Go.Sl
set_option maxRecDepth 20000

theorem sortI_le (l : List Int) : (sortI l).Pairwise (fun a b => a ≤ b) := by
  have := List.pairwise_mergeSort (le := fun x y : Int => decide (x ≤ y)) (by intro a b c h1 h2; simp only [decide_eq_true_eq] at *; omega) (by intro a b; simp only [Bool.or_eq_true, decide_eq_true_eq]; omega) l
  exact this.imp (by intro _ _ h; simpa using h)
theorem sortI_eq {l m : List Int} (h : l.Perm m) : sortI l = sortI m :=
  List.Perm.eq_of_pairwise (le := fun a b => a ≤ b) (fun _ _ _ _ h1 h2 => Int.le_antisymm h1 h2) (sortI_le l) (sortI_le m) ((sortI_perm l).trans (h.trans (sortI_perm m).symm))
/-- the keys, in order -/
def keysOf (l : List (Int × Value)) : List Int := sortI (l.map Prod.fst)
theorem keysOf_length (l : List (Int × Value)) : (keysOf l).length = l.length := by unfold keysOf; rw [(sortI_perm _).length_eq, List.length_map]
theorem sorted_keys (b r : Nat) (ob : Obj) (l : List (Int × Value)) (hM : MapR ob l) (hl : l.length ≤ 1000000) (I : Imm) :
    Tri Tryz.prog 89 #[.func (.func 164) #[] #[.pointer (some ⟨b, 0, none⟩)]] I [keyBox b r, [(r, ob)]] fun v J S' =>
      ∃ a cap ch, v = .slice a l.length cap ∧ OwnC ch 1 a l.length cap (ints (keysOf l)) ∧ I.le J ∧ S' = [[(r, ob)], ch] := by
  have hnd : (l.map Prod.fst).Nodup := by obtain ⟨es, clk, _, h⟩ := hM; exact h.nodup
  refine Tri.of (args := [.func (.func 164) #[] #[.pointer (some ⟨b, 0, none⟩)]]) tabOk Tryz.func89 rfl (by kernel_rfl) (by kernel_rfl) ?_
  refine Tri.nf (collect_keys b r ob l hM hl I) ?_
  rintro v J S' hJ ⟨a, cap, ch, s, rfl, hown, h1, h2, h3, rfl⟩
  have hp : s.Perm (l.map Prod.fst) := (List.perm_ext_iff_of_nodup h1 hnd).2 h2
  have hsl : s.length = l.length := by rw [hp.length_eq, List.length_map]
  rw [hsl] at hown ⊢
  refine Tri.nf (sort_ints 1 rfl hown (by omega)) ?_
  rintro v J2 S' hJ2 ⟨rfl, rfl, ch', hown', rfl⟩
  exact Done.mk ⟨a, cap, ch', rfl, by unfold keysOf; rw [← sortI_eq hp]; exact hown', h3, rfl⟩
end Go.Proofs.YtegdcjnjnoeinaaGreat
namespace Go.Proofs.YtegdcjnjnoeinaaGreat
open Go.RowKit Go.Sl
set_option maxRecDepth 20000

/-- images and groups, read in what is owned or fixed -/
structure ImgR (I : Imm) (S : St) (g : Img) : Prop where
  rd : SlC I S g.a g.len (bts g.data)
structure ImgsR (I : Imm) (S : St) (a : Option Addr) (gs : List Img) : Prop where
  sl : SlC I S a (gs.length * 2) (imgCells gs)
  each : ∀ g ∈ gs, ImgR I S g
theorem ImgR.mores {I : Imm} {S : St} {g : Img} (h : ImgR I S g) (L : St) : ImgR I (S ++ L) g := ⟨h.rd.mores L⟩
/-- a group, as it lies -/
structure Grp where
  e : Int
  s : Int
  a : Option Addr
  cap : Nat
  gs : List Img
def grpCells (l : List Grp) : List Value := l.flatMap fun g => [.int .i64 g.e, .int .i64 g.s, .slice g.a g.gs.length g.cap]
theorem grpCells_at {ws : List Grp} {i : Nat} (h : i < ws.length) : ((grpCells ws).drop (i * 3)).take 3 = [.int .i64 ws[i].e, .int .i64 ws[i].s, .slice ws[i].a ws[i].gs.length ws[i].cap] := by
  induction ws generalizing i with
  | nil => simp at h
  | cons g ws ih =>
    cases i with
    | zero => rfl
    | succ i =>
      have := ih (i := i) (by simpa using h)
      have e : grpCells (g :: ws) = [.int .i64 g.e, .int .i64 g.s, .slice g.a g.gs.length g.cap] ++ grpCells ws := by simp [grpCells]
      rw [e, show (i + 1) * 3 = [Value.int .i64 g.e, .int .i64 g.s, .slice g.a g.gs.length g.cap].length + i * 3 by simp; omega, ← List.drop_drop, List.drop_left]
      simpa using this
structure GrpsR (I : Imm) (S : St) (a : Option Addr) (l : List Grp) : Prop where
  sl : SlC I S a (l.length * 3) (grpCells l)
  each : ∀ g ∈ l, ImgsR I S g.a g.gs ∧ g.gs.length ≤ 1000000
/-- the last image of each block, as a map holds it -/
def hdr (g : Img) : Int × Value := (g.blk, .slice g.a g.len g.cap)
def iput (ms : List Img) (g : Img) : List Img := if g.blk ∈ ms.map Img.blk then ms.map (fun x => if x.blk = g.blk then g else x) else ms ++ [g]
theorem iput_hdr (ms : List Img) (g : Img) : (iput ms g).map hdr = mput (ms.map hdr) g.blk (.slice g.a g.len g.cap) := by
  unfold iput mput
  have e : (ms.map hdr).map Prod.fst = ms.map Img.blk := by rw [List.map_map]; rfl
  rw [e]
  split
  · rw [List.map_map, List.map_map]
    apply List.map_congr_left
    intro x _
    show hdr (if x.blk = g.blk then g else x) = if (hdr x).1 = g.blk then (g.blk, _) else hdr x
    show hdr (if x.blk = g.blk then g else x) = if x.blk = g.blk then (g.blk, _) else hdr x
    split <;> rfl
  · rw [List.map_append]; rfl
theorem iput_mem {ms : List Img} {g x : Img} (h : x ∈ iput ms g) : x = g ∨ x ∈ ms := by
  unfold iput at h
  split at h
  · obtain ⟨y, hy, rfl⟩ := List.mem_map.1 h
    split
    · exact .inl rfl
    · exact .inr hy
  · rcases List.mem_append.1 h with h | h
    · exact .inr h
    · exact .inl (by simpa using h)
theorem iput_len (ms : List Img) (g : Img) : (iput ms g).length ≤ ms.length + 1 := by
  unfold iput; split <;> simp
/-- as values -/
def pput (ms : List PImg) (g : PImg) : List PImg := if g.1 ∈ ms.map Prod.fst then ms.map (fun x => if x.1 = g.1 then g else x) else ms ++ [g]
theorem iput_pr (ms : List Img) (g : Img) : (iput ms g).map Img.pr = pput (ms.map Img.pr) g.pr := by
  unfold iput pput
  have e : (ms.map Img.pr).map Prod.fst = ms.map Img.blk := by rw [List.map_map]; rfl
  rw [e]
  show List.map Img.pr (if g.blk ∈ ms.map Img.blk then _ else _) = if g.blk ∈ ms.map Img.blk then _ else _
  split
  · rw [List.map_map, List.map_map]
    apply List.map_congr_left
    intro x _
    show Img.pr (if x.blk = g.blk then g else x) = if x.blk = g.blk then g.pr else x.pr
    split <;> rfl
  · rw [List.map_append]; rfl
/-- images to their homes: the last of each block, in the blocks' order -/
def lastP (l : List PImg) : List PImg := l.foldl pput []
def homeP (l : List PImg) : List PImg := (sortI ((lastP l).map Prod.fst)).map fun n => (n, ((lastP l).lookup n).getD [])
def HomeOk (lay : Lay) (l : List PImg) : Prop := ∀ g ∈ l, lay.bi ≤ g.1 ∧ g.1 < lay.b
instance (lay : Lay) (l : List PImg) : Decidable (HomeOk lay l) := by unfold HomeOk; infer_instance
end Go.Proofs.YtegdcjnjnoeinaaGreat
namespace Go.Proofs.YtegdcjnjnoeinaaGreat
open Go.RowKit Go.Sl
set_option maxRecDepth 20000

def OwnImgs : List (List Blk) → List Img → Prop
  | [], [] => True
  | c :: cs, g :: gs => OwnB c g.a g.len g.cap g.data ∧ OwnImgs cs gs
  | _, _ => False
theorem OwnImgs.snoc : ∀ {cs : List (List Blk)} {gs : List Img} {c : List Blk} {g : Img}, OwnImgs cs gs → OwnB c g.a g.len g.cap g.data → OwnImgs (cs ++ [c]) (gs ++ [g])
  | [], [], _, _, _, h => ⟨h, trivial⟩
  | _ :: _, _ :: _, _, _, h, k => ⟨h.1, OwnImgs.snoc h.2 k⟩
  | [], _ :: _, _, _, h, _ => h.elim
  | _ :: _, [], _, _, h, _ => h.elim
theorem lookup_both : ∀ (ms : List Img) (n : Int), n ∈ ms.map Img.blk → ∃ g ∈ ms, g.blk = n ∧ mget (ms.map hdr) n = some (.slice g.a g.len g.cap) ∧ (ms.map Img.pr).lookup n = some g.data
  | [], n, h => by simp at h
  | x :: ms, n, h => by
    by_cases hx : n = x.blk
    · refine ⟨x, by simp, hx.symm, ?_, ?_⟩
      · unfold mget
        rw [List.map_cons, hdr, List.lookup_cons, show (n == x.blk) = true by simpa using hx]
      · rw [List.map_cons, Img.pr, List.lookup_cons, show (n == x.blk) = true by simpa using hx]
    · have hn : n ∈ ms.map Img.blk := by
        rw [List.map_cons] at h
        rcases List.mem_cons.1 h with h | h
        · exact absurd h hx
        · exact h
      obtain ⟨g, hg, h1, h2, h3⟩ := lookup_both ms n hn
      have hb : (n == x.blk) = false := by simpa using hx
      refine ⟨g, by simp [hg], h1, ?_, ?_⟩
      · unfold mget at h2 ⊢
        rw [List.map_cons, hdr, List.lookup_cons, hb]; exact h2
      · rw [List.map_cons, Img.pr, List.lookup_cons, hb]; exact h3
def allI (l : List Grp) : List Img := l.flatMap Grp.gs
def allP (l : List Grp) : List PImg := l.flatMap fun g => g.gs.map Img.pr
theorem allP_eq (l : List Grp) : allP l = (allI l).map Img.pr := by unfold allP allI; rw [List.map_flatMap]
theorem foldl_pr (l : List Img) : ∀ ms : List Img, (l.foldl iput ms).map Img.pr = (l.map Img.pr).foldl pput (ms.map Img.pr) := by
  induction l with
  | nil => intro ms; rfl
  | cons g l ih => intro ms; rw [List.foldl_cons, ih, iput_pr, List.map_cons, List.foldl_cons]
theorem fold_mem : ∀ (l ms : List Img), ∀ x ∈ l.foldl iput ms, x ∈ l ∨ x ∈ ms
  | [], ms, x, h => .inr h
  | g :: l, ms, x, h => by
    rcases fold_mem l (iput ms g) x h with h | h
    · exact .inl (by simp [h])
    · rcases iput_mem h with rfl | h
      · exact .inl (by simp)
      · exact .inr h
theorem fold_len : ∀ (l ms : List Img), (l.foldl iput ms).length ≤ ms.length + l.length
  | [], ms => by simp
  | g :: l, ms => by
    have h1 := fold_len l (iput ms g)
    have h2 := iput_len ms g
    rw [List.foldl_cons, List.length_cons]; omega
@[reducible] def layBox (b : Nat) (x : Lay) : List Blk := [(b, row x.vals 45)]
set_option maxHeartbeats 8000000 in
theorem home_one (c0 : List Blk) {I : Imm} {aG : Option Addr} {capG : Nat} {l : List Grp} (hG : GrpsR I [c0] aG l) (hl : l.length ≤ 1000000) (hall : (allI l).length ≤ 1000000) (hfew : ∀ g ∈ allI l, g.len ≤ 100000000) (x : Lay) :
    Tri Tryz.prog 108 #[x.v, .slice aG l.length capG] I [c0] fun v _ S' =>
      ((¬ (64 ≤ x.b ∧ x.b ≤ 512 ∧ x = layOf x.b.toNat) ∧ v = .tuple #[.slice none 0 0, .int .i64 2] ∧ S' = [c0]) ∨
       ((64 ≤ x.b ∧ x.b ≤ 512 ∧ x = layOf x.b.toNat) ∧ ¬ HomeOk x (allP l) ∧ v = .tuple #[.slice none 0 0, .int .i64 90] ∧ S' = [c0]) ∨
       ((64 ≤ x.b ∧ x.b ≤ 512 ∧ x = layOf x.b.toNat) ∧ HomeOk x (allP l) ∧ ∃ (aO : Option Addr) (capO : Nat) (chO : List Blk) (chs : List (List Blk)) (outs : List Img), v = .tuple #[.slice aO outs.length capO, .int .i64 0] ∧ OwnC chO 2 aO outs.length capO (imgCells outs) ∧ OwnImgs chs outs ∧ outs.map Img.pr = homeP (allP l) ∧ S' = c0 :: chO :: chs)) := by
  refine Tri.drop ?_ (fun _ _ _ _ h => h)
  refine Tri.of (args := [x.v, .slice aG l.length capG]) tabOk Tryz.func108 rfl (by kernel_rfl) (by kernel_rfl) ?_
  conv => whnf
  intro bl
  repeat (first | refine LoadD.own 1 rfl _ rfl rfl ?_)
  refine Tri.free (layout_Of x.b I) ?_
  rintro v J _ hJ ⟨rfl, rfl⟩
  by_cases hb : x.b < 64 ∨ 512 < x.b
  · rw [layA, if_pos hb]
    conv => whnf
    intro b6
    repeat (first | refine StoreD.st 2 rfl rfl rfl ?_ | refine CmpD.no (by decide) ?_)
    exact Done.mk ⟨[c0], Drop.pick [0] _ rfl, .inl ⟨by omega, rfl, rfl⟩⟩
  rw [layA, if_neg hb]
  conv => whnf
  intro b6
  repeat (first | refine LoadD.own 1 rfl _ rfl rfl ?_ | refine LoadD.own 2 rfl _ rfl rfl ?_ | refine StoreD.st 2 rfl rfl rfl ?_ | refine CmpD.yes rfl ?_)
  refine lay_cmp (layOf x.b.toNat) x rfl (.inr rfl) ?_ ?_ ?_
  · show Value.agg _ = _
    have hx : ((x.b.toNat : Nat) : Int) = x.b := by omega
    unfold layOf
    rw [hx]; rfl
  · rfl
  refine CmpD.split (fun c1 => ?_) (fun c1 => ?_)
  rotate_left
  · skip
    refine Done.mk ⟨[c0], Drop.pick [0] _ rfl, .inl ⟨fun h => c1 ?_, rfl, rfl⟩⟩
    rw [← h.2.2]
  have hx : x = layOf x.b.toNat := by
    simp only [List.cons.injEq, and_true] at c1
    obtain ⟨q1, q2, q3, q4, q5, q6, q7⟩ := c1
    obtain ⟨x1, x2, x3, x4, x5, x6, x7⟩ := x
    dsimp only at q1 q2 q3 q4 q5 q6 q7 ⊢
    rw [Lay.mk.injEq]
    exact ⟨q1.symm, q2.symm, q3.symm, q4.symm, q5.symm, q6.symm, q7.symm⟩
  have hX : 64 ≤ x.b ∧ x.b ≤ 512 ∧ x = layOf x.b.toNat := ⟨by omega, by omega, hx⟩
  skip
  refine makeMapD rfl ?_
  intro r
  skip
  refine CodeF.loopD [2, 8, 30, 31, 32] (fun vs J' S' => ∃ (i : Nat) (ob : Obj), i ≤ l.length ∧ HomeOk x (allP (l.take i)) ∧ MapR ob (((allI (l.take i)).foldl iput []).map hdr) ∧ vs = [.pointer (some ⟨bl, 0, none⟩), .map (some r), .slice aG l.length capG, .int .i64 l.length, .int .i64 i] ∧ I = J' ∧ S' = [c0, layBox bl x, [(r, ob)]])
    (fun vs _ _ => match vs with | [_, _, _, _, .int _ i] => ((l.length : Int) - i).toNat | _ => 0) ?_ ?_
  · exact ⟨_, Drop.pick [0, 1, 3] _ rfl, 0, _, by omega, by intro g hg; simp [allP] at hg, MapR.nil, rfl, rfl, rfl⟩
  rintro vs gE J' S' hJ' ⟨i, ob, hi, hok, hM, rfl, rfl, rfl⟩
  refine CmpD.split (fun c2 => ?_) (fun c2 => ?_)
  · have hil : i < l.length := by omega
    have hg := hG.each _ (List.getElem_mem hil)
    have htk : l.take (i + 1) = l.take i ++ [l[i]] := by rw [List.take_add_one, List.getElem?_eq_getElem hil]; rfl
    rcases (hG.sl.mores [layBox bl x, [(r, ob)]]).mem with h0 | ⟨bg, off, rfl, hc⟩
    · omega
    have hcell := hc.part (i := i * 3) (m := 3) (by omega)
    rw [grpCells_at hil] at hcell
    generalize hgi : l[i] = gi at *
    obtain ⟨hgR, hgl⟩ := hg
    refine Chk.mk (by omega) ?_
    refine LoadD.mk _ hcell ?_
    conv => whnf
    intro b10
    repeat (first | refine LoadD.own 3 rfl _ rfl rfl ?_ | refine StoreD.st 3 rfl rfl rfl ?_)
    refine CodeF.loopD [2, 8, 30, 31, 32, 37, 38, 39] (fun vs J' S' => ∃ (k : Nat) (ob : Obj), k ≤ gi.gs.length ∧ HomeOk x (allP (l.take i) ++ (gi.gs.take k).map Img.pr) ∧ MapR ob (((allI (l.take i) ++ gi.gs.take k).foldl iput []).map hdr) ∧ vs = [.pointer (some ⟨bl, 0, none⟩), .map (some r), .slice (some ⟨bg, off, none⟩) l.length capG, .int .i64 l.length, .int .i64 i, .slice gi.a gi.gs.length gi.cap, .int .i64 gi.gs.length, .int .i64 k] ∧ I = J' ∧ S' = [c0, layBox bl x, [(r, ob)]])
      (fun vs _ _ => match vs with | [_, _, _, _, _, _, _, .int _ k] => ((gi.gs.length : Int) - k).toNat | _ => 0) ?_ ?_
    · exact ⟨_, Drop.pick [0, 1, 2] _ rfl, 0, ob, by omega, by simpa using hok, by simpa using hM, rfl, rfl, rfl⟩
    rintro vs gE2 J2 S2 hJ2 ⟨k, ob2, hk, hok2, hM2, rfl, rfl, rfl⟩
    refine CmpD.split (fun c3 => ?_) (fun c3 => ?_)
    · have hkl : k < gi.gs.length := by omega
      have him := hgR.each _ (List.getElem_mem hkl)
      have htk2 : gi.gs.take (k + 1) = gi.gs.take k ++ [gi.gs[k]] := by rw [List.take_add_one, List.getElem?_eq_getElem hkl]; rfl
      have hmem : gi.gs[k].pr ∈ allP l := by
        unfold allP
        exact List.mem_flatMap.2 ⟨gi, by rw [← hgi]; exact List.getElem_mem hil, List.mem_map_of_mem (List.getElem_mem hkl)⟩
      rcases (hgR.sl.mores [layBox bl x, [(r, ob2)]]).mem with h0 | ⟨bi, offi, hgia, hci⟩
      · omega
      have hcelli := hci.part (i := k * 2) (m := 2) (by omega)
      rw [imgCells_at hkl] at hcelli
      generalize hgk : gi.gs[k] = g at *
      rw [hgia]
      refine Chk.mk (by omega) ?_
      refine LoadD.mk _ hcelli ?_
      conv => whnf
      intro b12
      repeat (first | refine LoadD.own 1 rfl _ rfl rfl ?_ | refine LoadD.own 3 rfl _ rfl rfl ?_ | refine StoreD.st 3 rfl rfl rfl ?_)
      refine CmpD.split (fun c4 => ?_) (fun c4 => ?_)
      · skip
        refine Done.mk ⟨[c0], Drop.pick [0] _ rfl, .inr (.inl ⟨hX, fun h => ?_, rfl, rfl⟩)⟩
        have := (h _ hmem).1
        exact absurd c4 (by show ¬ g.blk < x.bi; exact Int.not_lt.2 this)
      repeat (first | refine LoadD.own 1 rfl _ rfl rfl ?_ | refine LoadD.own 3 rfl _ rfl rfl ?_)
      refine CmpD.split (fun c5 => ?_) (fun c5 => ?_)
      · skip
        refine Done.mk ⟨[c0], Drop.pick [0] _ rfl, .inr (.inl ⟨hX, fun h => ?_, rfl, rfl⟩)⟩
        have := (h _ hmem).2
        exact absurd c5 (by show ¬ x.b ≤ g.blk; exact Int.not_le.2 this)
      repeat (first | refine LoadD.own 3 rfl _ rfl rfl ?_)
      refine mapUpdateD tabOk rfl rfl rfl rfl rfl 2 rfl hM2 ?_
      intro ob3 hM3
      skip
      refine ToD.i64 (by omega) (by omega) ?_
      refine ⟨_, Drop.pick [0, 1, 2] _ rfl, ⟨k + 1, ob3, by omega, ?_, ?_, by rw [← hgia]; rfl, rfl, rfl⟩, ?_⟩
      · rw [htk2, List.map_append, ← List.append_assoc]
        intro q hq
        rcases List.mem_append.1 hq with hq | hq
        · exact hok2 q hq
        · simp only [List.map_cons, List.map_nil, List.mem_singleton] at hq
          subst hq
          exact ⟨Int.not_lt.1 c4, Int.not_le.1 c5⟩
      · rw [htk2, ← List.append_assoc, List.foldl_append, List.foldl_cons, List.foldl_nil, iput_hdr]
        exact hM3
      · show ((gi.gs.length : Int) - ((k : Int) + 1)).toNat < ((gi.gs.length : Int) - (k : Int)).toNat
        omega
    · obtain rfl : k = gi.gs.length := by omega
      rw [List.take_length] at hok2 hM2
      refine ToD.i64 (by omega) (by omega) ?_
      refine ⟨_, Drop.refl _, ⟨i + 1, ob2, by omega, ?_, ?_, rfl, rfl, rfl⟩, ?_⟩
      · rw [htk]; unfold allP at hok2 ⊢; rw [List.flatMap_append]; simpa using hok2
      · rw [htk]; unfold allI at hM2 ⊢; rw [List.flatMap_append]; simpa using hM2
      · show ((l.length : Int) - ((i : Int) + 1)).toNat < ((l.length : Int) - (i : Int)).toNat
        omega
  · obtain rfl : i = l.length := by omega
    rw [List.take_length] at hok hM
    obtain ⟨ms, hms⟩ : ∃ ms, ms = (allI l).foldl iput [] := ⟨_, rfl⟩
    rw [← hms] at hM
    have hmsl : ms.length ≤ 1000000 := by rw [hms]; have := fold_len (allI l) []; simp at this; omega
    have hmspr : ms.map Img.pr = lastP (allP l) := by rw [hms, foldl_pr, allP_eq]; rfl
    have hmsR : ∀ g ∈ ms, ImgR I [c0] g := by
      intro g hg
      rw [hms] at hg
      rcases fold_mem _ _ g hg with h | h
      · unfold allI at h
        obtain ⟨gr, hgr, hgg⟩ := List.mem_flatMap.1 h
        exact (hG.each gr hgr).1.each g hgg
      · simp at h
    have hmsF : ∀ g ∈ ms, g.len ≤ 100000000 := by
      intro g hg
      rw [hms] at hg
      rcases fold_mem _ _ g hg with h | h
      · exact hfew g h
      · simp at h
    have hkeys : keysOf (ms.map hdr) = sortI ((lastP (allP l)).map Prod.fst) := by
      unfold keysOf
      rw [← hmspr, List.map_map, List.map_map]; rfl
    have hkl := keysOf_length (ms.map hdr)
    rw [List.length_map] at hkl
    have hkm : ∀ n ∈ keysOf (ms.map hdr), n ∈ ms.map Img.blk := by
      intro n hn
      unfold keysOf at hn
      have := (sortI_perm _).mem_iff.1 hn
      rw [List.map_map] at this; exact this
    refine Tri.nf (keys_of r I _) ?_
    rintro v J S' hJ ⟨bk, rfl, rfl, rfl⟩
    refine Tri.frameX (sorted_keys bk r ob (ms.map hdr) hM (by rw [List.length_map]; exact hmsl) I) [3, 2] rfl rfl ?_
    rintro v J S' hJK ⟨aK, capK, chK, rfl, hK, hle, rfl⟩
    rw [List.length_map] at hK ⊢
    obtain ⟨KS, hKS⟩ : ∃ KS, KS = keysOf (ms.map hdr) := ⟨_, rfl⟩
    rw [← hKS] at hK hkeys hkl hkm
    refine CodeF.loopD [8, 13, 64, 65, 66] (fun vs J' S' => ∃ (k : Nat) (aO : Option Addr) (capO : Nat) (chO : List Blk) (chs : List (List Blk)) (outs : List Img), k ≤ ms.length ∧ outs.length = k ∧ OwnC chO 2 aO k capO (imgCells outs) ∧ OwnImgs chs outs ∧ outs.map Img.pr = (KS.take k).map (fun n => (n, ((lastP (allP l)).lookup n).getD [])) ∧
        vs = [.map (some r), .slice aO k capO, .slice aK ms.length capK, .int .i64 ms.length, .int .i64 k] ∧ J = J' ∧ S' = c0 :: [(r, ob)] :: chK :: chO :: chs)
      (fun vs _ _ => match vs with | [_, _, _, _, .int _ k] => ((ms.length : Int) - k).toNat | _ => 0) ?_ ?_
    · exact ⟨_, Drop.and (Drop.pick [0, 4, 5] _ rfl), 0, none, 0, [], [], [], by omega, rfl, OwnC.nil _ _, trivial, rfl, rfl, rfl, rfl⟩
    rintro vs gE J' S' hJ' ⟨k, aO, capO, chO, chs, outs, hk, hol, hO, hcs, hpr, rfl, rfl, rfl⟩
    refine CmpD.split (fun c3 => ?_) (fun c3 => ?_)
    · have hkK : k < KS.length := by omega
      have htk : KS.take (k + 1) = KS.take k ++ [KS[k]] := by rw [List.take_add_one, List.getElem?_eq_getElem hkK]; rfl
      obtain ⟨g, hgm, hgb, hget, hlk⟩ := lookup_both ms KS[k] (hkm _ (List.getElem_mem hkK))
      rw [hmspr] at hlk
      have hgR := hmsR g hgm
      have hcell : (ints KS)[k]? = some (.int .i64 KS[k]) := ints_get (List.getElem?_eq_getElem hkK)
      generalize hn : KS[k] = n at *
      rcases hK.at' with q0 | ⟨bK, pre, post, TK, rfl, rfl, hpost⟩
      · have := hK.le; omega
      refine Chk.mk (by omega) ?_
      refine LoadD.own 2 rfl _ (take_get (own_take pre (ints KS) post) hcell) rfl ?_
      refine lookupD tabOk rfl rfl rfl rfl rfl rfl 1 rfl hM ?_
      rw [hget]
      refine Tri.mono (clone_bytes J _ g.a g.len g.cap (bts g.data) (by rw [Nat.mul_one]; exact (hgR.rd.mores ([(r, ob)] :: _ :: chO :: chs)).imm hJK) (bts_plain _) (by have := hmsF g hgm; omega)) ?_
      rintro v J3 S3 hJ3 ⟨a', cap', ch', rfl, hown', rfl, rfl⟩
      conv => whnf
      intro bN
      refine appendD tabOk rfl rfl rfl rfl rfl rfl rfl 3 rfl hO (SrcOk.slice (n := 1) (news := imgCells [⟨n, a', g.len, cap', g.data⟩]) tabOk rfl ((OwnC.whole (len := 1) (size := 2) rfl).slC _ (two_get1 (c0 :: [(r, ob)] :: _ :: chO :: chs) ch' _)) (by intro v hv; simp [imgCells] at hv; rcases hv with rfl | rfl <;> rfl)) rfl (by show (k + 1) * 32 ≤ _; omega) (by omega) ?_
      intro a2 cap2 ch2 hO2
      refine ToD.i64 (by omega) (by omega) ?_
      refine ⟨c0 :: [(r, ob)] :: _ :: ch2 :: (chs ++ [ch']), Drop.init (c0 :: [(r, ob)] :: _ :: ch2 :: (chs ++ [ch'])) _, ⟨k + 1, a2, cap2, ch2, chs ++ [ch'], outs ++ [⟨n, a', g.len, cap', g.data⟩], by omega, by simp [hol], by rw [imgCells_snoc]; exact hO2, hcs.snoc hown', ?_, rfl, rfl, rfl⟩, ?_⟩
      · rw [htk, List.map_append, List.map_append, hpr]
        simp [hlk]
      · show ((ms.length : Int) - ((k : Int) + 1)).toNat < ((ms.length : Int) - (k : Int)).toNat
        omega
    · obtain rfl : k = ms.length := by omega
      skip
      refine Done.mk ⟨c0 :: chO :: chs, ?_, .inr (.inr ⟨hX, hok, aO, capO, chO, chs, outs, by rw [hol]; rfl, by rw [hol]; exact hO, hcs, ?_, rfl⟩)⟩
      · exact ⟨[(r, ob)] ++ chK, by
          classical
          refine List.perm_iff_count.2 fun y => ?_
          simp only [List.flatten_cons, List.count_append]
          omega⟩
      · rw [hpr, List.take_of_length_le (by omega), hkeys]; rfl
theorem ImgsR.pack {I : Imm} {S : St} {a : Option Addr} {gs : List Img} (h : ImgsR I S a gs) : ImgsR I [S.flatten] a gs := ⟨h.sl.pack, fun g hg => ⟨(h.each g hg).rd.pack⟩⟩
theorem home_any {I : Imm} {S : St} {aG : Option Addr} {capG : Nat} {l : List Grp} (hG : GrpsR I S aG l) (hl : l.length ≤ 1000000) (hall : (allI l).length ≤ 1000000) (hfew : ∀ g ∈ allI l, g.len ≤ 100000000) (x : Lay) :
    Tri Tryz.prog 108 #[x.v, .slice aG l.length capG] I S fun v _ S' =>
      ((¬ (64 ≤ x.b ∧ x.b ≤ 512 ∧ x = layOf x.b.toNat) ∧ v = .tuple #[.slice none 0 0, .int .i64 2] ∧ S' = S) ∨
       ((64 ≤ x.b ∧ x.b ≤ 512 ∧ x = layOf x.b.toNat) ∧ ¬ HomeOk x (allP l) ∧ v = .tuple #[.slice none 0 0, .int .i64 90] ∧ S' = S) ∨
       ((64 ≤ x.b ∧ x.b ≤ 512 ∧ x = layOf x.b.toNat) ∧ HomeOk x (allP l) ∧ ∃ (aO : Option Addr) (capO : Nat) (chO : List Blk) (chs : List (List Blk)) (outs : List Img), v = .tuple #[.slice aO outs.length capO, .int .i64 0] ∧ OwnC chO 2 aO outs.length capO (imgCells outs) ∧ OwnImgs chs outs ∧ outs.map Img.pr = homeP (allP l) ∧ S' = S ++ (chO :: chs))) := by
  refine Tri.pack ((home_one S.flatten ⟨hG.sl.pack, fun g hg => ⟨(hG.each g hg).1.pack, (hG.each g hg).2⟩⟩ hl hall hfew x).mono ?_)
  rintro v J S' hJ (⟨h1, rfl, rfl⟩ | ⟨h1, h2, rfl, rfl⟩ | ⟨h1, h2, aO, capO, chO, chs, outs, rfl, h3, h4, h5, rfl⟩)
  · exact ⟨[], rfl, .inl ⟨h1, rfl, by simp⟩⟩
  · exact ⟨[], rfl, .inr (.inl ⟨h1, h2, rfl, by simp⟩)⟩
  · exact ⟨chO :: chs, rfl, .inr (.inr ⟨h1, h2, aO, capO, chO, chs, outs, rfl, h3, h4, h5, rfl⟩)⟩
theorem OwnImgs.at' : ∀ {cs : List (List Blk)} {gs : List Img}, OwnImgs cs gs → ∀ g ∈ gs, ∃ (i : Nat) (c : List Blk), cs[i]? = some c ∧ OwnB c g.a g.len g.cap g.data
  | [], [], _, g, hg => by simp at hg
  | c :: cs, x :: gs, h, g, hg => by
    rcases List.mem_cons.1 hg with rfl | hg
    · exact ⟨0, c, rfl, h.1⟩
    · obtain ⟨i, c', hi, ho⟩ := OwnImgs.at' h.2 g hg
      exact ⟨i + 1, c', hi, ho⟩
  | [], _ :: _, h, _, _ => h.elim
  | _ :: _, [], h, _, _ => h.elim
end Go.Proofs.YtegdcjnjnoeinaaGreat
namespace Go.Proofs.YtegdcjnjnoeinaaGreat
open Go.RowKit Go.Sl
set_option maxRecDepth 20000

theorem imgCells_0 {gs : List Img} {i : Nat} (h : i < gs.length) : (imgCells gs)[i * 2]? = some (.int .i64 gs[i].blk) := by
  have := imgCells_at h
  have e := congrArg (·[0]?) this
  simpa using e
theorem imgCells_1 {gs : List Img} {i : Nat} (h : i < gs.length) : (imgCells gs)[i * 2 + 1]? = some (.slice gs[i].a gs[i].len gs[i].cap) := by
  have := imgCells_at h
  have e := congrArg (·[1]?) this
  simpa using e
theorem SlC.split {I : Imm} {S : St} {a : Option Addr} {n : Nat} {vs : List Value} (h : SlC I S a n vs) (hn : n ≠ 0) : ∃ b off, a = some ⟨b, off, none⟩ ∧ Cells I S b off n vs := by
  rcases h.mem with h0 | h
  · exact absurd h0 hn
  · exact h
theorem LoadP_any {I : Imm} {c0 : List Blk} {b off n : Nat} {K : List Value → List Nat → Prop} (vs : List Value) (h : Cells I [c0] b off n vs) (k : K vs [0]) : LoadP I [c0] b off n K := .own 0 vs h k
end Go.Proofs.YtegdcjnjnoeinaaGreat
namespace Go.Proofs.YtegdcjnjnoeinaaGreat
open Go.RowKit Go.Sl
set_option maxRecDepth 20000

theorem get_supL {s : Sup} (h : RightS s) : getS (supL s) = some s := getS_some.2 ⟨h, rfl⟩
theorem sortI_of {l m : List Int} (h : l.Perm m) (hm : m.Pairwise (fun a b => a ≤ b)) : sortI l = m :=
  List.Perm.eq_of_pairwise (le := fun a b => a ≤ b) (fun _ _ _ _ h1 h2 => Int.le_antisymm h1 h2) (sortI_le l) hm ((sortI_perm l).trans h)
end Go.Proofs.YtegdcjnjnoeinaaGreat
