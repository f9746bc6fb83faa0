/- Texts of this claim laid together: Jk, Jk2, Jk3, Jk4, Oct, Super, Get, Pos, HdP, HdA, Jk5, Head, GetG, RingS, Choose, Ref01, Ref02, Ref03, Shelf, Keys, Sort, Sorted, Home, Home2, ScanG, SameImgs, Rf4, Rf4b, CopyImgs, Awake10, Rf10b, ScanA, Awake08, Awk08. -/
import Derived.Test.YtbpdbgcndfcilaaBJournalWhole2
import Derived.Test.YtbpdbgcndfcilaaBJournalWhole1
import Derived.Shelf.Sort.Plain
import Derived.Shelf.Slices.In.SortNone
import Derived.Test.YtbpdbgcndfcilaaProg
namespace Go.Proofs.Ytbpdbgcndfcilaa
open Go.RowKit Go.Sl
set_option maxRecDepth 20000

structure JSt where
  lay : Lay
  s : Int
  t : Int
  u : Int
  h : Int
  epoch : Int
  next : Int
  synced : Int
  groups : List (Int × Int)
  broken : Bool
/-- numbers in range -/
structure JSt.Wf (j : JSt) : Prop where
  log : j.lay.l = 2
  ring : Ok j.s j.t j.u j.h
  epoch : In64 j.epoch
  next : 1 ≤ j.next ∧ j.next ≤ 549755813889
  synced : 0 ≤ j.synced ∧ j.synced < j.next
  few : j.groups.length ≤ 1000000
  groups : ∀ g ∈ j.groups, In64 g.1 ∧ In64 g.2
@[reducible] def JSt.at (j : JSt) (bD : Nat) (g : Hd) : JRec := ⟨bD, j.lay, j.s, j.t, j.u, j.h, j.epoch, j.next, j.synced, g, j.broken⟩
def Jk (bJ bD : Nat) (j : JSt) (ch : List Blk) : Prop := ∃ (g : Hd) (chG : List Blk), ch = jChunk bJ (j.at bD g) ++ chG ∧ OwnC chG 2 g.a g.len g.cap (gCells j.groups)
/-- writes one by one, until one errs -/
def wrAll (f : Nat → Int) : List Dat → Nat → DSt → DSt × Int
  | [], _, d => (d, 0)
  | b :: bs, i, d => if (d.write (f i) b).2 ≠ 0 then d.write (f i) b else wrAll f bs (i + 1) (d.write (f i) b).1
def JSt.append (j : JSt) (d : DSt) (l : List PImg) (held : Bool) : JSt × DSt × Int × Int :=
  if ¬ RightP j.epoch j.next l then (j, d, 0, 80) else
  if j.s < l.length + 1 then (j, d, 0, 232) else
  match putS j.s j.t j.u j.h (l.length + 1) (if held then l.length + 1 else 0) with
  | ((s, t, u, h, e), at_) => if e ≠ 0 then (j, d, 0, e) else
    match wrAll (fun i => j.lay.l + (at_ + i) % s) (putP j.epoch.toNat j.next.toNat l) 0 d with
    | (d', e') => if e' ≠ 0 then ({ j with s := s, t := t, u := u, h := h, broken := true }, d', 0, e') else
      ({ j with s := s, t := t, u := u, h := h, groups := j.groups ++ [(j.next, (l.length + 1 : Int))], next := j.next + 1 }, d', j.next, 0)
theorem putS_mid {s t u h n k : Int} (hr : Ok s t u h) {s' t' u' h' e a : Int} (hp : putS s t u h n k = ((s', t', u', h', e), a)) (he : e = 0) : s' = s ∧ t' = t ∧ Ok s' t' u' h' ∧ 0 ≤ a ∧ a < s := by
  unfold putS at hp
  subst he
  split at hp
  · simp at hp
  · split at hp
    · simp at hp
    · rename_i h1 h2
      simp only [Prod.mk.injEq] at hp
      obtain ⟨⟨rfl, rfl, rfl, rfl, _⟩, rfl⟩ := hp
      unfold Ok at hr h1 ⊢
      have := Int.emod_nonneg (t + u) (b := s) (by omega)
      have := Int.emod_lt_of_pos (t + u) (b := s) (by omega)
      refine ⟨rfl, rfl, ?_, by omega, by omega⟩
      omega
@[reducible] def pBox (b : Nat) (v : Value) (T : TypeId) : List Blk := [(b, row [v] T)]
set_option maxHeartbeats 4000000 in
theorem jk_Append1 (bj bl br bs bJ bD : Nat) (j : JSt) (hj : j.Wf) (hb : j.broken = false) (g : Hd) (chG : List Blk) (hG : OwnC chG 2 g.a g.len g.cap (gCells j.groups)) (d : DSt) (chD : List Blk) (I : Imm) (hD : Dk I bD d chD) (k : Nat) (hd : d.Few k) (hk : k ≤ 900000)
    (aL : Option Addr) (capL : Nat) (gs : List Img) (hi : ImgsOk I aL gs) (hgl : gs.length ≤ 9223372036854775806) (hg6 : j.groups.length ≤ 900000) (held : Bool) :
    Tri Try.prog 73 #[.pointer (some ⟨bj, 0, none⟩), .pointer (some ⟨bl, 0, none⟩), .pointer (some ⟨br, 0, none⟩), .pointer (some ⟨bs, 0, none⟩)] I
      [pBox bj (.pointer (some ⟨bJ, 0, none⟩)) 22, pBox bl (.slice aL gs.length capL) 47, pBox br (.bool held) 4, pBox bs (.int .i64 0) 3, jChunk bJ (j.at bD g), chG, chD] fun v J S' =>
      v = .int .i64 (j.append d (gs.map Img.pr) held).2.2.2 ∧ ∃ chJ chD', Jk bJ bD (j.append d (gs.map Img.pr) held).1 chJ ∧ Dk J bD (j.append d (gs.map Img.pr) held).2.1 chD' ∧ S' = [pBox bs (.int .i64 (j.append d (gs.map Img.pr) held).2.2.1) 3, chJ, chD'] := by
  have hrg := hj.ring
  unfold Ok at hrg
  refine Tri.drop ?_ (fun _ _ _ _ h => h)
  refine Tri.of (args := [.pointer (some ⟨bj, 0, none⟩), .pointer (some ⟨bl, 0, none⟩), .pointer (some ⟨br, 0, none⟩), .pointer (some ⟨bs, 0, none⟩)]) tabOk Try.func73 rfl (by kernel_rfl) (by kernel_rfl) ?_
  refine CodeF.sched [[], [0], [0, 1], [0, 1, 2], [], [4], [4, 5], [4, 5, 6], [], [0, 1, 2, 3, 4, 5, 6, 7, 8], [0, 1, 2, 3, 4, 5, 6, 7, 8, 9], [0, 1, 2, 3, 4, 5, 6, 7, 8, 9, 10], [0, 1, 2, 3, 4, 5, 6, 7, 8, 9, 10, 11], [0, 1, 2, 3, 4, 5, 6, 7, 8, 9, 10, 11], [0, 1, 2, 3, 4, 5, 6, 7, 8, 9, 10, 11, 12], [0, 1, 2, 3, 4, 5, 6, 7, 8, 9, 10, 11, 12, 13, 14]] [0, 1, 2, 3, 4, 5, 6, 7, 8, 9, 10, 11, 12, 13, 14, 15] (by kernel_rfl) ?_
  repeat (first
    | refine LoadD.own 0 rfl _ rfl rfl ?_
    | refine LoadD.own 1 rfl _ rfl rfl ?_
    | refine LoadD.own 2 rfl _ rfl rfl ?_
    | refine LoadD.own 3 rfl _ rfl rfl ?_
    | refine LoadD.own 4 rfl _ rfl rfl ?_
    | refine LoadD.own 5 rfl _ rfl rfl ?_
    | refine LoadP.at 0 rfl _ rfl rfl ?_
    | refine LoadP.at 1 rfl _ rfl rfl ?_
    | refine LoadP.at 2 rfl _ rfl rfl ?_
    | refine LoadP.at 3 rfl _ rfl rfl ?_
    | refine LoadP.at 4 rfl _ rfl rfl ?_
    | refine LoadP.at 5 rfl _ rfl rfl ?_
    | refine StoreD.st 0 rfl rfl rfl ?_
    | refine StoreD.st 1 rfl rfl rfl ?_
    | refine StoreD.st 2 rfl rfl rfl ?_
    | refine StoreD.st 3 rfl rfl rfl ?_
    | refine StoreD.st 4 rfl rfl rfl ?_
    | refine StoreD.st 5 rfl rfl rfl ?_
    | refine CmpD.yes rfl ?_
    | refine CmpD.yes (by decide) ?_
    | refine CmpD.no (by decide) ?_
    | refine Chk.mk ⟨rfl, trivial⟩ ?_
    | refine Chk.mk ⟨rfl, rfl, trivial⟩ ?_
    | refine Chk.mk ⟨rfl, rfl, rfl, trivial⟩ ?_
    | refine Chk.mk ⟨rfl, rfl, rfl, rfl, trivial⟩ ?_
    | refine Chk.mk ⟨rfl, rfl, rfl, rfl, rfl, trivial⟩ ?_
    | refine Chk.mk ⟨rfl, rfl, rfl, rfl, rfl, rfl, trivial⟩ ?_)
  refine Tri.free (put_of j.epoch j.next ⟨hj.epoch, by have := hj.next; unfold In64; omega⟩ aL capL gs I hi hgl) ?_
  unfold JSt.append
  rw [List.length_map]
  rintro v J _ hJ (⟨c1, rfl⟩ | ⟨c1, aO, capO, bs2, rfl, hO, hbd, hbk⟩)
  · repeat (first
      | refine LoadD.own 0 rfl _ rfl rfl ?_
      | refine LoadD.own 1 rfl _ rfl rfl ?_
      | refine LoadD.own 2 rfl _ rfl rfl ?_
      | refine LoadD.own 3 rfl _ rfl rfl ?_
      | refine LoadD.own 4 rfl _ rfl rfl ?_
      | refine LoadD.own 5 rfl _ rfl rfl ?_
      | refine LoadP.at 0 rfl _ rfl rfl ?_
      | refine LoadP.at 1 rfl _ rfl rfl ?_
      | refine LoadP.at 2 rfl _ rfl rfl ?_
      | refine LoadP.at 3 rfl _ rfl rfl ?_
      | refine LoadP.at 4 rfl _ rfl rfl ?_
      | refine LoadP.at 5 rfl _ rfl rfl ?_
      | refine StoreD.st 0 rfl rfl rfl ?_
      | refine StoreD.st 1 rfl rfl rfl ?_
      | refine StoreD.st 2 rfl rfl rfl ?_
      | refine StoreD.st 3 rfl rfl rfl ?_
      | refine StoreD.st 4 rfl rfl rfl ?_
      | refine StoreD.st 5 rfl rfl rfl ?_
      | refine CmpD.yes rfl ?_
      | refine CmpD.yes (by decide) ?_
      | refine CmpD.no (by decide) ?_
      | refine Chk.mk ⟨rfl, trivial⟩ ?_
      | refine Chk.mk ⟨rfl, rfl, trivial⟩ ?_
      | refine Chk.mk ⟨rfl, rfl, rfl, trivial⟩ ?_
      | refine Chk.mk ⟨rfl, rfl, rfl, rfl, trivial⟩ ?_
      | refine Chk.mk ⟨rfl, rfl, rfl, rfl, rfl, trivial⟩ ?_
      | refine Chk.mk ⟨rfl, rfl, rfl, rfl, rfl, rfl, trivial⟩ ?_)
    refine Done.mk ?_
    rw [if_pos c1]
    exact ⟨[pBox bs (.int .i64 0) 3, jChunk bJ (j.at bD g) ++ chG, chD], (Drop.pick [3, 4, 5, 6] _ rfl).trans (Drop.flat (by simp [St.at])), rfl, _, _, ⟨g, chG, rfl, hG⟩, hD.mono hJ, rfl⟩
  rw [if_neg (by simpa using c1)]
  have hbl : bs2.length = gs.length + 1 := by have := congrArg List.length hbd; rw [putP_length, List.length_map, List.length_map] at this; exact this
  have hgl2 : gs.length ≤ 32 := by have := c1.2.2.2.2.2.1; rwa [List.length_map] at this
  have hnx : j.next ≤ 549755813888 := c1.2.2.2.1
  have hDJ := hD.mono hJ
  repeat (first
    | refine LoadD.own 0 rfl _ rfl rfl ?_
    | refine LoadD.own 1 rfl _ rfl rfl ?_
    | refine LoadD.own 2 rfl _ rfl rfl ?_
    | refine LoadD.own 3 rfl _ rfl rfl ?_
    | refine LoadD.own 4 rfl _ rfl rfl ?_
    | refine LoadD.own 5 rfl _ rfl rfl ?_
    | refine LoadP.at 0 rfl _ rfl rfl ?_
    | refine LoadP.at 1 rfl _ rfl rfl ?_
    | refine LoadP.at 2 rfl _ rfl rfl ?_
    | refine LoadP.at 3 rfl _ rfl rfl ?_
    | refine LoadP.at 4 rfl _ rfl rfl ?_
    | refine LoadP.at 5 rfl _ rfl rfl ?_
    | refine StoreD.st 0 rfl rfl rfl ?_
    | refine StoreD.st 1 rfl rfl rfl ?_
    | refine StoreD.st 2 rfl rfl rfl ?_
    | refine StoreD.st 3 rfl rfl rfl ?_
    | refine StoreD.st 4 rfl rfl rfl ?_
    | refine StoreD.st 5 rfl rfl rfl ?_
    | refine CmpD.yes rfl ?_
    | refine CmpD.yes (by decide) ?_
    | refine CmpD.no (by decide) ?_
    | refine Chk.mk ⟨rfl, trivial⟩ ?_
    | refine Chk.mk ⟨rfl, rfl, trivial⟩ ?_
    | refine Chk.mk ⟨rfl, rfl, rfl, trivial⟩ ?_
    | refine Chk.mk ⟨rfl, rfl, rfl, rfl, trivial⟩ ?_
    | refine Chk.mk ⟨rfl, rfl, rfl, rfl, rfl, trivial⟩ ?_
    | refine Chk.mk ⟨rfl, rfl, rfl, rfl, rfl, rfl, trivial⟩ ?_)
  refine CmpD.split (fun c2 => ?_) (fun c2 => ?_) <;> replace c2 := id (α := _) c2 <;> dsimp only [JSt.at] at c2
  · repeat (first
      | refine LoadD.own 0 rfl _ rfl rfl ?_
      | refine LoadD.own 1 rfl _ rfl rfl ?_
      | refine LoadD.own 2 rfl _ rfl rfl ?_
      | refine LoadD.own 3 rfl _ rfl rfl ?_
      | refine LoadD.own 4 rfl _ rfl rfl ?_
      | refine LoadD.own 5 rfl _ rfl rfl ?_
      | refine LoadP.at 0 rfl _ rfl rfl ?_
      | refine LoadP.at 1 rfl _ rfl rfl ?_
      | refine LoadP.at 2 rfl _ rfl rfl ?_
      | refine LoadP.at 3 rfl _ rfl rfl ?_
      | refine LoadP.at 4 rfl _ rfl rfl ?_
      | refine LoadP.at 5 rfl _ rfl rfl ?_
      | refine StoreD.st 0 rfl rfl rfl ?_
      | refine StoreD.st 1 rfl rfl rfl ?_
      | refine StoreD.st 2 rfl rfl rfl ?_
      | refine StoreD.st 3 rfl rfl rfl ?_
      | refine StoreD.st 4 rfl rfl rfl ?_
      | refine StoreD.st 5 rfl rfl rfl ?_
      | refine CmpD.yes rfl ?_
      | refine CmpD.yes (by decide) ?_
      | refine CmpD.no (by decide) ?_
      | refine Chk.mk ⟨rfl, trivial⟩ ?_
      | refine Chk.mk ⟨rfl, rfl, trivial⟩ ?_
      | refine Chk.mk ⟨rfl, rfl, rfl, trivial⟩ ?_
      | refine Chk.mk ⟨rfl, rfl, rfl, rfl, trivial⟩ ?_
      | refine Chk.mk ⟨rfl, rfl, rfl, rfl, rfl, trivial⟩ ?_
      | refine Chk.mk ⟨rfl, rfl, rfl, rfl, rfl, rfl, trivial⟩ ?_)
    refine Done.mk ?_
    rw [if_pos (by omega)]
    exact ⟨[pBox bs (.int .i64 0) 3, jChunk bJ (j.at bD g) ++ chG, chD], (Drop.pick [3, 4, 5, 6] _ rfl).trans (Drop.flat (by simp [St.at])), rfl, _, _, ⟨g, chG, rfl, hG⟩, hDJ, rfl⟩
  rw [if_neg (by omega)]
  repeat (first
    | refine LoadD.own 0 rfl _ rfl rfl ?_
    | refine LoadD.own 1 rfl _ rfl rfl ?_
    | refine LoadD.own 2 rfl _ rfl rfl ?_
    | refine LoadD.own 3 rfl _ rfl rfl ?_
    | refine LoadD.own 4 rfl _ rfl rfl ?_
    | refine LoadD.own 5 rfl _ rfl rfl ?_
    | refine LoadP.at 0 rfl _ rfl rfl ?_
    | refine LoadP.at 1 rfl _ rfl rfl ?_
    | refine LoadP.at 2 rfl _ rfl rfl ?_
    | refine LoadP.at 3 rfl _ rfl rfl ?_
    | refine LoadP.at 4 rfl _ rfl rfl ?_
    | refine LoadP.at 5 rfl _ rfl rfl ?_
    | refine StoreD.st 0 rfl rfl rfl ?_
    | refine StoreD.st 1 rfl rfl rfl ?_
    | refine StoreD.st 2 rfl rfl rfl ?_
    | refine StoreD.st 3 rfl rfl rfl ?_
    | refine StoreD.st 4 rfl rfl rfl ?_
    | refine StoreD.st 5 rfl rfl rfl ?_
    | refine CmpD.yes rfl ?_
    | refine CmpD.yes (by decide) ?_
    | refine CmpD.no (by decide) ?_
    | refine Chk.mk ⟨rfl, trivial⟩ ?_
    | refine Chk.mk ⟨rfl, rfl, trivial⟩ ?_
    | refine Chk.mk ⟨rfl, rfl, rfl, trivial⟩ ?_
    | refine Chk.mk ⟨rfl, rfl, rfl, rfl, trivial⟩ ?_
    | refine Chk.mk ⟨rfl, rfl, rfl, rfl, rfl, trivial⟩ ?_
    | refine Chk.mk ⟨rfl, rfl, rfl, rfl, rfl, rfl, trivial⟩ ?_)
  have hrgk := hj.ring
  cases held
  all_goals
    repeat (first
      | refine LoadD.own 0 rfl _ rfl rfl ?_
      | refine LoadD.own 1 rfl _ rfl rfl ?_
      | refine LoadD.own 2 rfl _ rfl rfl ?_
      | refine LoadD.own 3 rfl _ rfl rfl ?_
      | refine LoadD.own 4 rfl _ rfl rfl ?_
      | refine LoadD.own 5 rfl _ rfl rfl ?_
      | refine LoadP.at 0 rfl _ rfl rfl ?_
      | refine LoadP.at 1 rfl _ rfl rfl ?_
      | refine LoadP.at 2 rfl _ rfl rfl ?_
      | refine LoadP.at 3 rfl _ rfl rfl ?_
      | refine LoadP.at 4 rfl _ rfl rfl ?_
      | refine LoadP.at 5 rfl _ rfl rfl ?_
      | refine StoreD.st 0 rfl rfl rfl ?_
      | refine StoreD.st 1 rfl rfl rfl ?_
      | refine StoreD.st 2 rfl rfl rfl ?_
      | refine StoreD.st 3 rfl rfl rfl ?_
      | refine StoreD.st 4 rfl rfl rfl ?_
      | refine StoreD.st 5 rfl rfl rfl ?_
      | refine CmpD.yes rfl ?_
      | refine CmpD.yes (by decide) ?_
      | refine CmpD.no (by decide) ?_
      | refine Chk.mk ⟨rfl, trivial⟩ ?_
      | refine Chk.mk ⟨rfl, rfl, trivial⟩ ?_
      | refine Chk.mk ⟨rfl, rfl, rfl, trivial⟩ ?_
      | refine Chk.mk ⟨rfl, rfl, rfl, rfl, trivial⟩ ?_
      | refine Chk.mk ⟨rfl, rfl, rfl, rfl, rfl, trivial⟩ ?_
      | refine Chk.mk ⟨rfl, rfl, rfl, rfl, rfl, rfl, trivial⟩ ?_)
    refine Tri.free (ring_Put _ _ _ _ _ _ ?_ ?_ ?_ ?_ ?_ _ ?_) ?_
    iterate 6 (unfold In64; (try dsimp only [JSt.at]); omega)
    rintro v J2 _ hJ2 ⟨⟨s', t', u', h', at_, e', rfl, hput⟩, rfl⟩
    first | rw [if_pos rfl] | rw [if_neg Bool.false_ne_true]
    first | rw [show putS j.s j.t j.u j.h ((gs.length : Int) + 1) 0 = _ from hput] | rw [show putS j.s j.t j.u j.h ((gs.length : Int) + 1) ((gs.length : Int) + 1) = _ from hput]
    dsimp only
    conv => whnf
    intro b8
    repeat (first
      | refine LoadD.own 0 rfl _ rfl rfl ?_
      | refine LoadD.own 1 rfl _ rfl rfl ?_
      | refine LoadD.own 2 rfl _ rfl rfl ?_
      | refine LoadD.own 3 rfl _ rfl rfl ?_
      | refine LoadD.own 4 rfl _ rfl rfl ?_
      | refine LoadD.own 5 rfl _ rfl rfl ?_
      | refine LoadD.own 6 rfl _ rfl rfl ?_
      | refine LoadD.own 7 rfl _ rfl rfl ?_
      | refine LoadP.at 0 rfl _ rfl rfl ?_
      | refine LoadP.at 1 rfl _ rfl rfl ?_
      | refine LoadP.at 2 rfl _ rfl rfl ?_
      | refine LoadP.at 3 rfl _ rfl rfl ?_
      | refine LoadP.at 4 rfl _ rfl rfl ?_
      | refine LoadP.at 5 rfl _ rfl rfl ?_
      | refine LoadP.at 6 rfl _ rfl rfl ?_
      | refine LoadP.at 7 rfl _ rfl rfl ?_
      | refine StoreD.st 0 rfl rfl rfl ?_
      | refine StoreD.st 1 rfl rfl rfl ?_
      | refine StoreD.st 2 rfl rfl rfl ?_
      | refine StoreD.st 3 rfl rfl rfl ?_
      | refine StoreD.st 4 rfl rfl rfl ?_
      | refine StoreD.st 5 rfl rfl rfl ?_
      | refine StoreD.st 6 rfl rfl rfl ?_
      | refine StoreD.st 7 rfl rfl rfl ?_
      | refine CmpD.yes rfl ?_
      | refine CmpD.yes (by decide) ?_
      | refine CmpD.no (by decide) ?_
      | refine Chk.mk ⟨rfl, trivial⟩ ?_
      | refine Chk.mk ⟨rfl, rfl, trivial⟩ ?_
      | refine Chk.mk ⟨rfl, rfl, rfl, trivial⟩ ?_
      | refine Chk.mk ⟨rfl, rfl, rfl, rfl, trivial⟩ ?_
      | refine Chk.mk ⟨rfl, rfl, rfl, rfl, rfl, trivial⟩ ?_
      | refine Chk.mk ⟨rfl, rfl, rfl, rfl, rfl, rfl, trivial⟩ ?_)
    refine Tri.frame1 4 rfl (jr_turned bJ (j.at bD g) s' t' u' h' e' J) ?_
    rintro v J3 S' hJ3 ⟨rfl, rfl, rfl⟩
    refine ⟨_, rfl, ?_⟩
    refine CmpD.split (fun c3 => ?_) (fun c3 => ?_)
    rotate_left
    · repeat (first
        | refine LoadD.own 0 rfl _ rfl rfl ?_
        | refine LoadD.own 1 rfl _ rfl rfl ?_
        | refine LoadD.own 2 rfl _ rfl rfl ?_
        | refine LoadD.own 3 rfl _ rfl rfl ?_
        | refine LoadD.own 4 rfl _ rfl rfl ?_
        | refine LoadD.own 5 rfl _ rfl rfl ?_
        | refine LoadP.at 0 rfl _ rfl rfl ?_
        | refine LoadP.at 1 rfl _ rfl rfl ?_
        | refine LoadP.at 2 rfl _ rfl rfl ?_
        | refine LoadP.at 3 rfl _ rfl rfl ?_
        | refine LoadP.at 4 rfl _ rfl rfl ?_
        | refine LoadP.at 5 rfl _ rfl rfl ?_
        | refine StoreD.st 0 rfl rfl rfl ?_
        | refine StoreD.st 1 rfl rfl rfl ?_
        | refine StoreD.st 2 rfl rfl rfl ?_
        | refine StoreD.st 3 rfl rfl rfl ?_
        | refine StoreD.st 4 rfl rfl rfl ?_
        | refine StoreD.st 5 rfl rfl rfl ?_
        | refine CmpD.yes rfl ?_
        | refine CmpD.yes (by decide) ?_
        | refine CmpD.no (by decide) ?_
        | refine Chk.mk ⟨rfl, trivial⟩ ?_
        | refine Chk.mk ⟨rfl, rfl, trivial⟩ ?_
        | refine Chk.mk ⟨rfl, rfl, rfl, trivial⟩ ?_
        | refine Chk.mk ⟨rfl, rfl, rfl, rfl, trivial⟩ ?_
        | refine Chk.mk ⟨rfl, rfl, rfl, rfl, rfl, trivial⟩ ?_
        | refine Chk.mk ⟨rfl, rfl, rfl, rfl, rfl, rfl, trivial⟩ ?_)
      refine Done.mk ?_
      rw [if_pos c3, if_neg c3]
      exact ⟨[pBox bs (.int .i64 0) 3, jChunk bJ (j.at bD g) ++ chG, chD], (Drop.pick [3, 4, 5, 6] _ rfl).trans (Drop.flat (by simp [St.at])), rfl, _, _, ⟨g, chG, rfl, hG⟩, hDJ, rfl⟩
    rw [if_neg (by simpa using c3), if_pos c3]
    subst c3
    obtain ⟨es, et, hr', ha1, ha2⟩ := putS_mid hrgk hput rfl
    have hr2 := hr'
    unfold Ok at hr2
    repeat (first
      | refine LoadD.own 0 rfl _ rfl rfl ?_
      | refine LoadD.own 1 rfl _ rfl rfl ?_
      | refine LoadD.own 2 rfl _ rfl rfl ?_
      | refine LoadD.own 3 rfl _ rfl rfl ?_
      | refine LoadD.own 4 rfl _ rfl rfl ?_
      | refine LoadD.own 5 rfl _ rfl rfl ?_
      | refine LoadP.at 0 rfl _ rfl rfl ?_
      | refine LoadP.at 1 rfl _ rfl rfl ?_
      | refine LoadP.at 2 rfl _ rfl rfl ?_
      | refine LoadP.at 3 rfl _ rfl rfl ?_
      | refine LoadP.at 4 rfl _ rfl rfl ?_
      | refine LoadP.at 5 rfl _ rfl rfl ?_
      | refine StoreD.st 0 rfl rfl rfl ?_
      | refine StoreD.st 1 rfl rfl rfl ?_
      | refine StoreD.st 2 rfl rfl rfl ?_
      | refine StoreD.st 3 rfl rfl rfl ?_
      | refine StoreD.st 4 rfl rfl rfl ?_
      | refine StoreD.st 5 rfl rfl rfl ?_
      | refine CmpD.yes rfl ?_
      | refine CmpD.yes (by decide) ?_
      | refine CmpD.no (by decide) ?_
      | refine Chk.mk ⟨rfl, trivial⟩ ?_
      | refine Chk.mk ⟨rfl, rfl, trivial⟩ ?_
      | refine Chk.mk ⟨rfl, rfl, rfl, trivial⟩ ?_
      | refine Chk.mk ⟨rfl, rfl, rfl, rfl, trivial⟩ ?_
      | refine Chk.mk ⟨rfl, rfl, rfl, rfl, rfl, trivial⟩ ?_
      | refine Chk.mk ⟨rfl, rfl, rfl, rfl, rfl, rfl, trivial⟩ ?_)
    have hP := putP_length j.epoch.toNat j.next.toNat (gs.map Img.pr)
    obtain ⟨B, hB⟩ : ∃ B, B = putP j.epoch.toNat j.next.toNat (gs.map Img.pr) := ⟨_, rfl⟩
    rw [List.length_map, ← hB] at hP
    rw [← hB] at hbd ⊢
    obtain ⟨W, hW⟩ : ∃ W, W = wrAll (fun i => j.lay.l + (at_ + i) % s') B 0 d := ⟨_, rfl⟩
    rw [← hW]
    rcases hO.mem with q0 | ⟨bO, oO, cO, TO, fO, rfl, hIO, ht1⟩
    · omega
    refine CodeF.loopD [0, 3, 5, 9, 61, 62, 63] (fun vs J' S' => ∃ (i : Nat) (d' : DSt) (chD' chR : List Blk), i ≤ gs.length + 1 ∧ W = wrAll (fun i => j.lay.l + (at_ + i) % s') (B.drop i) i d' ∧ d'.Few (k + i) ∧ Dk J' bD d' chD' ∧ J.le J' ∧
        vs = [.pointer (some ⟨bj, 0, none⟩), .pointer (some ⟨bs, 0, none⟩), .slice (some ⟨bO, oO, none⟩) (gs.length + 1) capO, .int .i64 at_, .slice (some ⟨bO, oO, none⟩) (gs.length + 1) capO, .int .i64 (gs.length + 1 : Nat), .int .i64 i] ∧
        S' = [pBox bj (.pointer (some ⟨bJ, 0, none⟩)) 22, pBox bl (.slice aL gs.length capL) 47, chR, pBox bs (.int .i64 0) 3, jChunk bJ ({ j with s := s', t := t', u := u', h := h' }.at bD g), chG, chD'])
      (fun vs _ _ => match vs with | [_, _, _, _, _, _, .int _ i] => ((gs.length + 1 : Int) - i).toNat | _ => 0) ?_ ?_
    · exact ⟨_, (Drop.pick [0, 1, 2, 3, 4, 5, 6] _ rfl), 0, d, chD, _, by omega, by rw [hW]; rfl, hd, hDJ, J.le_refl, rfl, rfl⟩
    rintro vs gE J' S' hJ' ⟨i, d', chD', chR, hi1, hWi, hdi, hDi, hle, rfl, rfl⟩
    refine CmpD.split (fun c4 => ?_) (fun c4 => ?_)
    · have hib : i < bs2.length := by omega
      have hcell : (bs2.map Bk.cell)[i]? = some bs2[i].cell := by rw [List.getElem?_map, List.getElem?_eq_getElem hib]; rfl
      have hbki := hbk _ (List.getElem_mem hib)
      have hBi : B.drop i = bs2[i].data :: B.drop (i + 1) := by
        have hiB : i < B.length := by omega
        rw [List.drop_eq_getElem_cons hiB]
        congr 1
        simp only [← hbd, List.getElem_map]
      obtain ⟨bk, hbke⟩ : ∃ bk, bk = bs2[i] := ⟨_, rfl⟩
      rw [← hbke] at hcell hbki hBi
      refine Chk.mk (by omega) ?_
      refine LoadD.imm (hle _ _ hIO) _ (take_get ht1 hcell) rfl ?_
      refine CodeF.sched [[], [], [1], [1, 2], [1, 2, 3], [], [5], [5, 6], [5, 6, 7], [5, 6, 7, 8], [], [], [10, 11], [], [13], [13, 14], [13, 14, 15], [13, 14, 15, 16], [10, 11, 12, 13, 14, 15, 16, 17], [5, 6, 7, 8, 9, 10, 11, 12, 13, 14, 15, 16, 17, 18], [], [1, 2, 3, 4, 5, 6, 7, 8, 9, 10, 11, 12, 13, 14, 15, 16, 17, 18, 19, 20], [0, 1, 2, 3, 4, 5, 6, 7, 8, 9, 10, 11, 12, 13, 14, 15, 16, 17, 18, 19, 20, 21], [0, 1, 2, 3, 4, 5, 6, 7, 8, 9, 10, 11, 12, 13, 14, 15, 16, 17, 18, 19, 20, 21, 22]] [0, 1, 2, 3, 4, 5, 6, 7, 8, 9, 10, 11, 12, 13, 14, 15, 16, 17, 18, 19, 20, 21, 22, 23] (by kernel_rfl) ?_
      have hm1 := Int.emod_nonneg (at_ + i) (b := s') (by omega)
      have hm2 := Int.emod_lt_of_pos (at_ + i) (b := s') (by omega)
      have hlog := hj.log
      repeat (first
        | refine LoadD.own 0 rfl _ rfl rfl ?_
        | refine LoadD.own 1 rfl _ rfl rfl ?_
        | refine LoadD.own 2 rfl _ rfl rfl ?_
        | refine LoadD.own 3 rfl _ rfl rfl ?_
        | refine LoadD.own 4 rfl _ rfl rfl ?_
        | refine LoadD.own 5 rfl _ rfl rfl ?_
        | refine LoadP.at 0 rfl _ rfl rfl ?_
        | refine LoadP.at 1 rfl _ rfl rfl ?_
        | refine LoadP.at 2 rfl _ rfl rfl ?_
        | refine LoadP.at 3 rfl _ rfl rfl ?_
        | refine LoadP.at 4 rfl _ rfl rfl ?_
        | refine LoadP.at 5 rfl _ rfl rfl ?_
        | refine StoreD.st 0 rfl rfl rfl ?_
        | refine StoreD.st 1 rfl rfl rfl ?_
        | refine StoreD.st 2 rfl rfl rfl ?_
        | refine StoreD.st 3 rfl rfl rfl ?_
        | refine StoreD.st 4 rfl rfl rfl ?_
        | refine StoreD.st 5 rfl rfl rfl ?_
        | refine CmpD.yes rfl ?_
        | refine CmpD.yes (by decide) ?_
        | refine CmpD.no (by decide) ?_
        | refine Chk.mk ⟨rfl, trivial⟩ ?_
        | refine Chk.mk ⟨rfl, rfl, trivial⟩ ?_
        | refine Chk.mk ⟨rfl, rfl, rfl, trivial⟩ ?_
        | refine Chk.mk ⟨rfl, rfl, rfl, rfl, trivial⟩ ?_
        | refine Chk.mk ⟨rfl, rfl, rfl, rfl, rfl, trivial⟩ ?_
        | refine Chk.mk ⟨rfl, rfl, rfl, rfl, rfl, rfl, trivial⟩ ?_)
      refine ToD.i64 (by omega) (by omega) ?_
      repeat (first
        | refine LoadD.own 0 rfl _ rfl rfl ?_
        | refine LoadD.own 1 rfl _ rfl rfl ?_
        | refine LoadD.own 2 rfl _ rfl rfl ?_
        | refine LoadD.own 3 rfl _ rfl rfl ?_
        | refine LoadD.own 4 rfl _ rfl rfl ?_
        | refine LoadD.own 5 rfl _ rfl rfl ?_
        | refine LoadP.at 0 rfl _ rfl rfl ?_
        | refine LoadP.at 1 rfl _ rfl rfl ?_
        | refine LoadP.at 2 rfl _ rfl rfl ?_
        | refine LoadP.at 3 rfl _ rfl rfl ?_
        | refine LoadP.at 4 rfl _ rfl rfl ?_
        | refine LoadP.at 5 rfl _ rfl rfl ?_
        | refine StoreD.st 0 rfl rfl rfl ?_
        | refine StoreD.st 1 rfl rfl rfl ?_
        | refine StoreD.st 2 rfl rfl rfl ?_
        | refine StoreD.st 3 rfl rfl rfl ?_
        | refine StoreD.st 4 rfl rfl rfl ?_
        | refine StoreD.st 5 rfl rfl rfl ?_
        | refine CmpD.yes rfl ?_
        | refine CmpD.yes (by decide) ?_
        | refine CmpD.no (by decide) ?_
        | refine Chk.mk ⟨rfl, trivial⟩ ?_
        | refine Chk.mk ⟨rfl, rfl, trivial⟩ ?_
        | refine Chk.mk ⟨rfl, rfl, rfl, trivial⟩ ?_
        | refine Chk.mk ⟨rfl, rfl, rfl, rfl, trivial⟩ ?_
        | refine Chk.mk ⟨rfl, rfl, rfl, rfl, rfl, trivial⟩ ?_
        | refine Chk.mk ⟨rfl, rfl, rfl, rfl, rfl, rfl, trivial⟩ ?_)
      refine Chk.mk (show s' ≠ 0 by omega) ?_
      refine ToD.rem (by omega) ?_
      refine ToD.i64 (show -9223372036854775808 ≤ j.lay.l + (at_ + i) % s' by omega) (show j.lay.l + (at_ + i) % s' ≤ 9223372036854775807 by omega) ?_
      refine Tri.frame1 6 rfl (dk_Write hDi (hdi.mono (by omega)) (j.lay.l + (at_ + i) % s') bk.a 4096 bk.cap bk.data (BkOk.mono hbki hle)) ?_
      rintro v J4 S4 hJ4 ⟨rfl, chD2, hD2, rfl⟩
      refine ⟨_, rfl, ?_⟩
      repeat (first
        | refine LoadD.own 0 rfl _ rfl rfl ?_
        | refine LoadD.own 1 rfl _ rfl rfl ?_
        | refine LoadD.own 2 rfl _ rfl rfl ?_
        | refine LoadD.own 3 rfl _ rfl rfl ?_
        | refine LoadD.own 4 rfl _ rfl rfl ?_
        | refine LoadD.own 5 rfl _ rfl rfl ?_
        | refine LoadP.at 0 rfl _ rfl rfl ?_
        | refine LoadP.at 1 rfl _ rfl rfl ?_
        | refine LoadP.at 2 rfl _ rfl rfl ?_
        | refine LoadP.at 3 rfl _ rfl rfl ?_
        | refine LoadP.at 4 rfl _ rfl rfl ?_
        | refine LoadP.at 5 rfl _ rfl rfl ?_
        | refine StoreD.st 0 rfl rfl rfl ?_
        | refine StoreD.st 1 rfl rfl rfl ?_
        | refine StoreD.st 2 rfl rfl rfl ?_
        | refine StoreD.st 3 rfl rfl rfl ?_
        | refine StoreD.st 4 rfl rfl rfl ?_
        | refine StoreD.st 5 rfl rfl rfl ?_
        | refine CmpD.yes rfl ?_
        | refine CmpD.yes (by decide) ?_
        | refine CmpD.no (by decide) ?_
        | refine Chk.mk ⟨rfl, trivial⟩ ?_
        | refine Chk.mk ⟨rfl, rfl, trivial⟩ ?_
        | refine Chk.mk ⟨rfl, rfl, rfl, trivial⟩ ?_
        | refine Chk.mk ⟨rfl, rfl, rfl, rfl, trivial⟩ ?_
        | refine Chk.mk ⟨rfl, rfl, rfl, rfl, rfl, trivial⟩ ?_
        | refine Chk.mk ⟨rfl, rfl, rfl, rfl, rfl, rfl, trivial⟩ ?_)
      refine Tri.frame1 4 rfl (jr_did bJ ({ j with s := s', t := t', u := u', h := h' }.at bD g) _ J4) ?_
      rintro v J5 S5 hJ5 ⟨rfl, rfl, rfl⟩
      refine ⟨_, rfl, ?_⟩
      rw [hBi, wrAll] at hWi
      refine CmpD.split (fun c5 => ?_) (fun c5 => ?_)
      · rw [if_neg (by simpa using c5)] at hWi
        repeat (first
          | refine LoadD.own 0 rfl _ rfl rfl ?_
          | refine LoadD.own 1 rfl _ rfl rfl ?_
          | refine LoadD.own 2 rfl _ rfl rfl ?_
          | refine LoadD.own 3 rfl _ rfl rfl ?_
          | refine LoadD.own 4 rfl _ rfl rfl ?_
          | refine LoadD.own 5 rfl _ rfl rfl ?_
          | refine LoadP.at 0 rfl _ rfl rfl ?_
          | refine LoadP.at 1 rfl _ rfl rfl ?_
          | refine LoadP.at 2 rfl _ rfl rfl ?_
          | refine LoadP.at 3 rfl _ rfl rfl ?_
          | refine LoadP.at 4 rfl _ rfl rfl ?_
          | refine LoadP.at 5 rfl _ rfl rfl ?_
          | refine StoreD.st 0 rfl rfl rfl ?_
          | refine StoreD.st 1 rfl rfl rfl ?_
          | refine StoreD.st 2 rfl rfl rfl ?_
          | refine StoreD.st 3 rfl rfl rfl ?_
          | refine StoreD.st 4 rfl rfl rfl ?_
          | refine StoreD.st 5 rfl rfl rfl ?_
          | refine CmpD.yes rfl ?_
          | refine CmpD.yes (by decide) ?_
          | refine CmpD.no (by decide) ?_
          | refine Chk.mk ⟨rfl, trivial⟩ ?_
          | refine Chk.mk ⟨rfl, rfl, trivial⟩ ?_
          | refine Chk.mk ⟨rfl, rfl, rfl, trivial⟩ ?_
          | refine Chk.mk ⟨rfl, rfl, rfl, rfl, trivial⟩ ?_
          | refine Chk.mk ⟨rfl, rfl, rfl, rfl, rfl, trivial⟩ ?_
          | refine Chk.mk ⟨rfl, rfl, rfl, rfl, rfl, rfl, trivial⟩ ?_)
        refine ToD.i64 (by omega) (by omega) ?_
        refine ⟨_, Drop.pick [0, 1, 2, 3, 4, 5, 6] _ rfl, ⟨i + 1, _, chD2, chR, by omega, hWi, hdi.write _ _, hD2, Imm.le_trans hle hJ4, rfl, ?_⟩, ?_⟩
        · rw [decide_eq_true c5]
          show [_, _, _, _, jChunk bJ { ({ j with s := s', t := t', u := u', h := h' } : JSt).at bD g with broken := j.broken || !true }, _, _] = _
          rw [hb]; rfl
        · show ((gs.length + 1 : Int) - ((i : Int) + 1)).toNat < ((gs.length + 1 : Int) - (i : Int)).toNat
          omega
      · rw [if_pos c5] at hWi
        repeat (first
          | refine LoadD.own 0 rfl _ rfl rfl ?_
          | refine LoadD.own 1 rfl _ rfl rfl ?_
          | refine LoadD.own 2 rfl _ rfl rfl ?_
          | refine LoadD.own 3 rfl _ rfl rfl ?_
          | refine LoadD.own 4 rfl _ rfl rfl ?_
          | refine LoadD.own 5 rfl _ rfl rfl ?_
          | refine LoadP.at 0 rfl _ rfl rfl ?_
          | refine LoadP.at 1 rfl _ rfl rfl ?_
          | refine LoadP.at 2 rfl _ rfl rfl ?_
          | refine LoadP.at 3 rfl _ rfl rfl ?_
          | refine LoadP.at 4 rfl _ rfl rfl ?_
          | refine LoadP.at 5 rfl _ rfl rfl ?_
          | refine StoreD.st 0 rfl rfl rfl ?_
          | refine StoreD.st 1 rfl rfl rfl ?_
          | refine StoreD.st 2 rfl rfl rfl ?_
          | refine StoreD.st 3 rfl rfl rfl ?_
          | refine StoreD.st 4 rfl rfl rfl ?_
          | refine StoreD.st 5 rfl rfl rfl ?_
          | refine CmpD.yes rfl ?_
          | refine CmpD.yes (by decide) ?_
          | refine CmpD.no (by decide) ?_
          | refine Chk.mk ⟨rfl, trivial⟩ ?_
          | refine Chk.mk ⟨rfl, rfl, trivial⟩ ?_
          | refine Chk.mk ⟨rfl, rfl, rfl, trivial⟩ ?_
          | refine Chk.mk ⟨rfl, rfl, rfl, rfl, trivial⟩ ?_
          | refine Chk.mk ⟨rfl, rfl, rfl, rfl, rfl, trivial⟩ ?_
          | refine Chk.mk ⟨rfl, rfl, rfl, rfl, rfl, rfl, trivial⟩ ?_)
        refine Done.mk ?_
        rw [hWi, if_pos c5]
        refine ⟨[pBox bs (.int .i64 0) 3, jChunk bJ ({ j with s := s', t := t', u := u', h := h', broken := true }.at bD g) ++ chG, chD2], ?_, rfl, _, _, ⟨g, chG, rfl, hG⟩, hD2, rfl⟩
        rw [decide_eq_false c5]
        refine (Drop.pick [3, 4, 5, 6] _ rfl).trans (Drop.flat ?_)
        show List.flatten [_, jChunk bJ { ({ j with s := s', t := t', u := u', h := h' } : JSt).at bD g with broken := j.broken || !false }, _, _] = _
        rw [hb]; simp
    · obtain rfl : i = gs.length + 1 := by omega
      rw [List.drop_of_length_le (by omega), wrAll] at hWi
      rw [hWi, if_neg (by simp)]
      repeat (first
        | refine LoadD.own 0 rfl _ rfl rfl ?_
        | refine LoadD.own 1 rfl _ rfl rfl ?_
        | refine LoadD.own 2 rfl _ rfl rfl ?_
        | refine LoadD.own 3 rfl _ rfl rfl ?_
        | refine LoadD.own 4 rfl _ rfl rfl ?_
        | refine LoadD.own 5 rfl _ rfl rfl ?_
        | refine LoadP.at 0 rfl _ rfl rfl ?_
        | refine LoadP.at 1 rfl _ rfl rfl ?_
        | refine LoadP.at 2 rfl _ rfl rfl ?_
        | refine LoadP.at 3 rfl _ rfl rfl ?_
        | refine LoadP.at 4 rfl _ rfl rfl ?_
        | refine LoadP.at 5 rfl _ rfl rfl ?_
        | refine StoreD.st 0 rfl rfl rfl ?_
        | refine StoreD.st 1 rfl rfl rfl ?_
        | refine StoreD.st 2 rfl rfl rfl ?_
        | refine StoreD.st 3 rfl rfl rfl ?_
        | refine StoreD.st 4 rfl rfl rfl ?_
        | refine StoreD.st 5 rfl rfl rfl ?_
        | refine CmpD.yes rfl ?_
        | refine CmpD.yes (by decide) ?_
        | refine CmpD.no (by decide) ?_
        | refine Chk.mk ⟨rfl, trivial⟩ ?_
        | refine Chk.mk ⟨rfl, rfl, trivial⟩ ?_
        | refine Chk.mk ⟨rfl, rfl, rfl, trivial⟩ ?_
        | refine Chk.mk ⟨rfl, rfl, rfl, rfl, trivial⟩ ?_
        | refine Chk.mk ⟨rfl, rfl, rfl, rfl, rfl, trivial⟩ ?_
        | refine Chk.mk ⟨rfl, rfl, rfl, rfl, rfl, rfl, trivial⟩ ?_)
      refine CodeF.sched [[], [], [1], [1, 2], [1, 2, 3], [], [], [6], [5, 6, 7], [5, 6, 7, 8], [1, 2, 3, 4, 5, 6, 7, 8, 9], [0, 1, 2, 3, 4, 5, 6, 7, 8, 9, 10], [0, 1, 2, 3, 4, 5, 6, 7, 8, 9, 10, 11], [0, 1, 2, 3, 4, 5, 6, 7, 8, 9, 10, 11, 12]] [0, 1, 2, 3, 4, 5, 6, 7, 8, 9, 10, 11, 12, 13] (by kernel_rfl) ?_
      repeat (first
        | refine LoadD.own 0 rfl _ rfl rfl ?_
        | refine LoadD.own 1 rfl _ rfl rfl ?_
        | refine LoadD.own 2 rfl _ rfl rfl ?_
        | refine LoadD.own 3 rfl _ rfl rfl ?_
        | refine LoadD.own 4 rfl _ rfl rfl ?_
        | refine LoadD.own 5 rfl _ rfl rfl ?_
        | refine LoadP.at 0 rfl _ rfl rfl ?_
        | refine LoadP.at 1 rfl _ rfl rfl ?_
        | refine LoadP.at 2 rfl _ rfl rfl ?_
        | refine LoadP.at 3 rfl _ rfl rfl ?_
        | refine LoadP.at 4 rfl _ rfl rfl ?_
        | refine LoadP.at 5 rfl _ rfl rfl ?_
        | refine StoreD.st 0 rfl rfl rfl ?_
        | refine StoreD.st 1 rfl rfl rfl ?_
        | refine StoreD.st 2 rfl rfl rfl ?_
        | refine StoreD.st 3 rfl rfl rfl ?_
        | refine StoreD.st 4 rfl rfl rfl ?_
        | refine StoreD.st 5 rfl rfl rfl ?_
        | refine CmpD.yes rfl ?_
        | refine CmpD.yes (by decide) ?_
        | refine CmpD.no (by decide) ?_
        | refine Chk.mk ⟨rfl, trivial⟩ ?_
        | refine Chk.mk ⟨rfl, rfl, trivial⟩ ?_
        | refine Chk.mk ⟨rfl, rfl, rfl, trivial⟩ ?_
        | refine Chk.mk ⟨rfl, rfl, rfl, rfl, trivial⟩ ?_
        | refine Chk.mk ⟨rfl, rfl, rfl, rfl, rfl, trivial⟩ ?_
        | refine Chk.mk ⟨rfl, rfl, rfl, rfl, rfl, rfl, trivial⟩ ?_)
      conv => whnf
      intro bN
      repeat (first
        | refine LoadD.own 0 rfl _ rfl rfl ?_
        | refine LoadD.own 1 rfl _ rfl rfl ?_
        | refine LoadD.own 2 rfl _ rfl rfl ?_
        | refine LoadD.own 3 rfl _ rfl rfl ?_
        | refine LoadD.own 4 rfl _ rfl rfl ?_
        | refine LoadD.own 5 rfl _ rfl rfl ?_
        | refine LoadP.at 0 rfl _ rfl rfl ?_
        | refine LoadP.at 1 rfl _ rfl rfl ?_
        | refine LoadP.at 2 rfl _ rfl rfl ?_
        | refine LoadP.at 3 rfl _ rfl rfl ?_
        | refine LoadP.at 4 rfl _ rfl rfl ?_
        | refine LoadP.at 5 rfl _ rfl rfl ?_
        | refine StoreD.st 0 rfl rfl rfl ?_
        | refine StoreD.st 1 rfl rfl rfl ?_
        | refine StoreD.st 2 rfl rfl rfl ?_
        | refine StoreD.st 3 rfl rfl rfl ?_
        | refine StoreD.st 4 rfl rfl rfl ?_
        | refine StoreD.st 5 rfl rfl rfl ?_
        | refine CmpD.yes rfl ?_
        | refine CmpD.yes (by decide) ?_
        | refine CmpD.no (by decide) ?_
        | refine Chk.mk ⟨rfl, trivial⟩ ?_
        | refine Chk.mk ⟨rfl, rfl, trivial⟩ ?_
        | refine Chk.mk ⟨rfl, rfl, rfl, trivial⟩ ?_
        | refine Chk.mk ⟨rfl, rfl, rfl, rfl, trivial⟩ ?_
        | refine Chk.mk ⟨rfl, rfl, rfl, rfl, rfl, trivial⟩ ?_
        | refine Chk.mk ⟨rfl, rfl, rfl, rfl, rfl, rfl, trivial⟩ ?_)
      refine appendD tabOk rfl rfl rfl rfl rfl rfl rfl 5 rfl hG (SrcOk.slice (n := 1) (news := [.int .i64 j.next, .int .i64 (gs.length + 1 : Nat)]) tabOk rfl ((OwnC.whole (len := 1) (size := 2) rfl).slC 7 rfl) (by intro v hv; simp only [List.mem_cons, List.not_mem_nil, or_false] at hv; rcases hv with rfl | rfl <;> rfl)) rfl ?_ ?_ ?_
      · have := hG.n; rw [gCells_length] at this
        show (g.len + 1) * 16 ≤ _
        omega
      · have := hG.n; rw [gCells_length] at this
        show g.len + 1 ≤ _
        omega
      have hn0 := hj.next
      intro a2 cap2 ch2 hG2
      repeat (first
        | refine LoadD.own 0 rfl _ rfl rfl ?_
        | refine LoadD.own 1 rfl _ rfl rfl ?_
        | refine LoadD.own 2 rfl _ rfl rfl ?_
        | refine LoadD.own 3 rfl _ rfl rfl ?_
        | refine LoadD.own 4 rfl _ rfl rfl ?_
        | refine LoadD.own 5 rfl _ rfl rfl ?_
        | refine LoadD.own 6 rfl _ rfl rfl ?_
        | refine LoadD.own 7 rfl _ rfl rfl ?_
        | refine LoadP.at 0 rfl _ rfl rfl ?_
        | refine LoadP.at 1 rfl _ rfl rfl ?_
        | refine LoadP.at 2 rfl _ rfl rfl ?_
        | refine LoadP.at 3 rfl _ rfl rfl ?_
        | refine LoadP.at 4 rfl _ rfl rfl ?_
        | refine LoadP.at 5 rfl _ rfl rfl ?_
        | refine LoadP.at 6 rfl _ rfl rfl ?_
        | refine LoadP.at 7 rfl _ rfl rfl ?_
        | refine StoreD.st 0 rfl rfl rfl ?_
        | refine StoreD.st 1 rfl rfl rfl ?_
        | refine StoreD.st 2 rfl rfl rfl ?_
        | refine StoreD.st 3 rfl rfl rfl ?_
        | refine StoreD.st 4 rfl rfl rfl ?_
        | refine StoreD.st 5 rfl rfl rfl ?_
        | refine StoreD.st 6 rfl rfl rfl ?_
        | refine StoreD.st 7 rfl rfl rfl ?_
        | refine CmpD.yes rfl ?_
        | refine CmpD.yes (by decide) ?_
        | refine CmpD.no (by decide) ?_
        | refine Chk.mk ⟨rfl, trivial⟩ ?_
        | refine Chk.mk ⟨rfl, rfl, trivial⟩ ?_
        | refine Chk.mk ⟨rfl, rfl, rfl, trivial⟩ ?_
        | refine Chk.mk ⟨rfl, rfl, rfl, rfl, trivial⟩ ?_
        | refine Chk.mk ⟨rfl, rfl, rfl, rfl, rfl, trivial⟩ ?_
        | refine Chk.mk ⟨rfl, rfl, rfl, rfl, rfl, rfl, trivial⟩ ?_)
      refine ToD.i64 (show -9223372036854775808 ≤ j.next + 1 by omega) (show j.next + 1 ≤ _ by omega) ?_
      repeat (first
        | refine LoadD.own 0 rfl _ rfl rfl ?_
        | refine LoadD.own 1 rfl _ rfl rfl ?_
        | refine LoadD.own 2 rfl _ rfl rfl ?_
        | refine LoadD.own 3 rfl _ rfl rfl ?_
        | refine LoadD.own 4 rfl _ rfl rfl ?_
        | refine LoadD.own 5 rfl _ rfl rfl ?_
        | refine LoadD.own 6 rfl _ rfl rfl ?_
        | refine LoadD.own 7 rfl _ rfl rfl ?_
        | refine LoadP.at 0 rfl _ rfl rfl ?_
        | refine LoadP.at 1 rfl _ rfl rfl ?_
        | refine LoadP.at 2 rfl _ rfl rfl ?_
        | refine LoadP.at 3 rfl _ rfl rfl ?_
        | refine LoadP.at 4 rfl _ rfl rfl ?_
        | refine LoadP.at 5 rfl _ rfl rfl ?_
        | refine LoadP.at 6 rfl _ rfl rfl ?_
        | refine LoadP.at 7 rfl _ rfl rfl ?_
        | refine StoreD.st 0 rfl rfl rfl ?_
        | refine StoreD.st 1 rfl rfl rfl ?_
        | refine StoreD.st 2 rfl rfl rfl ?_
        | refine StoreD.st 3 rfl rfl rfl ?_
        | refine StoreD.st 4 rfl rfl rfl ?_
        | refine StoreD.st 5 rfl rfl rfl ?_
        | refine StoreD.st 6 rfl rfl rfl ?_
        | refine StoreD.st 7 rfl rfl rfl ?_
        | refine CmpD.yes rfl ?_
        | refine CmpD.yes (by decide) ?_
        | refine CmpD.no (by decide) ?_
        | refine Chk.mk ⟨rfl, trivial⟩ ?_
        | refine Chk.mk ⟨rfl, rfl, trivial⟩ ?_
        | refine Chk.mk ⟨rfl, rfl, rfl, trivial⟩ ?_
        | refine Chk.mk ⟨rfl, rfl, rfl, rfl, trivial⟩ ?_
        | refine Chk.mk ⟨rfl, rfl, rfl, rfl, rfl, trivial⟩ ?_
        | refine Chk.mk ⟨rfl, rfl, rfl, rfl, rfl, rfl, trivial⟩ ?_)
      refine Done.mk ?_
      refine ⟨[pBox bs (.int .i64 j.next) 3, jChunk bJ ({ j with s := s', t := t', u := u', h := h', groups := j.groups ++ [(j.next, (gs.length + 1 : Int))], next := j.next + 1 }.at bD ⟨a2, g.len + 1, cap2⟩) ++ ch2, chD'], ?_, rfl, _, _, ⟨⟨a2, g.len + 1, cap2⟩, ch2, rfl, ?_⟩, hDi, rfl⟩
      · refine (Drop.pick [3, 4, 5, 6] _ rfl).trans (Drop.flat ?_)
        simp [St.at]
        exact ⟨rfl, rfl⟩
      · rw [gCells_snoc]; exact hG2
end Go.Proofs.Ytbpdbgcndfcilaa
namespace Go.Proofs.Ytbpdbgcndfcilaa
open Go.RowKit Go.Sl
set_option maxRecDepth 20000

def JSt.appendB (j : JSt) (d : DSt) (l : List PImg) (held : Bool) : JSt × DSt × Int × Int := if j.broken then (j, d, 0, 4) else j.append d l held
set_option maxHeartbeats 1000000 in
theorem jk_Append {bJ bD : Nat} {j : JSt} {ch : List Blk} (hJ0 : Jk bJ bD j ch) (hj : j.Wf) {I : Imm} {d : DSt} {chD : List Blk} (hD : Dk I bD d chD) (hd : d.Few 900000) (hg6 : j.groups.length ≤ 900000)
    (aL : Option Addr) (capL : Nat) (gs : List Img) (hi : ImgsOk I aL gs) (hgl : gs.length ≤ 9223372036854775806) (held : Bool) :
    Tri Try.prog 14 #[.pointer (some ⟨bJ, 0, none⟩), .slice aL gs.length capL, .bool held] I [ch, chD] fun v J S' =>
      v = .tuple #[.int .i64 (j.appendB d (gs.map Img.pr) held).2.2.1, .int .i64 (j.appendB d (gs.map Img.pr) held).2.2.2] ∧ ∃ chJ chD', Jk bJ bD (j.appendB d (gs.map Img.pr) held).1 chJ ∧ Dk J bD (j.appendB d (gs.map Img.pr) held).2.1 chD' ∧ S' = [chJ, chD'] := by
  obtain ⟨g, chG, rfl, hG⟩ := hJ0
  have hm := fun bj bl br bs => jr_may4 bJ (j.at bD g) 73 bj bl br bs I [pBox bj (.pointer (some ⟨bJ, 0, none⟩)) 22, pBox bl (.slice aL gs.length capL) 47, pBox br (.bool held) 4, pBox bs (.int .i64 0) 3, jChunk bJ (j.at bD g), chG, chD] 4 rfl
    (fun hb => jk_Append1 bj bl br bs bJ bD j hj hb g chG hG d chD I hD 900000 hd (Nat.le_refl _) aL capL gs hi hgl hg6 held)
  refine Tri.lay (S2 := [jChunk bJ (j.at bD g), chG, chD]) (by simp) ?_
  refine Tri.drop ?_ (fun _ _ _ _ h => h)
  refine Tri.of (args := [.pointer (some ⟨bJ, 0, none⟩), .slice aL gs.length capL, .bool held]) tabOk Try.func14 rfl (by kernel_rfl) (by kernel_rfl) ?_
  conv => whnf
  intro b3
  conv => whnf
  intro b4
  conv => whnf
  intro b5
  conv => whnf
  intro b8
  repeat (first
    | refine LoadD.own 0 rfl _ rfl rfl ?_
    | refine LoadD.own 1 rfl _ rfl rfl ?_
    | refine LoadD.own 2 rfl _ rfl rfl ?_
    | refine LoadD.own 3 rfl _ rfl rfl ?_
    | refine LoadD.own 4 rfl _ rfl rfl ?_
    | refine LoadD.own 5 rfl _ rfl rfl ?_
    | refine LoadD.own 6 rfl _ rfl rfl ?_
    | refine LoadD.own 7 rfl _ rfl rfl ?_
    | refine LoadP.at 0 rfl _ rfl rfl ?_
    | refine LoadP.at 1 rfl _ rfl rfl ?_
    | refine LoadP.at 2 rfl _ rfl rfl ?_
    | refine LoadP.at 3 rfl _ rfl rfl ?_
    | refine LoadP.at 4 rfl _ rfl rfl ?_
    | refine LoadP.at 5 rfl _ rfl rfl ?_
    | refine LoadP.at 6 rfl _ rfl rfl ?_
    | refine LoadP.at 7 rfl _ rfl rfl ?_
    | refine StoreD.st 0 rfl rfl rfl ?_
    | refine StoreD.st 1 rfl rfl rfl ?_
    | refine StoreD.st 2 rfl rfl rfl ?_
    | refine StoreD.st 3 rfl rfl rfl ?_
    | refine StoreD.st 4 rfl rfl rfl ?_
    | refine StoreD.st 5 rfl rfl rfl ?_
    | refine StoreD.st 6 rfl rfl rfl ?_
    | refine StoreD.st 7 rfl rfl rfl ?_
    | refine CmpD.yes rfl ?_
    | refine CmpD.yes (by decide) ?_
    | refine CmpD.no (by decide) ?_
    | refine Chk.mk ⟨rfl, trivial⟩ ?_
    | refine Chk.mk ⟨rfl, rfl, trivial⟩ ?_
    | refine Chk.mk ⟨rfl, rfl, rfl, trivial⟩ ?_
    | refine Chk.mk ⟨rfl, rfl, rfl, rfl, trivial⟩ ?_
    | refine Chk.mk ⟨rfl, rfl, rfl, rfl, rfl, trivial⟩ ?_
    | refine Chk.mk ⟨rfl, rfl, rfl, rfl, rfl, rfl, trivial⟩ ?_)
  refine Tri.frameX (hm b3 b4 b5 b8) [3, 4, 5, 6, 0, 1, 2] rfl rfl ?_
  unfold JSt.appendB
  rintro v J A' hJ (⟨hb, rfl, rfl, rfl⟩ | ⟨hb, rfl, chJ, chD', h1, h2, rfl⟩)
  · refine LoadD.own 10 rfl [.int .i64 0] rfl rfl ?_
    rw [if_pos hb]
    exact Done.mk ⟨[jChunk bJ (j.at bD g) ++ chG, chD], (Drop.pick [11, 12, 13] _ rfl).trans (Drop.flat (by simp [St.at])), rfl, _, _, ⟨g, chG, rfl, hG⟩, hD, rfl⟩
  · rw [if_neg (by have hb : j.broken = false := hb; rw [hb]; simp)]
    refine LoadD.own 7 rfl [.int .i64 _] rfl rfl ?_
    exact Done.mk ⟨[chJ, chD'], (Drop.pick [8, 9] _ rfl).trans (Drop.flat (by simp [St.at])), rfl, _, _, h1, h2, rfl⟩
end Go.Proofs.Ytbpdbgcndfcilaa
namespace Go.Proofs.Ytbpdbgcndfcilaa
open Go.RowKit Go.Sl
set_option maxRecDepth 20000

def JSt.flush (j : JSt) (d : DSt) : JSt × DSt × Int := if j.broken then (j, d, 4) else if d.flush.2 ≠ 0 then ({ j with broken := true }, d.flush.1, d.flush.2) else ({ j with synced := j.next - 1 }, d.flush.1, 0)
theorem jk_Flush1 (bx bJ bD : Nat) (j : JSt) (hj : j.Wf) (hb : j.broken = false) (g : Hd) (chG : List Blk) (hG : OwnC chG 2 g.a g.len g.cap (gCells j.groups)) (d : DSt) (chD : List Blk) (I : Imm) (hD : Dk I bD d chD) :
    Tri Try.prog 84 #[.pointer (some ⟨bx, 0, none⟩)] I [pBox bx (.pointer (some ⟨bJ, 0, none⟩)) 22, jChunk bJ (j.at bD g), chG, chD] fun v J S' =>
      v = .int .i64 (j.flush d).2.2 ∧ ∃ chJ chD', Jk bJ bD (j.flush d).1 chJ ∧ Dk J bD (j.flush d).2.1 chD' ∧ S' = [chJ, chD'] := by
  have hn := hj.next
  unfold JSt.flush
  rw [if_neg (by rw [hb]; simp)]
  refine Tri.drop ?_ (fun _ _ _ _ h => h)
  refine Tri.of (args := [.pointer (some ⟨bx, 0, none⟩)]) tabOk Try.func84 rfl (by kernel_rfl) (by kernel_rfl) ?_
  refine CodeF.sched [[], [], [1], [1, 2], [1, 2, 3], [1, 2, 3, 4], [0, 1, 2, 3, 4, 5], [0, 1, 2, 3, 4, 5, 6]] [0, 1, 2, 3, 4, 5, 6, 7] (by kernel_rfl) ?_
  repeat (first
    | refine LoadD.own 0 rfl _ rfl rfl ?_
    | refine LoadD.own 1 rfl _ rfl rfl ?_
    | refine LoadD.own 2 rfl _ rfl rfl ?_
    | refine LoadD.own 3 rfl _ rfl rfl ?_
    | refine LoadP.at 0 rfl _ rfl rfl ?_
    | refine LoadP.at 1 rfl _ rfl rfl ?_
    | refine LoadP.at 2 rfl _ rfl rfl ?_
    | refine LoadP.at 3 rfl _ rfl rfl ?_
    | refine StoreD.st 0 rfl rfl rfl ?_
    | refine StoreD.st 1 rfl rfl rfl ?_
    | refine StoreD.st 2 rfl rfl rfl ?_
    | refine StoreD.st 3 rfl rfl rfl ?_
    | refine CmpD.yes rfl ?_
    | refine CmpD.yes (by decide) ?_
    | refine CmpD.no (by decide) ?_
    | refine Chk.mk ⟨rfl, trivial⟩ ?_
    | refine Chk.mk ⟨rfl, rfl, trivial⟩ ?_
    | refine Chk.mk ⟨rfl, rfl, rfl, trivial⟩ ?_
    | refine Chk.mk ⟨rfl, rfl, rfl, rfl, trivial⟩ ?_
    | refine Chk.mk ⟨rfl, rfl, rfl, rfl, rfl, trivial⟩ ?_
    | refine Chk.mk ⟨rfl, rfl, rfl, rfl, rfl, rfl, trivial⟩ ?_)
  refine Tri.frame1 3 rfl (dk_Flush hD) ?_
  rintro v J S' hJ ⟨rfl, chD', hD', rfl⟩
  refine ⟨_, rfl, ?_⟩
  repeat (first
    | refine LoadD.own 0 rfl _ rfl rfl ?_
    | refine LoadD.own 1 rfl _ rfl rfl ?_
    | refine LoadD.own 2 rfl _ rfl rfl ?_
    | refine LoadD.own 3 rfl _ rfl rfl ?_
    | refine LoadP.at 0 rfl _ rfl rfl ?_
    | refine LoadP.at 1 rfl _ rfl rfl ?_
    | refine LoadP.at 2 rfl _ rfl rfl ?_
    | refine LoadP.at 3 rfl _ rfl rfl ?_
    | refine StoreD.st 0 rfl rfl rfl ?_
    | refine StoreD.st 1 rfl rfl rfl ?_
    | refine StoreD.st 2 rfl rfl rfl ?_
    | refine StoreD.st 3 rfl rfl rfl ?_
    | refine CmpD.yes rfl ?_
    | refine CmpD.yes (by decide) ?_
    | refine CmpD.no (by decide) ?_
    | refine Chk.mk ⟨rfl, trivial⟩ ?_
    | refine Chk.mk ⟨rfl, rfl, trivial⟩ ?_
    | refine Chk.mk ⟨rfl, rfl, rfl, trivial⟩ ?_
    | refine Chk.mk ⟨rfl, rfl, rfl, rfl, trivial⟩ ?_
    | refine Chk.mk ⟨rfl, rfl, rfl, rfl, rfl, trivial⟩ ?_
    | refine Chk.mk ⟨rfl, rfl, rfl, rfl, rfl, rfl, trivial⟩ ?_)
  refine Tri.frame1 1 rfl (jr_did bJ (j.at bD g) _ J) ?_
  rintro v J S' hJ2 ⟨rfl, rfl, rfl⟩
  refine ⟨_, rfl, ?_⟩
  refine CmpD.split (fun c1 => ?_) (fun c1 => ?_)
  · rw [if_neg (by simpa using c1)]
    refine CodeF.sched [[], [], [1], [1, 2], [1, 2, 3], [1, 2, 3, 4], [0, 1, 2, 3, 4, 5], [0, 1, 2, 3, 4, 5, 6], [0, 1, 2, 3, 4, 5, 6, 7]] [0, 1, 2, 3, 4, 5, 6, 7, 8] (by kernel_rfl) ?_
    repeat (first
      | refine LoadD.own 0 rfl _ rfl rfl ?_
      | refine LoadD.own 1 rfl _ rfl rfl ?_
      | refine LoadD.own 2 rfl _ rfl rfl ?_
      | refine LoadD.own 3 rfl _ rfl rfl ?_
      | refine LoadP.at 0 rfl _ rfl rfl ?_
      | refine LoadP.at 1 rfl _ rfl rfl ?_
      | refine LoadP.at 2 rfl _ rfl rfl ?_
      | refine LoadP.at 3 rfl _ rfl rfl ?_
      | refine StoreD.st 0 rfl rfl rfl ?_
      | refine StoreD.st 1 rfl rfl rfl ?_
      | refine StoreD.st 2 rfl rfl rfl ?_
      | refine StoreD.st 3 rfl rfl rfl ?_
      | refine CmpD.yes rfl ?_
      | refine CmpD.yes (by decide) ?_
      | refine CmpD.no (by decide) ?_
      | refine Chk.mk ⟨rfl, trivial⟩ ?_
      | refine Chk.mk ⟨rfl, rfl, trivial⟩ ?_
      | refine Chk.mk ⟨rfl, rfl, rfl, trivial⟩ ?_
      | refine Chk.mk ⟨rfl, rfl, rfl, rfl, trivial⟩ ?_
      | refine Chk.mk ⟨rfl, rfl, rfl, rfl, rfl, trivial⟩ ?_
      | refine Chk.mk ⟨rfl, rfl, rfl, rfl, rfl, rfl, trivial⟩ ?_)
    refine ToD.i64 (show -9223372036854775808 ≤ j.next - 1 by omega) (show j.next - 1 ≤ _ by omega) ?_
    repeat (first
      | refine LoadD.own 0 rfl _ rfl rfl ?_
      | refine LoadD.own 1 rfl _ rfl rfl ?_
      | refine LoadD.own 2 rfl _ rfl rfl ?_
      | refine LoadD.own 3 rfl _ rfl rfl ?_
      | refine LoadP.at 0 rfl _ rfl rfl ?_
      | refine LoadP.at 1 rfl _ rfl rfl ?_
      | refine LoadP.at 2 rfl _ rfl rfl ?_
      | refine LoadP.at 3 rfl _ rfl rfl ?_
      | refine StoreD.st 0 rfl rfl rfl ?_
      | refine StoreD.st 1 rfl rfl rfl ?_
      | refine StoreD.st 2 rfl rfl rfl ?_
      | refine StoreD.st 3 rfl rfl rfl ?_
      | refine CmpD.yes rfl ?_
      | refine CmpD.yes (by decide) ?_
      | refine CmpD.no (by decide) ?_
      | refine Chk.mk ⟨rfl, trivial⟩ ?_
      | refine Chk.mk ⟨rfl, rfl, trivial⟩ ?_
      | refine Chk.mk ⟨rfl, rfl, rfl, trivial⟩ ?_
      | refine Chk.mk ⟨rfl, rfl, rfl, rfl, trivial⟩ ?_
      | refine Chk.mk ⟨rfl, rfl, rfl, rfl, rfl, trivial⟩ ?_
      | refine Chk.mk ⟨rfl, rfl, rfl, rfl, rfl, rfl, trivial⟩ ?_)
    refine Done.mk ⟨[jChunk bJ ({ j with synced := j.next - 1 }.at bD g) ++ chG, chD'], (Drop.pick [1, 2, 3] _ rfl).trans (Drop.flat ?_), rfl, _, _, ⟨g, chG, rfl, hG⟩, hD', rfl⟩
    rw [decide_eq_true c1]
    simp [St.at, hb]
    rfl
  · rw [if_pos c1]
    repeat (first
      | refine LoadD.own 0 rfl _ rfl rfl ?_
      | refine LoadD.own 1 rfl _ rfl rfl ?_
      | refine LoadD.own 2 rfl _ rfl rfl ?_
      | refine LoadD.own 3 rfl _ rfl rfl ?_
      | refine LoadP.at 0 rfl _ rfl rfl ?_
      | refine LoadP.at 1 rfl _ rfl rfl ?_
      | refine LoadP.at 2 rfl _ rfl rfl ?_
      | refine LoadP.at 3 rfl _ rfl rfl ?_
      | refine StoreD.st 0 rfl rfl rfl ?_
      | refine StoreD.st 1 rfl rfl rfl ?_
      | refine StoreD.st 2 rfl rfl rfl ?_
      | refine StoreD.st 3 rfl rfl rfl ?_
      | refine CmpD.yes rfl ?_
      | refine CmpD.yes (by decide) ?_
      | refine CmpD.no (by decide) ?_
      | refine Chk.mk ⟨rfl, trivial⟩ ?_
      | refine Chk.mk ⟨rfl, rfl, trivial⟩ ?_
      | refine Chk.mk ⟨rfl, rfl, rfl, trivial⟩ ?_
      | refine Chk.mk ⟨rfl, rfl, rfl, rfl, trivial⟩ ?_
      | refine Chk.mk ⟨rfl, rfl, rfl, rfl, rfl, trivial⟩ ?_
      | refine Chk.mk ⟨rfl, rfl, rfl, rfl, rfl, rfl, trivial⟩ ?_)
    refine Done.mk ⟨[jChunk bJ ({ j with broken := true }.at bD g) ++ chG, chD'], (Drop.pick [1, 2, 3] _ rfl).trans (Drop.flat ?_), rfl, _, _, ⟨g, chG, rfl, hG⟩, hD', rfl⟩
    rw [decide_eq_false c1]
    simp [St.at, hb]
theorem jk_Flush {bJ bD : Nat} {j : JSt} {ch : List Blk} (hJ0 : Jk bJ bD j ch) (hj : j.Wf) {I : Imm} {d : DSt} {chD : List Blk} (hD : Dk I bD d chD) :
    Tri Try.prog 18 #[.pointer (some ⟨bJ, 0, none⟩)] I [ch, chD] fun v J S' =>
      v = .int .i64 (j.flush d).2.2 ∧ ∃ chJ chD', Jk bJ bD (j.flush d).1 chJ ∧ Dk J bD (j.flush d).2.1 chD' ∧ S' = [chJ, chD'] := by
  obtain ⟨g, chG, rfl, hG⟩ := hJ0
  have hm := fun bx => jr_may1 bJ (j.at bD g) 84 bx I [pBox bx (.pointer (some ⟨bJ, 0, none⟩)) 22, jChunk bJ (j.at bD g), chG, chD] 1 rfl (fun hb => jk_Flush1 bx bJ bD j hj hb g chG hG d chD I hD)
  refine Tri.lay (S2 := [jChunk bJ (j.at bD g), chG, chD]) (by simp) ?_
  refine Tri.drop ?_ (fun _ _ _ _ h => h)
  refine Tri.of (args := [.pointer (some ⟨bJ, 0, none⟩)]) tabOk Try.func18 rfl (by kernel_rfl) (by kernel_rfl) ?_
  conv => whnf
  intro b3
  repeat (first
    | refine LoadD.own 0 rfl _ rfl rfl ?_
    | refine LoadD.own 1 rfl _ rfl rfl ?_
    | refine LoadD.own 2 rfl _ rfl rfl ?_
    | refine LoadD.own 3 rfl _ rfl rfl ?_
    | refine LoadP.at 0 rfl _ rfl rfl ?_
    | refine LoadP.at 1 rfl _ rfl rfl ?_
    | refine LoadP.at 2 rfl _ rfl rfl ?_
    | refine LoadP.at 3 rfl _ rfl rfl ?_
    | refine StoreD.st 0 rfl rfl rfl ?_
    | refine StoreD.st 1 rfl rfl rfl ?_
    | refine StoreD.st 2 rfl rfl rfl ?_
    | refine StoreD.st 3 rfl rfl rfl ?_
    | refine CmpD.yes rfl ?_
    | refine CmpD.yes (by decide) ?_
    | refine CmpD.no (by decide) ?_
    | refine Chk.mk ⟨rfl, trivial⟩ ?_
    | refine Chk.mk ⟨rfl, rfl, trivial⟩ ?_
    | refine Chk.mk ⟨rfl, rfl, rfl, trivial⟩ ?_
    | refine Chk.mk ⟨rfl, rfl, rfl, rfl, trivial⟩ ?_
    | refine Chk.mk ⟨rfl, rfl, rfl, rfl, rfl, trivial⟩ ?_
    | refine Chk.mk ⟨rfl, rfl, rfl, rfl, rfl, rfl, trivial⟩ ?_)
  refine Tri.frameX (hm b3) [3, 0, 1, 2] rfl rfl ?_
  rintro v J A' hJ (⟨hb, rfl, rfl, rfl⟩ | ⟨hb, rfl, chJ, chD', h1, h2, rfl⟩)
  · unfold JSt.flush
    rw [if_pos hb]
    exact Done.mk ⟨[jChunk bJ (j.at bD g) ++ chG, chD], (Drop.pick [5, 6, 7] _ rfl).trans (Drop.flat (by simp [St.at])), rfl, _, _, ⟨g, chG, rfl, hG⟩, hD, rfl⟩
  · exact Done.mk ⟨[chJ, chD'], (Drop.pick [4, 5] _ rfl).trans (Drop.flat (by simp [St.at])), rfl, _, _, h1, h2, rfl⟩
/-- groups let go, one by one -/
def relAll (seq : Int) : List (Int × Int) → Int → Int → Int → Int → List (Int × Int) × R5
  | [], s, t, u, h => ([], (s, t, u, h, 0))
  | g :: gs, s, t, u, h => if g.1 ≤ seq then (match dropS s t u h g.2 with
    | (s', t', u', h', e) => if e = 0 then relAll seq gs s' t' u' h' else (g :: gs, (s, t, u, h, e))) else (g :: gs, (s, t, u, h, 0))
def JSt.release (j : JSt) (seq : Int) : JSt × Int := if j.broken then (j, 4) else if j.synced < seq then (j, 2) else match relAll seq j.groups j.s j.t j.u j.h with
  | (gs, (s, t, u, h, e)) => ({ j with s := s, t := t, u := u, h := h, groups := gs }, e)
theorem dropS_mid {s t u h n : Int} (hr : Ok s t u h) {s' t' u' h' e : Int} (hp : dropS s t u h n = (s', t', u', h', e)) (he : e = 0) : Ok s' t' u' h' := by
  unfold dropS at hp
  subst he
  split at hp
  · simp at hp
  · rename_i h1
    simp only [Prod.mk.injEq] at hp
    obtain ⟨rfl, rfl, rfl, rfl, _⟩ := hp
    unfold Ok at hr h1 ⊢
    have := Int.emod_nonneg (t + n) (b := s) (by omega)
    have := Int.emod_lt_of_pos (t + n) (b := s) (by omega)
    omega
set_option maxHeartbeats 2000000 in
theorem jk_Release1 (bn bx bJ bD : Nat) (seq : Int) (j : JSt) (hj : j.Wf) (hb : j.broken = false) (g : Hd) (chG : List Blk) (hG : OwnC chG 2 g.a g.len g.cap (gCells j.groups)) (I : Imm) :
    Tri Try.prog 85 #[.pointer (some ⟨bn, 0, none⟩), .pointer (some ⟨bx, 0, none⟩)] I [pBox bn (.int .i64 seq) 3, pBox bx (.pointer (some ⟨bJ, 0, none⟩)) 22, jChunk bJ (j.at bD g), chG] fun v J S' =>
      I = J ∧ v = .int .i64 (j.release seq).2 ∧ ∃ chJ, Jk bJ bD (j.release seq).1 chJ ∧ S' = [chJ] := by
  unfold JSt.release
  rw [if_neg (by rw [hb]; simp)]
  refine Tri.drop ?_ (fun _ _ _ _ h => h)
  refine Tri.of (args := [.pointer (some ⟨bn, 0, none⟩), .pointer (some ⟨bx, 0, none⟩)]) tabOk Try.func85 rfl (by kernel_rfl) (by kernel_rfl) ?_
  refine CodeF.sched [[], [], [1], [1, 2], [1, 2, 3], [0, 1, 2, 3, 4]] [0, 1, 2, 3, 4, 5] (by kernel_rfl) ?_
  repeat (first
    | refine LoadD.own 0 rfl _ rfl rfl ?_
    | refine LoadD.own 1 rfl _ rfl rfl ?_
    | refine LoadD.own 2 rfl _ rfl rfl ?_
    | refine LoadD.own 3 rfl _ rfl rfl ?_
    | refine LoadP.at 0 rfl _ rfl rfl ?_
    | refine LoadP.at 1 rfl _ rfl rfl ?_
    | refine LoadP.at 2 rfl _ rfl rfl ?_
    | refine LoadP.at 3 rfl _ rfl rfl ?_
    | refine StoreD.st 0 rfl rfl rfl ?_
    | refine StoreD.st 1 rfl rfl rfl ?_
    | refine StoreD.st 2 rfl rfl rfl ?_
    | refine StoreD.st 3 rfl rfl rfl ?_
    | refine CmpD.yes rfl ?_
    | refine CmpD.yes (by decide) ?_
    | refine CmpD.no (by decide) ?_
    | refine Chk.mk ⟨rfl, trivial⟩ ?_
    | refine Chk.mk ⟨rfl, rfl, trivial⟩ ?_
    | refine Chk.mk ⟨rfl, rfl, rfl, trivial⟩ ?_
    | refine Chk.mk ⟨rfl, rfl, rfl, rfl, trivial⟩ ?_
    | refine Chk.mk ⟨rfl, rfl, rfl, rfl, rfl, trivial⟩ ?_
    | refine Chk.mk ⟨rfl, rfl, rfl, rfl, rfl, rfl, trivial⟩ ?_)
  refine CmpD.split (fun c1 => ?_) (fun c1 => ?_)
  · replace c1 : j.synced < seq := c1
    rw [if_pos c1]
    exact Done.mk ⟨[jChunk bJ (j.at bD g) ++ chG], (Drop.pick [2, 3] _ rfl).trans (Drop.flat (by simp [St.at])), rfl, rfl, _, ⟨g, chG, rfl, hG⟩, rfl⟩
  replace c1 : ¬ j.synced < seq := c1
  rw [if_neg c1]
  obtain ⟨W, hW⟩ : ∃ W, W = relAll seq j.groups j.s j.t j.u j.h := ⟨_, rfl⟩
  rw [← hW]
  refine CodeF.loopD [0, 1] (fun vs J' S' => ∃ (gs : List (Int × Int)) (g' : Hd) (chG' : List Blk) (s t u h : Int), gs.length ≤ 1000000 ∧ (∀ x ∈ gs, In64 x.1 ∧ In64 x.2) ∧ W = relAll seq gs s t u h ∧ Ok s t u h ∧ OwnC chG' 2 g'.a g'.len g'.cap (gCells gs) ∧ J' = I ∧
      vs = [.pointer (some ⟨bn, 0, none⟩), .pointer (some ⟨bx, 0, none⟩)] ∧
      S' = [pBox bn (.int .i64 seq) 3, pBox bx (.pointer (some ⟨bJ, 0, none⟩)) 22, jChunk bJ ({ j with s := s, t := t, u := u, h := h, groups := gs }.at bD g'), chG'])
    (fun _ _ S' => match S' with | [_, _, [(_, .cells c _ _)], _] => (match c[15]? with | some (Value.slice _ l _) => l | _ => 0) | _ => 0) ?_ ?_
  · exact ⟨_, Drop.refl _, j.groups, g, chG, j.s, j.t, j.u, j.h, hj.few, hj.groups, hW, hj.ring, hG, rfl, rfl, rfl⟩
  rintro vs gE J' S' hJ' ⟨gs, ⟨ga, gl, gc⟩, chG', s, t, u, h, hfew, hin, hWi, hr, hG', rfl, rfl, rfl⟩
  dsimp only at hG'
  have hr2 := hr
  unfold Ok at hr2
  have hgl : gs.length = gl := by have := hG'.n; rw [gCells_length] at this; omega
  refine CodeF.sched [[], [0], [0, 1], [0, 1, 2], [0, 1, 2, 3], [0, 1, 2, 3, 4], [0, 1, 2, 3, 4, 5], [0, 1, 2, 3, 4, 5, 6], [0, 1, 2, 3, 4, 5, 6, 7], [0, 1, 2, 3, 4, 5, 6, 7, 8], [0, 1, 2, 3, 4, 5, 6, 7, 8, 9], [0, 1, 2, 3, 4, 5, 6, 7, 8, 9, 10], [0, 1, 2, 3, 4, 5, 6, 7, 8, 9, 10, 11], [0, 1, 2, 3, 4, 5, 6, 7, 8, 9, 10, 11, 12], [0, 1, 2, 3, 4, 5, 6], [0, 1, 2, 3, 4, 5, 6, 7, 8, 9, 10, 11, 12, 13, 14], [0, 1, 2, 3, 4, 5, 6, 7, 8, 9, 10, 11, 12, 13, 14, 15]] [0, 1, 2, 3, 4, 5, 6, 7, 8, 9, 10, 11, 12, 13, 14, 15, 16] (by kernel_rfl) ?_
  repeat (first
    | refine LoadD.own 0 rfl _ rfl rfl ?_
    | refine LoadD.own 1 rfl _ rfl rfl ?_
    | refine LoadD.own 2 rfl _ rfl rfl ?_
    | refine LoadD.own 3 rfl _ rfl rfl ?_
    | refine LoadP.at 0 rfl _ rfl rfl ?_
    | refine LoadP.at 1 rfl _ rfl rfl ?_
    | refine LoadP.at 2 rfl _ rfl rfl ?_
    | refine LoadP.at 3 rfl _ rfl rfl ?_
    | refine StoreD.st 0 rfl rfl rfl ?_
    | refine StoreD.st 1 rfl rfl rfl ?_
    | refine StoreD.st 2 rfl rfl rfl ?_
    | refine StoreD.st 3 rfl rfl rfl ?_
    | refine CmpD.yes rfl ?_
    | refine CmpD.yes (by decide) ?_
    | refine CmpD.no (by decide) ?_
    | refine Chk.mk ⟨rfl, trivial⟩ ?_
    | refine Chk.mk ⟨rfl, rfl, trivial⟩ ?_
    | refine Chk.mk ⟨rfl, rfl, rfl, trivial⟩ ?_
    | refine Chk.mk ⟨rfl, rfl, rfl, rfl, trivial⟩ ?_
    | refine Chk.mk ⟨rfl, rfl, rfl, rfl, rfl, trivial⟩ ?_
    | refine Chk.mk ⟨rfl, rfl, rfl, rfl, rfl, rfl, trivial⟩ ?_)
  match gs, hgl, hG', hWi, hin, hfew with
  | [], hgl, hG', hWi, _, _ =>
    obtain rfl : gl = 0 := by simpa using hgl.symm
    refine CmpD.no (by show ¬ (0 : Int) < ((0 : Nat) : Int); decide) ?_
    refine Done.mk ?_
    rw [hWi, relAll]
    exact ⟨[jChunk bJ ({ j with s := s, t := t, u := u, h := h, groups := [] }.at bD ⟨ga, 0, gc⟩) ++ chG'], (Drop.pick [2, 3] _ rfl).trans (Drop.flat (by simp [St.at])), rfl, rfl, _, ⟨⟨ga, 0, gc⟩, chG', rfl, hG'⟩, rfl⟩
  | (gq, gb) :: gs, hgl, hG', hWi, hin, hfew =>
    simp only [List.length_cons] at hgl hfew
    have hi := hin (gq, gb) (by simp)
    rcases hG'.at' with q0 | ⟨bG, pre, post, TG, rfl, rfl, hpost⟩
    · have := hG'.le; omega
    have ht : ((pre ++ gCells ((gq, gb) :: gs) ++ post).drop pre.length).take 1 = [.int .i64 gq] := by
      rw [List.append_assoc, List.drop_left]; simp [gCells]
    have ht2 : ((pre ++ gCells ((gq, gb) :: gs) ++ post).drop (pre.length + 1)).take 1 = [.int .i64 gb] := by
      rw [List.append_assoc, ← List.drop_drop, List.drop_left]; simp [gCells]
    refine CmpD.yes (by show (0 : Int) < (gl : Int); omega) ?_
    repeat (first
      | refine LoadD.own 0 rfl _ rfl rfl ?_
      | refine LoadD.own 1 rfl _ rfl rfl ?_
      | refine LoadD.own 2 rfl _ rfl rfl ?_
      | refine LoadP.at 0 rfl _ rfl rfl ?_
      | refine LoadP.at 1 rfl _ rfl rfl ?_
      | refine LoadP.at 2 rfl _ rfl rfl ?_
      | refine StoreD.st 0 rfl rfl rfl ?_
      | refine StoreD.st 1 rfl rfl rfl ?_
      | refine StoreD.st 2 rfl rfl rfl ?_
      | refine CmpD.yes rfl ?_
      | refine CmpD.yes (by decide) ?_
      | refine CmpD.no (by decide) ?_
      | refine Chk.mk ⟨rfl, trivial⟩ ?_
      | refine Chk.mk ⟨rfl, rfl, trivial⟩ ?_
      | refine Chk.mk ⟨rfl, rfl, rfl, trivial⟩ ?_
      | refine Chk.mk ⟨rfl, rfl, rfl, rfl, trivial⟩ ?_
      | refine Chk.mk ⟨rfl, rfl, rfl, rfl, rfl, trivial⟩ ?_
      | refine Chk.mk ⟨rfl, rfl, rfl, rfl, rfl, rfl, trivial⟩ ?_)
    refine Chk.mk (by show (0 : Int) ≤ 0 ∧ (0 : Int) < (gl : Int); omega) ?_
    refine LoadP.at 3 rfl [.int .i64 gq] ht rfl ?_
    repeat (first
      | refine LoadD.own 0 rfl _ rfl rfl ?_
      | refine LoadD.own 1 rfl _ rfl rfl ?_
      | refine LoadD.own 2 rfl _ rfl rfl ?_
      | refine LoadP.at 0 rfl _ rfl rfl ?_
      | refine LoadP.at 1 rfl _ rfl rfl ?_
      | refine LoadP.at 2 rfl _ rfl rfl ?_
      | refine StoreD.st 0 rfl rfl rfl ?_
      | refine StoreD.st 1 rfl rfl rfl ?_
      | refine StoreD.st 2 rfl rfl rfl ?_
      | refine CmpD.yes rfl ?_
      | refine CmpD.yes (by decide) ?_
      | refine CmpD.no (by decide) ?_
      | refine Chk.mk ⟨rfl, trivial⟩ ?_
      | refine Chk.mk ⟨rfl, rfl, trivial⟩ ?_
      | refine Chk.mk ⟨rfl, rfl, rfl, trivial⟩ ?_
      | refine Chk.mk ⟨rfl, rfl, rfl, rfl, trivial⟩ ?_
      | refine Chk.mk ⟨rfl, rfl, rfl, rfl, rfl, trivial⟩ ?_
      | refine Chk.mk ⟨rfl, rfl, rfl, rfl, rfl, rfl, trivial⟩ ?_)
    refine CmpD.split (fun c2 => ?_) (fun c2 => ?_)
    rotate_left
    · refine Done.mk ?_
      rw [hWi, relAll, if_neg (by exact c2)]
      exact ⟨[jChunk bJ ({ j with s := s, t := t, u := u, h := h, groups := (gq, gb) :: gs }.at bD ⟨_, gl, gc⟩) ++ _], (Drop.pick [2, 3] _ rfl).trans (Drop.flat (by simp [St.at])), rfl, rfl, _, ⟨⟨_, gl, gc⟩, _, rfl, hG'⟩, rfl⟩
    refine CodeF.sched [[], [], [1], [1, 2], [1, 2, 3], [], [5], [5, 6], [5, 6, 7], [5, 6, 7, 8], [5, 6, 7, 8, 9], [5, 6, 7, 8, 9, 10], [1, 2, 3, 4, 5, 6, 7, 8, 9, 10, 11], [1, 2, 3, 4, 5, 6, 7, 8, 9, 10, 11, 12], [1, 2, 3, 4, 5, 6, 7, 8, 9, 10, 11, 12], [0, 1, 2, 3, 4, 5, 6, 7, 8, 9, 10, 11, 12, 13, 14], [0, 1, 2, 3, 4, 5, 6, 7, 8, 9, 10, 11, 12, 13, 14, 15]] [0, 1, 2, 3, 4, 5, 6, 7, 8, 9, 10, 11, 12, 13, 14, 15, 16] (by kernel_rfl) ?_
    repeat (first
      | refine LoadD.own 0 rfl _ rfl rfl ?_
      | refine LoadD.own 1 rfl _ rfl rfl ?_
      | refine LoadD.own 2 rfl _ rfl rfl ?_
      | refine LoadP.at 0 rfl _ rfl rfl ?_
      | refine LoadP.at 1 rfl _ rfl rfl ?_
      | refine LoadP.at 2 rfl _ rfl rfl ?_
      | refine StoreD.st 0 rfl rfl rfl ?_
      | refine StoreD.st 1 rfl rfl rfl ?_
      | refine StoreD.st 2 rfl rfl rfl ?_
      | refine CmpD.yes rfl ?_
      | refine CmpD.yes (by decide) ?_
      | refine CmpD.no (by decide) ?_
      | refine Chk.mk ⟨rfl, trivial⟩ ?_
      | refine Chk.mk ⟨rfl, rfl, trivial⟩ ?_
      | refine Chk.mk ⟨rfl, rfl, rfl, trivial⟩ ?_
      | refine Chk.mk ⟨rfl, rfl, rfl, rfl, trivial⟩ ?_
      | refine Chk.mk ⟨rfl, rfl, rfl, rfl, rfl, trivial⟩ ?_
      | refine Chk.mk ⟨rfl, rfl, rfl, rfl, rfl, rfl, trivial⟩ ?_)
    refine Chk.mk (by show (0 : Int) ≤ 0 ∧ (0 : Int) < (gl : Int); omega) ?_
    refine LoadP.at 3 rfl [.int .i64 gb] ht2 rfl ?_
    refine Tri.free (ring_Drop s t u h gb J' (by unfold In64; omega) (by unfold In64; omega) (by unfold In64; omega) (by unfold In64; omega) hi.2) ?_
    rintro v J2 _ hJ2 ⟨⟨s', t', u', h', e', rfl, hd⟩, rfl⟩
    repeat (first
      | refine LoadD.own 0 rfl _ rfl rfl ?_
      | refine LoadD.own 1 rfl _ rfl rfl ?_
      | refine LoadD.own 2 rfl _ rfl rfl ?_
      | refine LoadP.at 0 rfl _ rfl rfl ?_
      | refine LoadP.at 1 rfl _ rfl rfl ?_
      | refine LoadP.at 2 rfl _ rfl rfl ?_
      | refine StoreD.st 0 rfl rfl rfl ?_
      | refine StoreD.st 1 rfl rfl rfl ?_
      | refine StoreD.st 2 rfl rfl rfl ?_
      | refine CmpD.yes rfl ?_
      | refine CmpD.yes (by decide) ?_
      | refine CmpD.no (by decide) ?_
      | refine Chk.mk ⟨rfl, trivial⟩ ?_
      | refine Chk.mk ⟨rfl, rfl, trivial⟩ ?_
      | refine Chk.mk ⟨rfl, rfl, rfl, trivial⟩ ?_
      | refine Chk.mk ⟨rfl, rfl, rfl, rfl, trivial⟩ ?_
      | refine Chk.mk ⟨rfl, rfl, rfl, rfl, rfl, trivial⟩ ?_
      | refine Chk.mk ⟨rfl, rfl, rfl, rfl, rfl, rfl, trivial⟩ ?_)
    refine Tri.frame1 2 rfl (jr_turned bJ ({ j with s := s, t := t, u := u, h := h, groups := (gq, gb) :: gs }.at bD ⟨some ⟨bG, pre.length, none⟩, gl, gc⟩) s' t' u' h' e' J') ?_
    rintro v J3 S' hJ3 ⟨rfl, rfl, rfl⟩
    refine ⟨_, rfl, ?_⟩
    rw [relAll, if_pos (by exact c2), hd] at hWi
    dsimp only at hWi
    refine CmpD.split (fun c3 => ?_) (fun c3 => ?_)
    rotate_left
    · repeat (first
        | refine LoadD.own 0 rfl _ rfl rfl ?_
        | refine LoadD.own 1 rfl _ rfl rfl ?_
        | refine LoadD.own 2 rfl _ rfl rfl ?_
        | refine LoadP.at 0 rfl _ rfl rfl ?_
        | refine LoadP.at 1 rfl _ rfl rfl ?_
        | refine LoadP.at 2 rfl _ rfl rfl ?_
        | refine StoreD.st 0 rfl rfl rfl ?_
        | refine StoreD.st 1 rfl rfl rfl ?_
        | refine StoreD.st 2 rfl rfl rfl ?_
        | refine CmpD.yes rfl ?_
        | refine CmpD.yes (by decide) ?_
        | refine CmpD.no (by decide) ?_
        | refine Chk.mk ⟨rfl, trivial⟩ ?_
        | refine Chk.mk ⟨rfl, rfl, trivial⟩ ?_
        | refine Chk.mk ⟨rfl, rfl, rfl, trivial⟩ ?_
        | refine Chk.mk ⟨rfl, rfl, rfl, rfl, trivial⟩ ?_
        | refine Chk.mk ⟨rfl, rfl, rfl, rfl, rfl, trivial⟩ ?_
        | refine Chk.mk ⟨rfl, rfl, rfl, rfl, rfl, rfl, trivial⟩ ?_)
      refine Done.mk ?_
      rw [hWi, if_neg c3, if_neg c3]
      exact ⟨[jChunk bJ ({ j with s := s, t := t, u := u, h := h, groups := (gq, gb) :: gs }.at bD ⟨_, gl, gc⟩) ++ _], (Drop.pick [2, 3] _ rfl).trans (Drop.flat (by simp [St.at])), rfl, rfl, _, ⟨⟨_, gl, gc⟩, _, rfl, hG'⟩, rfl⟩
    rw [if_pos c3] at hWi ⊢
    have hr3 := dropS_mid hr hd c3
    refine CodeF.sched [[], [], [1], [1, 2], [1, 2, 3], [1, 2, 3, 4], [0, 1, 2, 3, 4, 5], [0, 1, 2, 3, 4, 5, 6], [0, 1, 2, 3, 4, 5, 6, 7]] [0, 1, 2, 3, 4, 5, 6, 7, 8] (by kernel_rfl) ?_
    repeat (first
      | refine LoadD.own 0 rfl _ rfl rfl ?_
      | refine LoadD.own 1 rfl _ rfl rfl ?_
      | refine LoadD.own 2 rfl _ rfl rfl ?_
      | refine LoadP.at 0 rfl _ rfl rfl ?_
      | refine LoadP.at 1 rfl _ rfl rfl ?_
      | refine LoadP.at 2 rfl _ rfl rfl ?_
      | refine StoreD.st 0 rfl rfl rfl ?_
      | refine StoreD.st 1 rfl rfl rfl ?_
      | refine StoreD.st 2 rfl rfl rfl ?_
      | refine CmpD.yes rfl ?_
      | refine CmpD.yes (by decide) ?_
      | refine CmpD.no (by decide) ?_
      | refine Chk.mk ⟨rfl, trivial⟩ ?_
      | refine Chk.mk ⟨rfl, rfl, trivial⟩ ?_
      | refine Chk.mk ⟨rfl, rfl, rfl, trivial⟩ ?_
      | refine Chk.mk ⟨rfl, rfl, rfl, rfl, trivial⟩ ?_
      | refine Chk.mk ⟨rfl, rfl, rfl, rfl, rfl, trivial⟩ ?_
      | refine Chk.mk ⟨rfl, rfl, rfl, rfl, rfl, rfl, trivial⟩ ?_)
    refine sliceD tabOk rfl rfl rfl rfl 1 gl gc ⟨_, rfl⟩ rfl rfl (.inl rfl) ⟨by omega, hG'.le, Nat.le_refl _⟩ ?_
    have hp := hG'.part 1 gl (by omega) (Nat.le_refl _)
    have e2 : ((gCells ((gq, gb) :: gs)).drop (1 * 2)).take ((gl - 1) * 2) = gCells gs := by
      have e : gCells ((gq, gb) :: gs) = [.int .i64 gq, .int .i64 gb] ++ gCells gs := by simp [gCells]
      rw [e]
      show (gCells gs).take _ = _
      exact List.take_of_length_le (by rw [gCells_length]; omega)
    rw [e2] at hp
    repeat (first
      | refine LoadD.own 0 rfl _ rfl rfl ?_
      | refine LoadD.own 1 rfl _ rfl rfl ?_
      | refine LoadD.own 2 rfl _ rfl rfl ?_
      | refine LoadP.at 0 rfl _ rfl rfl ?_
      | refine LoadP.at 1 rfl _ rfl rfl ?_
      | refine LoadP.at 2 rfl _ rfl rfl ?_
      | refine StoreD.st 0 rfl rfl rfl ?_
      | refine StoreD.st 1 rfl rfl rfl ?_
      | refine StoreD.st 2 rfl rfl rfl ?_
      | refine CmpD.yes rfl ?_
      | refine CmpD.yes (by decide) ?_
      | refine CmpD.no (by decide) ?_
      | refine Chk.mk ⟨rfl, trivial⟩ ?_
      | refine Chk.mk ⟨rfl, rfl, trivial⟩ ?_
      | refine Chk.mk ⟨rfl, rfl, rfl, trivial⟩ ?_
      | refine Chk.mk ⟨rfl, rfl, rfl, rfl, trivial⟩ ?_
      | refine Chk.mk ⟨rfl, rfl, rfl, rfl, rfl, trivial⟩ ?_
      | refine Chk.mk ⟨rfl, rfl, rfl, rfl, rfl, rfl, trivial⟩ ?_)
    refine ⟨[pBox bn (.int .i64 seq) 3, pBox bx (.pointer (some ⟨bJ, 0, none⟩)) 22, jChunk bJ ({ j with s := s', t := t', u := u', h := h', groups := gs }.at bD ⟨slAddr (some ⟨bG, pre.length, none⟩) 1 gc 2, gl - 1, gc - 1⟩), [(bG, row (pre ++ gCells ((gq, gb) :: gs) ++ post) TG)]], Drop.refl _, ⟨gs, ⟨_, _, _⟩, _, s', t', u', h', by omega, fun x hx => hin x (by simp [hx]), hWi, hr3, hp, rfl, rfl, rfl⟩, ?_⟩
    show gl - 1 < gl
    omega
theorem jk_Release {bJ bD : Nat} {j : JSt} {ch : List Blk} (hJ0 : Jk bJ bD j ch) (hj : j.Wf) (seq : Int) (I : Imm) :
    Tri Try.prog 19 #[.pointer (some ⟨bJ, 0, none⟩), .int .i64 seq] I [ch] fun v J S' =>
      I = J ∧ v = .int .i64 (j.release seq).2 ∧ ∃ chJ, Jk bJ bD (j.release seq).1 chJ ∧ S' = [chJ] := by
  obtain ⟨g, chG, rfl, hG⟩ := hJ0
  have hm := fun bn bx => jr_may2 bJ (j.at bD g) 85 bn bx I [pBox bn (.int .i64 seq) 3, pBox bx (.pointer (some ⟨bJ, 0, none⟩)) 22, jChunk bJ (j.at bD g), chG] 2 rfl (fun hb => jk_Release1 bn bx bJ bD seq j hj hb g chG hG I)
  refine Tri.lay (S2 := [jChunk bJ (j.at bD g), chG]) (by simp) ?_
  refine Tri.drop ?_ (fun _ _ _ _ h => h)
  refine Tri.of (args := [.pointer (some ⟨bJ, 0, none⟩), .int .i64 seq]) tabOk Try.func19 rfl (by kernel_rfl) (by kernel_rfl) ?_
  conv => whnf
  intro bx
  conv => whnf
  intro bn
  repeat (first
    | refine LoadD.own 0 rfl _ rfl rfl ?_
    | refine LoadD.own 1 rfl _ rfl rfl ?_
    | refine LoadD.own 2 rfl _ rfl rfl ?_
    | refine LoadD.own 3 rfl _ rfl rfl ?_
    | refine LoadP.at 0 rfl _ rfl rfl ?_
    | refine LoadP.at 1 rfl _ rfl rfl ?_
    | refine LoadP.at 2 rfl _ rfl rfl ?_
    | refine LoadP.at 3 rfl _ rfl rfl ?_
    | refine StoreD.st 0 rfl rfl rfl ?_
    | refine StoreD.st 1 rfl rfl rfl ?_
    | refine StoreD.st 2 rfl rfl rfl ?_
    | refine StoreD.st 3 rfl rfl rfl ?_
    | refine CmpD.yes rfl ?_
    | refine CmpD.yes (by decide) ?_
    | refine CmpD.no (by decide) ?_
    | refine Chk.mk ⟨rfl, trivial⟩ ?_
    | refine Chk.mk ⟨rfl, rfl, trivial⟩ ?_
    | refine Chk.mk ⟨rfl, rfl, rfl, trivial⟩ ?_
    | refine Chk.mk ⟨rfl, rfl, rfl, rfl, trivial⟩ ?_
    | refine Chk.mk ⟨rfl, rfl, rfl, rfl, rfl, trivial⟩ ?_
    | refine Chk.mk ⟨rfl, rfl, rfl, rfl, rfl, rfl, trivial⟩ ?_)
  refine Tri.frameX (hm bn bx) [3, 2, 0, 1] rfl rfl ?_
  rintro v J A' hJ (⟨hb, rfl, rfl, rfl⟩ | ⟨hb, rfl, rfl, chJ, h1, rfl⟩)
  · unfold JSt.release
    rw [if_pos hb]
    exact Done.mk ⟨[jChunk bJ (j.at bD g) ++ chG], (Drop.pick [6, 7] _ rfl).trans (Drop.flat (by simp [St.at])), rfl, rfl, _, ⟨g, chG, rfl, hG⟩, rfl⟩
  · exact Done.mk ⟨[chJ], (Drop.pick [4] _ rfl).trans (Drop.flat (by simp [St.at])), rfl, rfl, _, h1, rfl⟩
def firstOf (n : Int) : List (Int × Int) → Int
  | [] => n
  | g :: _ => g.1
theorem jk_Tail {bJ bD : Nat} {j : JSt} {ch : List Blk} (hJ0 : Jk bJ bD j ch) (I : Imm) :
    Tri Try.prog 15 #[.pointer (some ⟨bJ, 0, none⟩)] I [ch] fun v J S' => v = .tuple #[.int .i64 j.t, .int .i64 (firstOf j.next j.groups)] ∧ I = J ∧ S' = [ch] := by
  obtain ⟨g, chG, rfl, hG⟩ := hJ0
  refine Tri.abs (S2 := [jChunk bJ (j.at bD g), chG]) (by simp) (jr_Tail bJ (j.at bD g) chG j.groups hG I) ?_
  rintro v J S' hJ ⟨rfl, rfl, rfl⟩
  refine ⟨[jChunk bJ (j.at bD g) ++ chG], Drop.flat (by simp), ?_, rfl, rfl⟩
  obtain ⟨lay, s, t, u, h, ep, nx, sy, gs, br⟩ := j
  cases gs <;> rfl
theorem jk_Groups {bJ bD : Nat} {j : JSt} {ch : List Blk} (hJ0 : Jk bJ bD j ch) (hj : j.Wf) (I : Imm) :
    Tri Try.prog 22 #[.pointer (some ⟨bJ, 0, none⟩)] I [ch] fun v J S' => ∃ a cap chQ, v = .slice a j.groups.length cap ∧ OwnC chQ 1 a j.groups.length cap (ints (j.groups.map Prod.fst)) ∧ I = J ∧ S' = [ch, chQ] := by
  obtain ⟨g, chG, rfl, hG⟩ := hJ0
  have hgl : j.groups.length = g.len := by have := hG.n; rw [gCells_length] at this; omega
  refine Tri.abs (S2 := [jChunk bJ (j.at bD g), chG]) (by simp) (jr_Groups bJ (j.at bD g) chG j.groups (by show g.len ≤ _; have := hj.few; omega) hG I) ?_
  rintro v J S' hJ ⟨a, cap, chQ, rfl, h1, rfl, rfl⟩
  rw [hgl]
  exact ⟨[jChunk bJ (j.at bD g) ++ chG, chQ], Drop.flat (by simp), a, cap, chQ, rfl, h1, rfl, rfl⟩
end Go.Proofs.Ytbpdbgcndfcilaa
namespace Go.Proofs.Ytbpdbgcndfcilaa
open Go.RowKit Go.Sl
set_option maxRecDepth 20000

def openJ (n : Nat) (epoch seq tail : Int) : JSt := ⟨layOf n, layL n, tail, 0, 0, epoch, seq, seq - 1, [], false⟩
def OpenOk (n : Nat) (x : Lay) (epoch seq tail : Int) : Prop := x = layOf n ∧ 1 ≤ epoch ∧ epoch ≤ 8388608 ∧ 1 ≤ seq ∧ seq ≤ 549755813888 ∧ 0 ≤ tail ∧ tail < layL n
theorem jk_Open {I : Imm} {bD : Nat} {st : DSt} {ch : List Blk} (h : Dk I bD st ch) (n : Nat) (hn : st.now.length = n) (hn2 : 64 ≤ n) (x : Lay) (epoch seq tail : Int) (hseq : In64 seq) :
    Tri Try.prog 30 #[.pointer (some ⟨bD, 0, none⟩), x.v, .int .i64 epoch, .int .i64 seq, .int .i64 tail] I [ch] fun v J S' =>
      (¬ OpenOk n x epoch seq tail ∧ v = .tuple #[.pointer none, .int .i64 2] ∧ I = J ∧ S' = [ch]) ∨
      (OpenOk n x epoch seq tail ∧ I = J ∧ ∃ bJ chJ, v = .tuple #[.pointer (some ⟨bJ, 0, none⟩), .int .i64 0] ∧ Jk bJ bD (openJ n epoch seq tail) chJ ∧ S' = [ch, chJ]) := by
  obtain ⟨hw, d, chS, chN, chW, bS, bN, bW, rfl, hD, q1, q2, q3, q4, q5, q6, q7⟩ := h
  have hl := hD.hN.len1
  have hl' : st.now.length = d.now.len := by rw [← q2]; simpa using hl
  have hr := hw.range
  refine Tri.abs (S2 := [dChunk bD d, chS ++ (chN ++ chW)]) (by simp) (Tri.frameX (jr_Open bD d n (by omega) (by omega) x epoch seq tail hseq I) [0] rfl rfl (K := fun v J S' => (¬ OpenOk n x epoch seq tail ∧ v = .tuple #[.pointer none, .int .i64 2] ∧ I = J ∧ Drop S' [dChunk bD d ++ (chS ++ (chN ++ chW))]) ∨
      (OpenOk n x epoch seq tail ∧ I = J ∧ ∃ bJ chJ, v = .tuple #[.pointer (some ⟨bJ, 0, none⟩), .int .i64 0] ∧ Jk bJ bD (openJ n epoch seq tail) chJ ∧ Drop S' [dChunk bD d ++ (chS ++ (chN ++ chW)), chJ])) ?_) ?_
  · rintro v J S' hJ (⟨c, rfl, rfl, rfl⟩ | ⟨c1, c2, c3, c4, c5, c6, c7, rfl, bJ, rfl, rfl⟩)
    · exact .inl ⟨c, rfl, rfl, (Drop.pick [2, 1] _ rfl).trans (Drop.flat (by simp [St.at]))⟩
    · refine .inr ⟨⟨c1, c2, c3, c4, c5, c6, c7⟩, rfl, bJ, _, rfl, ⟨⟨none, 0, 0⟩, [], ?_, OwnC.nil _ _⟩, (Drop.pick [2, 1, 3] _ rfl).trans (Drop.flat (by simp [St.at]; rfl))⟩
      rw [List.append_nil, c1]; rfl
  · rintro v J S' hJ (⟨c, rfl, rfl, hd⟩ | ⟨c, rfl, bJ, chJ, rfl, hj, hd⟩)
    · exact ⟨_, hd, .inl ⟨c, rfl, rfl, rfl⟩⟩
    · exact ⟨_, hd, .inr ⟨c, rfl, bJ, chJ, rfl, hj, rfl⟩⟩
theorem layL_64' : layL ((64 : Nat) : Int) = 16 := by decide
theorem openJ_wf (n : Nat) (hn : 64 ≤ n ∧ n ≤ 512) {epoch seq tail : Int} (h : OpenOk n (layOf n) epoch seq tail) : (openJ n epoch seq tail).Wf := by
  obtain ⟨_, h1, h2, h3, h4, h5, h6⟩ := h
  have := layL_range (n := (n : Int)) (by omega)
  refine ⟨rfl, ?_, ?_, ?_, ?_, by simp [openJ], by simp [openJ]⟩
  · unfold Ok; show 1 ≤ layL n ∧ layL n ≤ 512 ∧ 0 ≤ tail ∧ tail < layL n ∧ (0 : Int) ≤ 0 ∧ (0 : Int) ≤ 0 ∧ (0 : Int) + 0 ≤ layL n; omega
  · show In64 epoch; unfold In64; omega
  · show 1 ≤ seq ∧ seq ≤ 549755813889; omega
  · show 0 ≤ seq - 1 ∧ seq - 1 < seq; omega
theorem law_open (tail : Int) (ht : 0 ≤ tail ∧ tail < 16) (I : Imm) :
    Tri Try.prog 26 #[.int .i64 tail] I [] fun v J S' => ∃ bD bJ chD chJ, v = .tuple #[.pointer (some ⟨bD, 0, none⟩), .pointer (some ⟨bJ, 0, none⟩), .bool true] ∧ Dk J bD (DSt.of (List.replicate 64 noughts)) chD ∧ Jk bJ bD (openJ 64 1 1 tail) chJ ∧ S' = [chD, chJ] := by
  refine Tri.drop ?_ (fun _ _ _ _ h => h)
  refine Tri.of (args := [.int .i64 tail]) tabOk Try.func26 rfl (by kernel_rfl) (by kernel_rfl) ?_
  refine Tri.frameX (dk_New I 64 (by omega)) [] rfl rfl ?_
  rintro v J A' hJ ⟨bD, chD, rfl, hD, rfl⟩
  refine Tri.free (ref_Of ((64 : Nat) : Int) J) ?_
  rintro v J2 _ hJ2 ⟨rfl, rfl⟩
  rw [layA, if_neg (by omega)]
  conv => whnf
  intro b7
  repeat (first
    | refine LoadD.own 0 rfl _ rfl rfl ?_
    | refine LoadD.own 1 rfl _ rfl rfl ?_
    | refine LoadD.own 2 rfl _ rfl rfl ?_
    | refine LoadP.at 0 rfl _ rfl rfl ?_
    | refine LoadP.at 1 rfl _ rfl rfl ?_
    | refine LoadP.at 2 rfl _ rfl rfl ?_
    | refine StoreD.st 0 rfl rfl rfl ?_
    | refine StoreD.st 1 rfl rfl rfl ?_
    | refine StoreD.st 2 rfl rfl rfl ?_
    | refine CmpD.yes rfl ?_
    | refine CmpD.yes (by decide) ?_
    | refine CmpD.no (by decide) ?_
    | refine Chk.mk ⟨rfl, trivial⟩ ?_
    | refine Chk.mk ⟨rfl, rfl, trivial⟩ ?_
    | refine Chk.mk ⟨rfl, rfl, rfl, trivial⟩ ?_
    | refine Chk.mk ⟨rfl, rfl, rfl, rfl, trivial⟩ ?_
    | refine Chk.mk ⟨rfl, rfl, rfl, rfl, rfl, trivial⟩ ?_
    | refine Chk.mk ⟨rfl, rfl, rfl, rfl, rfl, rfl, trivial⟩ ?_)
  refine Tri.frameX (jk_Open hD 64 (List.length_replicate ..) (by omega) (layOf ((64 : Nat) : Int)) 1 1 tail (by unfold In64; omega)) [0] rfl rfl ?_
  rintro v J3 A' hJ3 (⟨h, _⟩ | ⟨_, rfl, bJ, chJ, rfl, hj, rfl⟩)
  · exact absurd ⟨rfl, by omega, by omega, by omega, by omega, by omega, by rw [layL_64']; omega⟩ h
  repeat (first
    | refine LoadD.own 0 rfl _ rfl rfl ?_
    | refine LoadD.own 1 rfl _ rfl rfl ?_
    | refine LoadD.own 2 rfl _ rfl rfl ?_
    | refine LoadP.at 0 rfl _ rfl rfl ?_
    | refine LoadP.at 1 rfl _ rfl rfl ?_
    | refine LoadP.at 2 rfl _ rfl rfl ?_
    | refine StoreD.st 0 rfl rfl rfl ?_
    | refine StoreD.st 1 rfl rfl rfl ?_
    | refine StoreD.st 2 rfl rfl rfl ?_
    | refine CmpD.yes rfl ?_
    | refine CmpD.yes (by decide) ?_
    | refine CmpD.no (by decide) ?_
    | refine Chk.mk ⟨rfl, trivial⟩ ?_
    | refine Chk.mk ⟨rfl, rfl, trivial⟩ ?_
    | refine Chk.mk ⟨rfl, rfl, rfl, trivial⟩ ?_
    | refine Chk.mk ⟨rfl, rfl, rfl, rfl, trivial⟩ ?_
    | refine Chk.mk ⟨rfl, rfl, rfl, rfl, rfl, trivial⟩ ?_
    | refine Chk.mk ⟨rfl, rfl, rfl, rfl, rfl, rfl, trivial⟩ ?_)
  exact Done.mk ⟨[chD, chJ], Drop.pick [2, 3] _ rfl, bD, bJ, chD, chJ, rfl, hD, hj, rfl⟩

/-! ### where nothing fails -/
def DSt.Calm (d : DSt) : Prop := d.down = false ∧ d.arm.on = false ∧ d.fault.on = false
theorem DSt.stop_calm {d : DSt} (h : d.Calm) : d.stop = (d, 0) := by
  obtain ⟨safe, now, ws, c, dn, ⟨a1, a2⟩, ⟨f1, f2⟩⟩ := d
  obtain ⟨h1, h2, h3⟩ := h
  simp only at h1 h2 h3
  subst h1 h2 h3
  rfl
def DSt.put (d : DSt) (n : Int) (b : Dat) : DSt := { d with now := d.now.set n.toNat b, writes := d.writes ++ [(n, b)], count := d.count + 1 }
theorem DSt.write_calm {d : DSt} (h : d.Calm) {n : Int} {b : Dat} (hn : 0 ≤ n ∧ n < d.now.length) (hb : b.length = 4096) : d.write n b = (d.put n b, 0) := by
  unfold DSt.write
  have hw : wrongE d.now.length n = 0 := (wrongE_dec _ (by omega) n).2 hn
  rw [if_neg (by omega), if_neg (by omega), DSt.stop_calm h, if_neg (by simp)]
  rfl
theorem DSt.Calm.put {d : DSt} (h : d.Calm) (n : Int) (b : Dat) : (d.put n b).Calm := h
theorem DSt.put_len (d : DSt) (n : Int) (b : Dat) : (d.put n b).now.length = d.now.length := by simp [DSt.put]
def wrD (f : Nat → Int) : List Dat → Nat → DSt → DSt
  | [], _, d => d
  | b :: bs, i, d => wrD f bs (i + 1) (d.put (f i) b)
theorem wrAll_calm (f : Nat → Int) : ∀ (bs : List Dat) (i : Nat) (d : DSt), d.Calm → (∀ b ∈ bs, b.length = 4096) → (∀ k, 0 ≤ f k ∧ f k < d.now.length) → wrAll f bs i d = (wrD f bs i d, 0)
  | [], _, _, _, _, _ => rfl
  | b :: bs, i, d, hc, hb, hf => by
    rw [wrAll, DSt.write_calm hc (hf i) (hb b (by simp)), if_neg (by simp), wrD]
    exact wrAll_calm f bs (i + 1) _ (hc.put _ _) (fun x hx => hb x (by simp [hx])) (by rw [DSt.put_len]; exact hf)
theorem wrD_calm (f : Nat → Int) : ∀ (bs : List Dat) (i : Nat) (d : DSt), d.Calm → (wrD f bs i d).Calm
  | [], _, _, h => h
  | _ :: bs, i, _, h => wrD_calm f bs (i + 1) _ (h.put _ _)
theorem wrD_len (f : Nat → Int) : ∀ (bs : List Dat) (i : Nat) (d : DSt), (wrD f bs i d).now.length = d.now.length
  | [], _, _ => rfl
  | b :: bs, i, d => by rw [wrD, wrD_len f bs, DSt.put_len]
theorem wrD_writes (f : Nat → Int) : ∀ (bs : List Dat) (i : Nat) (d : DSt), (wrD f bs i d).writes.map Prod.fst = d.writes.map Prod.fst ++ (List.range bs.length).map fun k => f (i + k)
  | [], _, _ => by simp [wrD]
  | b :: bs, i, d => by
    rw [wrD, wrD_writes f bs]
    simp only [DSt.put, List.map_append, List.map_cons, List.map_nil, List.append_assoc, List.length_cons, List.range_succ_eq_map, List.map_map, List.singleton_append, Nat.add_zero]
    congr 2
    apply List.map_congr_left
    intro k _
    show f (i + 1 + k) = f (i + (k + 1))
    congr 1; omega
theorem wrD_few (f : Nat → Int) : ∀ (bs : List Dat) (i : Nat) (d : DSt) (k : Nat), d.Few k → (wrD f bs i d).Few (k + bs.length)
  | [], _, _, _, h => h
  | b :: bs, i, d, k, h => by
    have : (d.put (f i) b).Few (k + 1) := by
      obtain ⟨h1, h2, h3⟩ := h
      exact ⟨by show (d.writes ++ [_]).length ≤ _; simp; omega, by show 0 ≤ d.count + 1; omega, by show d.count + 1 ≤ _; omega⟩
    have := wrD_few f bs (i + 1) _ _ this
    rw [wrD, List.length_cons]
    exact this.mono (by omega)
theorem sprK_length {m l : List UInt8} (hm : m.length = 8) : ∀ k, k * 504 ≤ l.length → (sprK m l k).length = 512 * k
  | 0, _ => by rw [sprK_zero]; rfl
  | k + 1, h => by
    rw [sprK_succ, List.length_append, List.length_append, sprK_length hm k (by omega), List.length_take, List.length_drop, hm]
    omega
theorem hidP_length : ∀ (l : List PImg), (∀ g ∈ l, g.2.length = 4096) → (hidP l).length = 66 * l.length
  | [], _ => rfl
  | g :: l, h => by
    have e : hidP (g :: l) = be g.1.toNat 2 ++ hidK g.2 8 ++ hidP l := by simp [hidP]
    have := h g (by simp)
    rw [e, List.length_append, List.length_append, be_length, hidK_length _ _ (by omega) (by omega), hidP_length l (fun x hx => h x (by simp [hx])), List.length_cons]
    omega
theorem putP_len {e s : Nat} {l : List PImg} (hl : l.length ≤ 32) (h : ∀ g ∈ l, g.2.length = 4096) : ∀ b ∈ putP e s l, b.length = 4096 := by
  have hlist : (listP l).length = 4026 := by
    rw [listP, List.length_append, hidP_length l h, List.length_replicate]; omega
  have hhead : (headP l).length = 4032 := by rw [headP, List.length_append, List.length_append, be_length, be_length, hlist]
  intro b hb
  rcases List.mem_cons.1 hb with rfl | hb
  · rw [sprK_length (stampB_length _ _) 8 (by omega)]
  · obtain ⟨g, hg, rfl⟩ := List.mem_map.1 hb
    have := h g hg
    rw [markK_length (stampB_length _ _) 8 (by omega) (by omega)]; exact this
/-- a group that fits is appended -/
theorem JSt.append_calm {j : JSt} {d : DSt} {l : List PImg} {held : Bool} (hb : j.broken = false) (hR : RightP j.epoch j.next l) (hs : (l.length : Int) + 1 ≤ j.s) (hlog : j.lay.l = 2) (hd : d.Calm) (hlen : j.s + 2 ≤ d.now.length)
    {t u h at_ : Int} (hp : putS j.s j.t j.u j.h (l.length + 1) (if held then l.length + 1 else 0) = ((j.s, t, u, h, 0), at_)) :
    j.appendB d l held = ({ j with t := t, u := u, h := h, groups := j.groups ++ [(j.next, (l.length + 1 : Int))], next := j.next + 1 }, wrD (fun i => 2 + (at_ + i) % j.s) (putP j.epoch.toNat j.next.toNat l) 0 d, j.next, 0) := by
  unfold JSt.appendB JSt.append
  rw [if_neg (by simp [hb]), if_neg (by simpa using hR), if_neg (by omega), hp]
  dsimp only
  rw [if_neg (by simp), hlog, wrAll_calm _ _ _ _ hd (putP_len hR.2.2.2.2.2.1 fun g hg => (hR.2.2.2.2.2.2.1 g hg).2.2)]
  · dsimp only
    rw [if_neg (by simp)]
  · intro k
    have := Int.emod_nonneg (at_ + k) (b := j.s) (by omega)
    have := Int.emod_lt_of_pos (at_ + k) (b := j.s) (by omega)
    omega
theorem right_row {e s : Int} (h1 : 1 ≤ e ∧ e ≤ 8388608) (h2 : 1 ≤ s ∧ s ≤ 549755813888) (k : Nat) (hk : 1 ≤ k ∧ k ≤ 32) (n : Int) : RightP e s (imgsP (rowL k) n 0) := by
  have hl : (rowL k).length = k := by simp [rowL]
  refine ⟨h1.1, h1.2, h2.1, h2.2, by rw [imgsP_length, hl]; omega, by rw [imgsP_length, hl]; omega, ?_, ?_⟩
  · intro g hg
    have h3 := imgsP_snd _ _ _ g hg
    have h4 : g.1 ∈ rowL k := by rw [← imgsP_fst (rowL k) n 0]; exact List.mem_map_of_mem hg
    unfold rowL at h4
    obtain ⟨i, hi, he⟩ := List.mem_map.1 h4
    have := List.mem_range.1 hi
    exact ⟨by omega, by omega, h3⟩
  · rw [imgsP_fst]
    unfold rowL
    rw [List.nodup_iff_pairwise_ne, List.pairwise_map]
    refine List.Pairwise.imp ?_ List.nodup_range
    intro a b hab he
    exact hab (by omega)
/-! ### images, fixed -/
theorem Rds.of_ownS {ch : List Blk} {a : Option Addr} {len cap size : Nat} {vs : List Value} (h : OwnC ch size a len cap vs) {J : Imm} (hJ : ∀ x ∈ ch, J x.1 = some x.2) : Rds J a (len * size) vs := by
  refine ⟨h.n, ?_⟩
  rcases h.at' with h0 | ⟨b, pre, post, T, ha, hc, hp⟩
  · left; have := h.le; rw [show len = 0 by omega]; simp
  · right
    refine ⟨b, _, _, T, (0, 0), ha, hJ (b, _) (by rw [hc]; exact List.mem_singleton.2 rfl), ?_⟩
    have := own_take pre vs post
    rw [h.n] at this
    exact this
theorem images_fix (aL : Option Addr) (capL : Nat) (z : List Int) (hz : z.length ≤ 40) (hz2 : ∀ x ∈ z, In64 x) (k : Int) (hk : In64 k) (I : Imm) (hL : Rds I aL z.length (ints z)) :
    Tri Try.prog 27 #[.slice aL z.length capL, .int .i64 k] I [] fun v J _ => ∃ a cap gs, v = .slice a gs.length cap ∧ ImgsOk J a gs ∧ gs.map Img.pr = imgsP z k 0 := by
  refine Tri.fixed (images_of aL capL z hz hz2 k hk I hL) ?_
  rintro v J S' hJ ⟨a, cap, ch, gs, rfl, hown, hgs, hok, rfl⟩
  have hl : gs.length = z.length := by have := congrArg List.length hgs; rw [List.length_map, imgsP_length] at this; exact this
  refine ⟨0, ch, rfl, fun J' hJ' hm => ⟨a, cap, gs, by rw [hl], ⟨?_, fun g hg => (hok g hg).1.mono hJ'⟩, hgs⟩⟩
  rw [hl]
  exact Rds.of_ownS hown hm
theorem rowL_in (n : Nat) (hn : n ≤ 1000) : ∀ x ∈ rowL n, In64 x := by
  intro x hx
  unfold rowL at hx
  obtain ⟨i, hi, rfl⟩ := List.mem_map.1 hx
  have := List.mem_range.1 hi
  unfold In64; omega
theorem rowL_length (n : Nat) : (rowL n).length = n := by simp [rowL]
end Go.Proofs.Ytbpdbgcndfcilaa
namespace Go.Proofs.Ytbpdbgcndfcilaa
open Go.RowKit Go.Sl
set_option maxRecDepth 20000

theorem snoc_ind {α : Type} {p : List α → Prop} (h0 : p []) (h1 : ∀ l a, p l → p (l ++ [a])) (l : List α) : p l := by
  have : ∀ n (l : List α), l.length = n → p l := by
    intro n
    induction n with
    | zero => intro l hl; rw [List.length_eq_zero_iff.1 hl]; exact h0
    | succ n ih =>
      intro l hl
      have hne : l ≠ [] := by rintro rfl; simp at hl
      rw [← List.dropLast_concat_getLast hne]
      exact h1 _ _ (ih _ (by rw [List.length_dropLast]; omega))
  exact this _ l rfl
/-- bytes as a number, the greatest first -/
def nb (l : List UInt8) : Nat := l.foldl (fun v b => v * 256 ||| b.toNat) 0
theorem nb_snoc (l : List UInt8) (b : UInt8) : nb (l ++ [b]) = nb l * 256 ||| b.toNat := by simp [nb]
theorem nb_lt (l : List UInt8) : nb l < 2 ^ (8 * l.length) := by
  refine snoc_ind (p := fun l => nb l < 2 ^ (8 * l.length)) (by simp [nb]) ?_ l
  · intro l b ih
    rw [nb_snoc, List.length_append, List.length_singleton]
    have hb : b.toNat < 2 ^ (8 * (l.length + 1)) := Nat.lt_of_lt_of_le b.toNat_lt (Nat.pow_le_pow_right (by omega) (by omega))
    refine Nat.or_lt_two_pow ?_ hb
    rw [show 8 * (l.length + 1) = 8 * l.length + 8 by omega, Nat.pow_add]
    omega
def numV (l : List UInt8) (at_ : Int) (n : Nat) : Nat × Bool := if at_ < 0 ∨ (l.length : Int) - n < at_ then (0, false) else (nb ((l.drop at_.toNat).take n), true)
theorem octets_number {I : Imm} {S : St} {a : Option Addr} {len cap : Nat} {l : List UInt8} (h : SlC I S a len (bts l)) (hlen : len ≤ 1000000000) (at_ : Int) (hat : In64 at_) (n : Nat) (hn : n ≤ 8) :
    Tri Try.prog 164 #[.slice a len cap, .int .i64 at_, .int .i64 n] I S fun v J S' => v = .tuple #[.int .u64 (numV l at_ n).1, .bool (numV l at_ n).2] ∧ I = J ∧ S' = S := by
  have hl : l.length = len := by rw [← bts_length, h.len]
  unfold In64 at hat
  unfold numV
  refine Tri.of (args := [.slice a len cap, .int .i64 at_, .int .i64 n]) tabOk Try.func164 rfl (by kernel_rfl) (by kernel_rfl) ?_
  refine CmpD.split (fun c1 => ?_) (fun c1 => ?_)
  · rw [if_pos (.inl c1)]; exact Done.mk ⟨rfl, rfl, rfl⟩
  refine ToD.i64 (by omega) (by omega) ?_
  refine CmpD.split (fun c2 => ?_) (fun c2 => ?_)
  · rw [if_pos (.inr (by rw [hl]; exact c2))]; exact Done.mk ⟨rfl, rfl, rfl⟩
  rw [if_neg (by rw [hl]; omega)]
  obtain ⟨k, rfl⟩ : ∃ k : Nat, at_ = k := ⟨at_.toNat, by omega⟩
  rw [show ((k : Int)).toNat = k from rfl]
  refine CodeF.loopD [0, 1, 8, 20, 21] (fun vs J' S' => ∃ (i : Nat), i ≤ n ∧ vs = [.slice a len cap, .int .i64 k, .int .u64 (nb ((l.drop k).take i) : Nat), .int .i64 n, .int .i64 i] ∧ I = J' ∧ S' = S)
    (fun vs _ _ => match vs with | [_, _, _, _, .int _ i] => ((n : Int) - i).toNat | _ => 0) ?_ ?_
  · exact ⟨_, Drop.refl _, 0, by omega, rfl, rfl, rfl⟩
  rintro vs g J' S' hJ' ⟨i, hi, rfl, rfl, rfl⟩
  refine CmpD.split (fun c3 => ?_) (fun c3 => ?_)
  · have hin : k + i < l.length := by omega
    rcases h.mem with h0 | ⟨b, off, rfl, hc⟩
    · omega
    have hv := nb_lt ((l.drop k).take i)
    have hvl : ((l.drop k).take i).length ≤ 7 := by rw [List.length_take]; omega
    have hv2 : nb ((l.drop k).take i) < 2 ^ 56 := Nat.lt_of_lt_of_le hv (Nat.pow_le_pow_right (by omega) (by omega))
    have htk : (l.drop k).take (i + 1) = (l.drop k).take i ++ [l[k + i]] := by
      rw [List.take_add_one, List.getElem?_drop, List.getElem?_eq_getElem hin]; rfl
    refine Chk.mk (by omega) ?_
    refine ToD.to ((nb ((l.drop k).take i) * 256 : Nat) : Int) ?_ ?_
    · rw [wrap_u rfl (by show 0 ≤ (nb ((l.drop k).take i) : Int) * 2 ^ 8; omega) (by show (nb ((l.drop k).take i) : Int) * 2 ^ 8 < 2 ^ 64; omega)]
      show (nb ((l.drop k).take i) : Int) * 2 ^ 8 = _; omega
    refine ToD.i64 (by omega) (by omega) ?_
    refine Chk.mk (by omega) ?_
    refine LoadD.mk [byte l[k + i]] (hc.at (i := k + i) (bts_get (List.getElem?_eq_getElem hin))) ?_
    have hb := l[k + i].toNat_lt
    refine ToD.to ((l[k + i].toNat : Nat) : Int) (wrap_u rfl (by omega) (by show (l[k + i].toNat : Int) < 2 ^ 64; omega)) ?_
    refine ToD.to ((nb ((l.drop k).take i) * 256 ||| l[k + i].toNat : Nat) : Int) (u64_or_nat _ _ (by omega) (by omega)) ?_
    refine ToD.i64 (by omega) (by omega) ?_
    refine ⟨_, Drop.refl _, ⟨i + 1, by omega, by rw [htk, nb_snoc]; rfl, rfl, rfl⟩, ?_⟩
    show ((n : Int) - ((i : Int) + 1)).toNat < ((n : Int) - (i : Int)).toNat
    omega
  · obtain rfl : i = n := by omega
    exact Done.mk ⟨rfl, rfl, rfl⟩
theorem octets_U64 {I : Imm} {S : St} {a : Option Addr} {len cap : Nat} {l : List UInt8} (h : SlC I S a len (bts l)) (hlen : len ≤ 1000000000) (at_ : Int) (hat : In64 at_) :
    Tri Try.prog 141 #[.slice a len cap, .int .i64 at_] I S fun v J S' => v = .tuple #[.int .u64 (numV l at_ 8).1, .bool (numV l at_ 8).2] ∧ I = J ∧ S' = S := by
  refine Tri.of (args := [.slice a len cap, .int .i64 at_]) tabOk Try.func141 rfl (by kernel_rfl) (by kernel_rfl) ?_
  refine Tri.mono (octets_number h hlen at_ hat 8 (by omega)) ?_
  rintro v J S' hJ ⟨rfl, rfl, rfl⟩
  exact Done.mk ⟨rfl, rfl, rfl⟩
end Go.Proofs.Ytbpdbgcndfcilaa
namespace Go.Proofs.Ytbpdbgcndfcilaa
open Go.RowKit Go.Sl
set_option maxRecDepth 20000

structure Sup where
  blocks : Int
  epoch : Int
  seq : Int
  tail : Int
@[reducible] def Sup.v (s : Sup) : Value := .agg #[.int .i64 s.blocks, .int .i64 s.epoch, .int .i64 s.seq, .int .i64 s.tail]
def RightS (s : Sup) : Prop := 64 ≤ s.blocks ∧ s.blocks ≤ 512 ∧ 1 ≤ s.epoch ∧ s.epoch ≤ 8388608 ∧ 1 ≤ s.seq ∧ s.seq ≤ 549755813888 ∧ 0 ≤ s.tail ∧ s.tail ≤ 511
instance (s : Sup) : Decidable (RightS s) := by unfold RightS; infer_instance
end Go.Proofs.Ytbpdbgcndfcilaa
namespace Go.Proofs.Ytbpdbgcndfcilaa
open Go.RowKit Go.Sl
set_option maxRecDepth 20000

theorem be_snoc (v n : Nat) : be v (n + 1) = be (v / 256) n ++ [UInt8.ofNat v] := by
  unfold be
  rw [List.range_succ, List.map_append, List.map_singleton]
  congr 1
  · apply List.map_congr_left
    intro i hi
    have := List.mem_range.1 hi
    congr 1
    rw [show 8 * (n + 1 - 1 - i) = 8 + 8 * (n - 1 - i) by omega, Nat.pow_add, Nat.div_div_eq_div_mul]
  · congr 2
    rw [show 8 * (n + 1 - 1 - n) = 0 by omega]; simp
theorem or_low (a b : Nat) (h : b < 256) : a * 256 ||| b = a * 256 + b := by
  have := Nat.shiftLeft_add_eq_or_of_lt (i := 8) (b := b) (by omega) a
  rw [Nat.shiftLeft_eq] at this
  exact this.symm
theorem nb_be : ∀ (n v : Nat), v < 256 ^ n → nb (be v n) = v
  | 0, v, h => by simp [be, nb] at *; omega
  | n + 1, v, h => by
    rw [be_snoc, nb_snoc, nb_be n (v / 256) (by rw [Nat.pow_succ] at h; omega)]
    have e : (UInt8.ofNat v).toNat = v % 256 := by simp [UInt8.toNat_ofNat']
    rw [e, or_low _ _ (by omega)]; omega
@[reducible] def getV (r : Option Sup) : Value := match r with
  | some s => .tuple #[s.v, .int .i64 0]
  | none => .tuple #[Sup.v ⟨0, 0, 0, 0⟩, .int .i64 30]
end Go.Proofs.Ytbpdbgcndfcilaa
namespace Go.Proofs.Ytbpdbgcndfcilaa
open Go.RowKit Go.Sl
set_option maxRecDepth 20000

theorem put8_at {l m : Dat} {k j : Nat} (hm : m.length = 8) (hl : l.length = 4096) (hk : k < 8) :
    (put8 l m k)[j]? = if j / 512 = k ∧ j % 512 < 8 then m[j % 512]? else l[j]? := by
  unfold put8
  have h1 : (l.take (k * 512)).length = k * 512 := by rw [List.length_take]; omega
  rw [List.append_assoc]
  rcases Nat.lt_or_ge j (k * 512) with g | g
  · rw [List.getElem?_append_left (by omega), List.getElem?_take, if_pos g, if_neg (by omega)]
  rw [List.getElem?_append_right (by omega), h1]
  rcases Nat.lt_or_ge (j - k * 512) 8 with g2 | g2
  · rw [List.getElem?_append_left (by omega), if_pos (by omega)]
    congr 1; omega
  · rw [List.getElem?_append_right (by omega), hm, List.getElem?_drop]
    have e : k * 512 + 8 + (j - k * 512 - 8) = j := by omega
    rw [e, if_neg (by omega)]
theorem markK_at {m l : Dat} (hm : m.length = 8) (hl : l.length = 4096) : ∀ (n : Nat), n ≤ 8 → ∀ j, j < 4096 → (markK m l n)[j]? = if j / 512 < n ∧ j % 512 < 8 then m[j % 512]? else l[j]?
  | 0, _, j, _ => by rw [markK_zero, if_neg (by omega)]
  | n + 1, hn, j, hj => by
    rw [markK_succ, put8_at hm (by rw [markK_length hm n (by omega) (by omega)]; exact hl) (by omega), markK_at hm hl n (by omega) j hj]
    by_cases h1 : j / 512 = n ∧ j % 512 < 8
    · rw [if_pos h1, if_pos (by omega)]
    · rw [if_neg h1]
      by_cases h2 : j / 512 < n ∧ j % 512 < 8
      · rw [if_pos h2, if_pos (by omega)]
      · rw [if_neg h2, if_neg (by omega)]
theorem shoK_at {b hid : Dat} (hb : b.length = 4096) (hh : hid.length = 64) : ∀ (n : Nat), n ≤ 8 → ∀ j, j < 4096 → (shoK b hid n)[j]? = if j / 512 < n ∧ j % 512 < 8 then hid[8 * (j / 512) + j % 512]? else b[j]?
  | 0, _, j, _ => by rw [shoK_zero, if_neg (by omega)]
  | n + 1, hn, j, hj => by
    rw [shoK_succ, put8_at (hid_part hh (by omega)) (shoK_length hb hh n (by omega)) (by omega), shoK_at hb hh n (by omega) j hj]
    by_cases h1 : j / 512 = n ∧ j % 512 < 8
    · rw [if_pos h1, if_pos (by omega), List.getElem?_take, if_pos h1.2, List.getElem?_drop, h1.1]
    · rw [if_neg h1]
      by_cases h2 : j / 512 < n ∧ j % 512 < 8
      · rw [if_pos h2, if_pos (by omega)]
      · rw [if_neg h2, if_neg (by omega)]
theorem hidK_at {l : Dat} (hl : l.length = 4096) : ∀ (n : Nat), n ≤ 8 → ∀ i, i < 8 * n → (hidK l n)[i]? = l[i / 8 * 512 + i % 8]?
  | 0, _, i, hi => by omega
  | n + 1, hn, i, hi => by
    have hk := hidK_length l n (by omega) (by omega)
    rw [hidK_succ]
    rcases Nat.lt_or_ge i (8 * n) with g | g
    · rw [List.getElem?_append_left (by omega), hidK_at hl n (by omega) i g]
    · rw [List.getElem?_append_right (by omega), hk, List.getElem?_take, if_pos (by omega), List.getElem?_drop]
      congr 1; omega
theorem gatK_at {b : Dat} (hb : b.length = 4096) : ∀ (n : Nat), n ≤ 8 → ∀ i, i < 504 * n → (gatK b n)[i]? = b[i / 504 * 512 + 8 + i % 504]?
  | 0, _, i, hi => by omega
  | n + 1, hn, i, hi => by
    have hk := gatK_length hb n (by omega)
    rw [gatK_succ]
    rcases Nat.lt_or_ge i (504 * n) with g | g
    · rw [List.getElem?_append_left (by omega), gatK_at hb n (by omega) i g]
    · rw [List.getElem?_append_right (by omega), hk, List.getElem?_take, if_pos (by omega), List.getElem?_drop]
      congr 1; omega
theorem sprK_at {m l : Dat} (hm : m.length = 8) (hl : l.length = 4032) : ∀ (n : Nat), n ≤ 8 → ∀ j, j < 512 * n → (sprK m l n)[j]? = if j % 512 < 8 then m[j % 512]? else l[j / 512 * 504 + (j % 512 - 8)]?
  | 0, _, j, hj => by omega
  | n + 1, hn, j, hj => by
    have hk := sprK_length (l := l) hm n (by omega)
    rw [sprK_succ, List.append_assoc]
    rcases Nat.lt_or_ge j (512 * n) with g | g
    · rw [List.getElem?_append_left (by omega), sprK_at hm hl n (by omega) j g]
    · rw [List.getElem?_append_right (by omega), hk]
      have e1 : j % 512 = j - 512 * n := by omega
      have e2 : j / 512 = n := by omega
      rw [e1, e2]
      rcases Nat.lt_or_ge (j - 512 * n) 8 with g2 | g2
      · rw [List.getElem?_append_left (by omega), if_pos g2]
      · rw [List.getElem?_append_right (by omega), hm, List.getElem?_take, if_pos (by omega), List.getElem?_drop, if_neg (by omega)]
theorem ext4096 {x y : Dat} (hx : x.length = 4096) (hy : y.length = 4096) (h : ∀ j, j < 4096 → x[j]? = y[j]?) : x = y := by
  apply List.ext_getElem?
  intro i
  rcases Nat.lt_or_ge i 4096 with g | g
  · exact h i g
  · rw [List.getElem?_eq_none (by omega), List.getElem?_eq_none (by omega)]
theorem extN {x y : Dat} (n : Nat) (hx : x.length = n) (hy : y.length = n) (h : ∀ j, j < n → x[j]? = y[j]?) : x = y := by
  apply List.ext_getElem?
  intro i
  rcases Nat.lt_or_ge i n with g | g
  · exact h i g
  · rw [List.getElem?_eq_none (by omega), List.getElem?_eq_none (by omega)]
/-- what is hidden is shown again -/
theorem sho_mark {m l : Dat} (hm : m.length = 8) (hl : l.length = 4096) : shoK (markK m l 8) (hidK l 8) 8 = l := by
  have hh := hidK_length l 8 (by omega) (by omega)
  have hk := markK_length (l := l) hm 8 (by omega) (by omega)
  refine ext4096 (shoK_length (by omega) (by omega) 8 (by omega)) hl fun j hj => ?_
  rw [shoK_at (by omega) (by omega) 8 (by omega) j hj]
  by_cases h : j / 512 < 8 ∧ j % 512 < 8
  · rw [if_pos h, hidK_at hl 8 (by omega) _ (by omega)]
    congr 1; omega
  · rw [if_neg h, markK_at hm hl 8 (by omega) j hj, if_neg h]
theorem hid_sho {b hid : Dat} (hb : b.length = 4096) (hh : hid.length = 64) : hidK (shoK b hid 8) 8 = hid := by
  have hs := shoK_length hb hh 8 (by omega)
  have hl := hidK_length (shoK b hid 8) 8 (by omega) (by omega)
  refine extN 64 (by omega) hh fun i hi => ?_
  rw [hidK_at hs 8 (by omega) i (by omega), shoK_at hb hh 8 (by omega) _ (by omega), if_pos (by omega)]
  congr 1; omega
theorem gat_spr {m l : Dat} (hm : m.length = 8) (hl : l.length = 4032) : gatK (sprK m l 8) 8 = l := by
  have hs : (sprK m l 8).length = 4096 := by rw [sprK_length hm 8 (by omega)]
  have hg := gatK_length hs 8 (by omega)
  refine extN 4032 (by omega) hl fun i hi => ?_
  rw [gatK_at hs 8 (by omega) i (by omega), sprK_at hm hl 8 (by omega) _ (by omega), if_neg (by omega)]
  congr 1; omega
/-- a block bears a stamp -/
def Bears (m b : Dat) : Prop := ∀ k, k < 8 → (b.drop (k * 512)).take 8 = m
theorem bears_at {m b : Dat} (hm : m.length = 8) (hb : b.length = 4096) : Bears m b ↔ ∀ j, j < 4096 → j % 512 < 8 → b[j]? = m[j % 512]? := by
  constructor
  · intro h j hj hj8
    have := congrArg (·[j % 512]?) (h (j / 512) (by omega))
    simp only [List.getElem?_take, if_pos hj8, List.getElem?_drop] at this
    rw [← this]
    congr 1; omega
  · intro h k hk
    refine extN 8 (by rw [List.length_take, List.length_drop]; omega) hm fun i hi => ?_
    rw [List.getElem?_take, if_pos hi, List.getElem?_drop, h _ (by omega) (by omega)]
    congr 1; omega
theorem mark_bears {m l : Dat} (hm : m.length = 8) (hl : l.length = 4096) : Bears m (markK m l 8) := by
  refine (bears_at hm (by rw [markK_length hm 8 (by omega) (by omega)]; exact hl)).2 fun j hj h8 => ?_
  rw [markK_at hm hl 8 (by omega) j hj, if_pos (by omega)]
theorem spr_bears {m l : Dat} (hm : m.length = 8) (hl : l.length = 4032) : Bears m (sprK m l 8) := by
  refine (bears_at hm (by rw [sprK_length hm 8 (by omega)])).2 fun j hj h8 => ?_
  rw [sprK_at hm hl 8 (by omega) j (by omega), if_pos h8]
end Go.Proofs.Ytbpdbgcndfcilaa
namespace Go.Proofs.Ytbpdbgcndfcilaa
open Go.RowKit Go.Sl
set_option maxRecDepth 20000

def hbE (b : Dat) : Nat := (numV b 0 8).1 / 1099511627776
def hbS (b : Dat) : Nat := (numV b 0 8).1 % 1099511627776
def cntB (b : Dat) : Nat := (numV (gatK b 8) 0 2).1
def blkB (b : Dat) (i : Nat) : Int := ((numV (gatK b 8) (6 + 66 * i : Nat) 2).1 : Nat)
def hidB (b : Dat) (i : Nat) : Dat := ((gatK b 8).drop (8 + 66 * i)).take 64
def imsB (b : Dat) : List PImg := (List.range (cntB b)).map fun i => (blkB b i, shoK noughts (hidB b i) 8)
def hblk (e s : Nat) (l : List PImg) : Dat := sprK (stampB e s) (headP l) 8
def hdP (b : Dat) : Option (Nat × Nat × List PImg) := if RightP (hbE b) (hbS b) (imsB b) ∧ hblk (hbE b) (hbS b) (imsB b) = b then some (hbE b, hbS b, imsB b) else none
theorem noughts_length : noughts.length = 4096 := List.length_replicate
theorem headP_length {l : List PImg} (hl : l.length ≤ 32) (h : ∀ g ∈ l, g.2.length = 4096) : (headP l).length = 4032 := by
  have hlist : (listP l).length = 4026 := by
    rw [listP, List.length_append, hidP_length l h, List.length_replicate]; omega
  rw [headP, List.length_append, List.length_append, be_length, be_length, hlist]
theorem RightP.lens {e s : Int} {l : List PImg} (h : RightP e s l) : ∀ g ∈ l, g.2.length = 4096 := fun g hg => (h.2.2.2.2.2.2.1 g hg).2.2
theorem hblk_length {e s : Nat} {l : List PImg} (hl : l.length ≤ 32) (h : ∀ g ∈ l, g.2.length = 4096) : (hblk e s l).length = 4096 := by
  unfold hblk
  rw [sprK_length (stampB_length _ _) 8 (by rw [headP_length hl h]; omega)]
theorem hblk_bears {e s : Nat} {l : List PImg} (hl : l.length ≤ 32) (h : ∀ g ∈ l, g.2.length = 4096) : Bears (stampB e s) (hblk e s l) := spr_bears (stampB_length _ _) (headP_length hl h)
theorem hdP_some {b : Dat} {e s : Nat} {l : List PImg} (h : hdP b = some (e, s, l)) : e = hbE b ∧ s = hbS b ∧ l = imsB b ∧ RightP e s l ∧ hblk e s l = b ∧ b.length = 4096 ∧ Bears (stampB e s) b := by
  unfold hdP at h
  split at h
  · rename_i hc
    cases h
    obtain ⟨h1, h2⟩ := hc
    refine ⟨rfl, rfl, rfl, h1, h2, ?_, ?_⟩
    · have := hblk_length (e := hbE b) (s := hbS b) h1.2.2.2.2.2.1 h1.lens
      rwa [h2] at this
    · have := hblk_bears (e := hbE b) (s := hbS b) h1.2.2.2.2.2.1 h1.lens
      rwa [h2] at this
  · cases h
theorem imsB_length (b : Dat) : (imsB b).length = cntB b := by simp [imsB]
theorem gat_hblk {e s : Nat} {l : List PImg} (hl : l.length ≤ 32) (h : ∀ g ∈ l, g.2.length = 4096) : gatK (hblk e s l) 8 = headP l := gat_spr (stampB_length _ _) (headP_length hl h)
/-- a block that bears no stamp of its own numbers is no head -/
theorem hdP_stmp {b : Dat} (h : ¬ Stmp b (hbE b) (hbS b)) : hdP b = none := by
  cases hd : hdP b with
  | none => rfl
  | some x =>
    obtain ⟨e, s, l⟩ := x
    obtain ⟨rfl, rfl, _, hR, _, hb, hst⟩ := hdP_some hd
    exact absurd ⟨hb, hR.1, hR.2.1, hR.2.2.1, hR.2.2.2.1, by rw [Int.toNat_natCast, Int.toNat_natCast]; exact hst⟩ h
theorem hdP_cnt {b : Dat} (h : ¬ (1 ≤ cntB b ∧ cntB b ≤ 32)) : hdP b = none := by
  cases hd : hdP b with
  | none => rfl
  | some x =>
    obtain ⟨e, s, l⟩ := x
    obtain ⟨_, _, rfl, hR, _⟩ := hdP_some hd
    have h1 := hR.2.2.2.2.1
    have h2 := hR.2.2.2.2.2.1
    rw [imsB_length] at h1 h2
    exact absurd ⟨h1, h2⟩ h
/-! ### a group read back -/
def getL (b : Dat) (rest : List Dat) : List PImg := (List.range rest.length).map fun i => (blkB b i, shoK (rest.getD i []) (hidB b i) 8)
def RestOk (e s : Nat) (rest : List Dat) : Prop := ∀ r ∈ rest, r.length = 4096 ∧ Bears (stampB e s) r
open Classical in
noncomputable def getP (bs : List Dat) : Option (Nat × Nat × List PImg) := match bs with
  | [] => none
  | b :: rest => match hdP b with
    | none => none
    | some (e, s, l) => if rest.length = l.length ∧ RestOk e s rest then some (e, s, getL b rest) else none
theorem getP_none {b : Dat} {rest : List Dat} (h : hdP b = none) : getP (b :: rest) = none := by unfold getP; dsimp only; rw [h]
theorem getP_bad {b : Dat} {rest : List Dat} {e s : Nat} {l : List PImg} (h : hdP b = some (e, s, l)) (hr : ¬ (rest.length = l.length ∧ RestOk e s rest)) : getP (b :: rest) = none := by
  unfold getP; dsimp only; rw [h]; dsimp only; rw [if_neg hr]
theorem getP_good {b : Dat} {rest : List Dat} {e s : Nat} {l : List PImg} (h : hdP b = some (e, s, l)) (hr : rest.length = l.length ∧ RestOk e s rest) : getP (b :: rest) = some (e, s, getL b rest) := by
  unfold getP; dsimp only; rw [h]; dsimp only; rw [if_pos hr]
/-- the list part of a head, image by image -/
theorem hidP_cons (g : PImg) (l : List PImg) : hidP (g :: l) = be g.1.toNat 2 ++ hidK g.2 8 ++ hidP l := by simp [hidP]
theorem hidP_drop : ∀ (l : List PImg), (∀ g ∈ l, g.2.length = 4096) → ∀ (i : Nat) (h : i < l.length), (hidP l).drop (66 * i) = be l[i].1.toNat 2 ++ hidK l[i].2 8 ++ hidP (l.drop (i + 1))
  | [], _, i, h => by simp at h
  | g :: l, hl, 0, _ => by simp [hidP_cons]
  | g :: l, hl, i + 1, h => by
    have hg := hl g (by simp)
    have h66 : (be g.1.toNat 2 ++ hidK g.2 8).length = 66 := by rw [List.length_append, be_length, hidK_length _ _ (by omega) (by omega)]
    rw [hidP_cons, show 66 * (i + 1) = (be g.1.toNat 2 ++ hidK g.2 8).length + 66 * i by rw [h66]; omega, ← List.drop_drop, List.drop_left]
    simpa using hidP_drop l (fun x hx => hl x (by simp [hx])) i (by simpa using h)
theorem headP_drop {l : List PImg} (h : ∀ g ∈ l, g.2.length = 4096) (i : Nat) (hi : i < l.length) : ∃ T, (headP l).drop (6 + 66 * i) = be l[i].1.toNat 2 ++ (hidK l[i].2 8 ++ T) := by
  refine ⟨hidP (l.drop (i + 1)) ++ List.replicate (4026 - 66 * l.length) 0, ?_⟩
  have h6 : (be l.length 2 ++ be (crcMore 0 (listP l)) 4).length = 6 := by rw [List.length_append, be_length, be_length]
  have hp := hidP_length l h
  rw [headP, show 6 + 66 * i = (be l.length 2 ++ be (crcMore 0 (listP l)) 4).length + 66 * i by rw [h6], ← List.drop_drop, List.drop_left, listP]
  rw [List.drop_append_of_le_length (by omega), hidP_drop l h i hi]
  simp
theorem numV_at {l : Dat} {k n : Nat} {x : Dat} {T : Dat} (h : l.drop k = x ++ T) (hx : x.length = n) (hn : 0 < n) : numV l (k : Nat) n = (nb x, true) := by
  have hl := congrArg List.length h
  rw [List.length_drop, List.length_append, hx] at hl
  unfold numV
  rw [if_neg (by omega), Int.toNat_natCast, h, ← hx, List.take_left]
theorem blk_small {e s : Int} {l : List PImg} (h : RightP e s l) {g : PImg} (hg : g ∈ l) : ∃ n : Nat, g.1 = n ∧ n < 512 := by
  have := h.2.2.2.2.2.2.1 g hg
  exact ⟨g.1.toNat, by omega, by omega⟩
theorem stamp_num {e s : Nat} (he : e ≤ 8388608) (hs : s ≤ 549755813888) : nb (stampB e s) = e * 1099511627776 + s := by
  unfold stampB
  have h1 : e * 2 ^ 40 % 2 ^ 64 = e * 2 ^ 40 := Nat.mod_eq_of_lt (by omega)
  rw [h1]
  have h2 : e * 2 ^ 40 ||| s = e * 2 ^ 40 + s := by
    rw [Nat.mul_comm, ← Nat.two_pow_add_eq_or_of_lt (by omega)]
  rw [h2, nb_be _ _ (by show _ < 256 ^ 8; omega)]
theorem hblk_front {e s : Nat} {l : List PImg} (hl : l.length ≤ 32) (h : ∀ g ∈ l, g.2.length = 4096) : ∃ T, hblk e s l = stampB e s ++ T := by
  have hb := hblk_bears (e := e) (s := s) hl h 0 (by omega)
  refine ⟨(hblk e s l).drop 8, ?_⟩
  rw [Nat.zero_mul, List.drop_zero] at hb
  rw [← hb, List.take_append_drop]
theorem hb_of {e s : Nat} {l : List PImg} (h : RightP e s l) : hbE (hblk e s l) = e ∧ hbS (hblk e s l) = s ∧ cntB (hblk e s l) = l.length ∧ ∀ (i : Nat) (hi : i < l.length), blkB (hblk e s l) i = l[i].1 ∧ hidB (hblk e s l) i = hidK l[i].2 8 := by
  have h32 := h.2.2.2.2.2.1
  have hl := h.lens
  obtain ⟨T, hT⟩ := hblk_front (e := e) (s := s) h32 hl
  have hn : numV (hblk e s l) 0 8 = (nb (stampB e s), true) := numV_at (k := 0) (by rw [List.drop_zero]; exact hT) (stampB_length _ _) (by omega)
  have h1 := h.2.1
  have h2 := h.2.2.2.1
  have hst := stamp_num (e := e) (s := s) (by omega) (by omega)
  have hg := gat_hblk (e := e) (s := s) h32 hl
  refine ⟨?_, ?_, ?_, ?_⟩
  · unfold hbE; rw [hn, hst]; dsimp only; omega
  · unfold hbS; rw [hn, hst]; dsimp only; omega
  · unfold cntB
    rw [hg]
    have : numV (headP l) 0 2 = (nb (be l.length 2), true) := numV_at (k := 0) (T := be (crcMore 0 (listP l)) 4 ++ listP l) (by rw [List.drop_zero, headP, List.append_assoc]) (be_length _ _) (by omega)
    rw [this, nb_be _ _ (by show _ < 256 ^ 2; omega)]
  · intro i hi
    obtain ⟨T2, hT2⟩ := headP_drop hl i hi
    obtain ⟨n, hn1, hn2⟩ := blk_small h (List.getElem_mem hi)
    unfold blkB hidB
    rw [hg]
    constructor
    · rw [numV_at hT2 (be_length _ _) (by omega)]
      dsimp only
      rw [nb_be _ _ (by rw [hn1, Int.toNat_natCast]; show _ < 256 ^ 2; omega), hn1, Int.toNat_natCast]
    · have hk : (hidK l[i].2 8).length = 64 := hidK_length l[i].2 8 (by rw [hl _ (List.getElem_mem hi)]; omega) (by rw [hl _ (List.getElem_mem hi)])
      rw [show 8 + 66 * i = (6 + 66 * i) + (be l[i].1.toNat 2).length by rw [be_length]; omega, ← List.drop_drop, hT2, List.drop_left]
      exact List.take_left' hk
theorem getElem_eq_of {α : Type} {l m : List α} (h : l.length = m.length) (k : ∀ (i : Nat) (h1 : i < l.length) (h2 : i < m.length), l[i] = m[i]) : l = m := List.ext_getElem h fun i h1 h2 => k i h1 h2
/-- a head read back: the images' data but for what is hidden -/
theorem hdP_put {e s : Nat} {l : List PImg} (h : RightP e s l) : hdP (hblk e s l) = some (e, s, l.map fun g => (g.1, shoK noughts (hidK g.2 8) 8)) := by
  obtain ⟨h1, h2, h3, h4⟩ := hb_of h
  have hl := h.lens
  have hims : imsB (hblk e s l) = l.map fun g => (g.1, shoK noughts (hidK g.2 8) 8) := by
    refine getElem_eq_of (by rw [imsB_length, h3, List.length_map]) fun i i1 i2 => ?_
    rw [List.length_map] at i2
    simp only [imsB, List.getElem_map, List.getElem_range]
    rw [(h4 i i2).1, (h4 i i2).2]
  have hh : ∀ g ∈ l, (hidK g.2 8).length = 64 := fun g hg => hidK_length _ _ (by rw [hl g hg]; omega) (by rw [hl g hg])
  have hhid : hidP (l.map fun g => ((g.1, shoK noughts (hidK g.2 8) 8) : PImg)) = hidP l := by
    unfold hidP
    rw [List.flatMap_map]
    have : ∀ (m : List PImg), (∀ g ∈ m, g ∈ l) → (m.flatMap fun g => be g.1.toNat 2 ++ hidK (shoK noughts (hidK g.2 8) 8) 8) = m.flatMap fun g => be g.1.toNat 2 ++ hidK g.2 8 := by
      intro m
      induction m with
      | nil => intro _; rfl
      | cons g m ih =>
        intro hm
        rw [List.flatMap_cons, List.flatMap_cons, ih fun x hx => hm x (by simp [hx]), hid_sho noughts_length (hh g (hm g (by simp)))]
    exact this l fun g hg => hg
  have hR : RightP e s (l.map fun g => ((g.1, shoK noughts (hidK g.2 8) 8) : PImg)) := by
    obtain ⟨r1, r2, r3, r4, r5, r6, r7, r8⟩ := h
    refine ⟨r1, r2, r3, r4, by rw [List.length_map]; exact r5, by rw [List.length_map]; exact r6, ?_, ?_⟩
    · intro g hg
      obtain ⟨x, hx, rfl⟩ := List.mem_map.1 hg
      exact ⟨(r7 x hx).1, (r7 x hx).2.1, shoK_length noughts_length (hh x hx) 8 (by omega)⟩
    · rw [List.map_map]
      exact r8
  have hblk' : hblk e s (l.map fun g => ((g.1, shoK noughts (hidK g.2 8) 8) : PImg)) = hblk e s l := by
    unfold hblk headP listP
    rw [hhid, List.length_map]
  unfold hdP
  rw [h1, h2, hims, if_pos ⟨hR, hblk'⟩]
theorem putP_eq (e s : Nat) (l : List PImg) : putP e s l = hblk e s l :: l.map fun g => markK (stampB e s) g.2 8 := rfl
/-- a group read back -/
theorem getP_put {e s : Nat} {l : List PImg} (h : RightP e s l) : getP (putP e s l) = some (e, s, l) := by
  have hl := h.lens
  obtain ⟨h1, h2, h3, h4⟩ := hb_of h
  rw [putP_eq, getP_good (hdP_put h) ⟨by simp, ?_⟩]
  · congr 2
    refine congrArg _ (getElem_eq_of (by simp [getL]) fun i i1 i2 => ?_)
    have hi := List.getElem_mem i2
    simp only [getL, List.length_map, List.getElem_map, List.getElem_range]
    rw [(h4 i i2).1, (h4 i i2).2, List.getD_eq_getElem?_getD, List.getElem?_map, List.getElem?_eq_getElem i2]
    simp only [Option.map_some, Option.getD_some]
    rw [sho_mark (stampB_length _ _) (hl _ hi)]
  · intro r hr
    obtain ⟨g, hg, rfl⟩ := List.mem_map.1 hr
    exact ⟨by rw [markK_length (stampB_length _ _) 8 (by rw [hl g hg]; omega) (by rw [hl g hg])]; exact hl g hg, mark_bears (stampB_length _ _) (hl g hg)⟩
end Go.Proofs.Ytbpdbgcndfcilaa
namespace Go.Proofs.Ytbpdbgcndfcilaa
open Go.RowKit Go.Sl
set_option maxRecDepth 20000

theorem nb_lt2 (l : Dat) (at_ : Int) : (numV l at_ 2).1 < 65536 := by
  unfold numV
  split
  · show (0 : Nat) < 65536; omega
  · have := nb_lt ((l.drop at_.toNat).take 2)
    have h2 : ((l.drop at_.toNat).take 2).length ≤ 2 := by rw [List.length_take]; omega
    exact Nat.lt_of_lt_of_le this (Nat.pow_le_pow_right (by omega) (by omega : 8 * _ ≤ 16))
theorem nb_lt8 (l : Dat) (at_ : Int) : (numV l at_ 8).1 < 18446744073709551616 := by
  unfold numV
  split
  · show (0 : Nat) < 18446744073709551616; omega
  · have := nb_lt ((l.drop at_.toNat).take 8)
    have h2 : ((l.drop at_.toNat).take 8).length ≤ 8 := by rw [List.length_take]; omega
    exact Nat.lt_of_lt_of_le this (Nat.pow_le_pow_right (by omega) (by omega : 8 * _ ≤ 64))
theorem octets_U16 {I : Imm} {S : St} {a : Option Addr} {len cap : Nat} {l : List UInt8} (h : SlC I S a len (bts l)) (hlen : len ≤ 1000000000) (at_ : Int) (hat : In64 at_) :
    Tri Try.prog 143 #[.slice a len cap, .int .i64 at_] I S fun v J S' => v = .tuple #[.int .u16 (numV l at_ 2).1, .bool (numV l at_ 2).2] ∧ I = J ∧ S' = S := by
  refine Tri.of (args := [.slice a len cap, .int .i64 at_]) tabOk Try.func143 rfl (by kernel_rfl) (by kernel_rfl) ?_
  refine Tri.mono (octets_number h hlen at_ hat 2 (by omega)) ?_
  rintro v J S' hJ ⟨rfl, rfl, rfl⟩
  have := nb_lt2 l at_
  refine ToD.to ((numV l at_ 2).1 : Int) (wrap_u rfl (by omega) (by show ((numV l at_ 2).1 : Int) < 2 ^ 16; omega)) ?_
  exact Done.mk ⟨rfl, rfl, rfl⟩
theorem gathered_fix (I : Imm) (b off cap : Nat) (l : List UInt8) (h : Rds I (some ⟨b, off, none⟩) 4096 (bts l)) (hcap : 4096 ≤ cap) :
    Tri Try.prog 142 #[.slice (some ⟨b, off, none⟩) 4096 cap] I [] fun v J _ => ∃ b' off' cap', v = .slice (some ⟨b', off', none⟩) 4032 cap' ∧ 4032 ≤ cap' ∧ Rds J (some ⟨b', off', none⟩) 4032 (bts (gatK l 8)) := by
  refine Tri.fixed (gathered_own I b off cap l h hcap) ?_
  rintro v J S' hJ ⟨a', cap', ch, rfl, hown, rfl, rfl⟩
  refine ⟨0, ch, rfl, fun J' hJ' hm => ?_⟩
  rcases hown.at' with q0 | ⟨bI, pre, post, TI, rfl, _, _⟩
  · have := hown.le; omega
  · exact ⟨_, _, _, rfl, hown.le, Rds.of_own hown hm⟩
theorem shown_fix (I : Imm) (a : Option Addr) (cap : Nat) (l : List UInt8) (h : Rds I a 4096 (bts l)) (bH offH capH : Nat) (hid : List UInt8) (hH : Rds I (some ⟨bH, offH, none⟩) 64 (bts hid)) (hcapH : 64 ≤ capH) :
    Tri Try.prog 109 #[.slice a 4096 cap, .slice (some ⟨bH, offH, none⟩) 64 capH] I [] fun v J _ => ∃ a' cap', v = .slice a' 4096 cap' ∧ Rds J a' 4096 (bts (shoK l hid 8)) := by
  refine Tri.fixed (shown_own I a cap l h bH offH capH hid hH hcapH) ?_
  rintro v J S' hJ ⟨a', cap', ch, rfl, hown, rfl, rfl⟩
  exact ⟨0, ch, rfl, fun J' hJ' hm => ⟨a', cap', rfl, Rds.of_own hown hm⟩⟩
/-- what hides, as it lies -/
structure Hs where
  b : Nat
  off : Nat
  cap : Nat
@[reducible] def Hs.cell (h : Hs) : Value := .slice (some ⟨h.b, h.off, none⟩) 64 h.cap
def HsOk (J : Imm) (h : Hs) (d : Dat) : Prop := 64 ≤ h.cap ∧ Rds J (some ⟨h.b, h.off, none⟩) 64 (bts d)
theorem HsOk.mono {I J : Imm} {h : Hs} {d : Dat} (k : HsOk I h d) (hJ : I.le J) : HsOk J h d := ⟨k.1, k.2.mono hJ⟩
end Go.Proofs.Ytbpdbgcndfcilaa
namespace Go.Proofs.Ytbpdbgcndfcilaa
open Go.RowKit Go.Sl
set_option maxRecDepth 20000

def blocksN (n : Int) : Int := if n < 1 ∨ 32 < n then 0 else n + 1
theorem record_Blocks (n : Int) (I : Imm) (S : St) : Tri Try.prog 80 #[.int .i64 n] I S fun v J S' => v = .int .i64 (blocksN n) ∧ I = J ∧ S' = S := by
  refine Tri.of (args := [.int .i64 n]) tabOk Try.func80 rfl (by kernel_rfl) (by kernel_rfl) ?_
  unfold blocksN
  refine CmpD.split (fun c1 => ?_) (fun c1 => ?_)
  · rw [if_pos (.inl c1)]; exact Done.mk ⟨rfl, rfl, rfl⟩
  refine CmpD.split (fun c2 => ?_) (fun c2 => ?_)
  · rw [if_pos (.inr c2)]; exact Done.mk ⟨rfl, rfl, rfl⟩
  rw [if_neg (by omega)]
  refine ToD.i64 (by omega) (by omega) ?_
  exact Done.mk ⟨rfl, rfl, rfl⟩
def JSt.turn (j : JSt) (r : R5) : JSt × Int := match r with
  | (s, t, u, h, e) => if e = 0 then ({ j with s := s, t := t, u := u, h := h }, 0) else (j, e)
def JSt.reserve (j : JSt) (n : Int) : JSt × Int := if j.broken then (j, 4) else if blocksN n = 0 then (j, 2) else if j.s < blocksN n then (j, 232) else j.turn (reserveS j.s j.t j.u j.h (blocksN n))
def JSt.cancel (j : JSt) (n : Int) : JSt × Int := if j.broken then (j, 4) else if blocksN n = 0 then (j, 2) else j.turn (releaseS j.s j.t j.u j.h (blocksN n))
theorem jk_Reserve1 (bn bx bJ bD : Nat) (n : Int) (j : JSt) (hj : j.Wf) (hb : j.broken = false) (g : Hd) (I : Imm) :
    Tri Try.prog 79 #[.pointer (some ⟨bn, 0, none⟩), .pointer (some ⟨bx, 0, none⟩)] I [pBox bn (.int .i64 n) 3, pBox bx (.pointer (some ⟨bJ, 0, none⟩)) 22, jChunk bJ (j.at bD g)] fun v J S' =>
      I = J ∧ v = .int .i64 (j.reserve n).2 ∧ S' = [jChunk bJ ((j.reserve n).1.at bD g)] := by
  have hr := hj.ring
  unfold Ok at hr
  unfold JSt.reserve
  rw [if_neg (by rw [hb]; simp)]
  refine Tri.drop ?_ (fun _ _ _ _ h => h)
  refine Tri.of (args := [.pointer (some ⟨bn, 0, none⟩), .pointer (some ⟨bx, 0, none⟩)]) tabOk Try.func79 rfl (by kernel_rfl) (by kernel_rfl) ?_
  repeat (first
    | refine LoadD.own 0 rfl _ rfl rfl ?_
    | refine LoadD.own 1 rfl _ rfl rfl ?_
    | refine LoadD.own 2 rfl _ rfl rfl ?_
    | refine LoadP.at 0 rfl _ rfl rfl ?_
    | refine LoadP.at 1 rfl _ rfl rfl ?_
    | refine LoadP.at 2 rfl _ rfl rfl ?_
    | refine StoreD.st 0 rfl rfl rfl ?_
    | refine StoreD.st 1 rfl rfl rfl ?_
    | refine StoreD.st 2 rfl rfl rfl ?_
    | refine CmpD.yes rfl ?_
    | refine CmpD.yes (by decide) ?_
    | refine CmpD.no (by decide) ?_
    | refine Chk.mk ⟨rfl, trivial⟩ ?_
    | refine Chk.mk ⟨rfl, rfl, trivial⟩ ?_
    | refine Chk.mk ⟨rfl, rfl, rfl, trivial⟩ ?_
    | refine Chk.mk ⟨rfl, rfl, rfl, rfl, trivial⟩ ?_
    | refine Chk.mk ⟨rfl, rfl, rfl, rfl, rfl, trivial⟩ ?_
    | refine Chk.mk ⟨rfl, rfl, rfl, rfl, rfl, rfl, trivial⟩ ?_)
  refine Tri.nf (record_Blocks n I _) ?_
  rintro _ _ _ _ ⟨rfl, rfl, rfl⟩
  have hbn : 0 ≤ blocksN n ∧ blocksN n ≤ 33 := by unfold blocksN; split <;> omega
  refine CmpD.split (fun c1 => ?_) (fun c1 => ?_)
  · rw [if_pos c1]
    exact Done.mk ⟨_, Drop.pick [2] _ rfl, rfl, rfl, rfl⟩
  rw [if_neg c1]
  repeat (first
    | refine LoadD.own 0 rfl _ rfl rfl ?_
    | refine LoadD.own 1 rfl _ rfl rfl ?_
    | refine LoadD.own 2 rfl _ rfl rfl ?_
    | refine LoadP.at 0 rfl _ rfl rfl ?_
    | refine LoadP.at 1 rfl _ rfl rfl ?_
    | refine LoadP.at 2 rfl _ rfl rfl ?_
    | refine StoreD.st 0 rfl rfl rfl ?_
    | refine StoreD.st 1 rfl rfl rfl ?_
    | refine StoreD.st 2 rfl rfl rfl ?_
    | refine CmpD.yes rfl ?_
    | refine CmpD.yes (by decide) ?_
    | refine CmpD.no (by decide) ?_
    | refine Chk.mk ⟨rfl, trivial⟩ ?_
    | refine Chk.mk ⟨rfl, rfl, trivial⟩ ?_
    | refine Chk.mk ⟨rfl, rfl, rfl, trivial⟩ ?_
    | refine Chk.mk ⟨rfl, rfl, rfl, rfl, trivial⟩ ?_
    | refine Chk.mk ⟨rfl, rfl, rfl, rfl, rfl, trivial⟩ ?_
    | refine Chk.mk ⟨rfl, rfl, rfl, rfl, rfl, rfl, trivial⟩ ?_)
  refine CmpD.split (fun c2 => ?_) (fun c2 => ?_)
  · rw [if_pos (by exact c2)]
    exact Done.mk ⟨_, Drop.pick [2] _ rfl, rfl, rfl, rfl⟩
  rw [if_neg (by exact c2)]
  refine CodeF.sched [[], [], [1], [1, 2], [1, 2, 3], [], [1, 2, 3, 4, 5], [1, 2, 3, 4, 5, 6], [1, 2, 3, 4, 5, 6], [0, 1, 2, 3, 4, 5, 6, 7, 8], [0, 1, 2, 3, 4, 5, 6, 7, 8, 9]] [0, 1, 2, 3, 4, 5, 6, 7, 8, 9, 10] (by kernel_rfl) ?_
  repeat (first
    | refine LoadD.own 0 rfl _ rfl rfl ?_
    | refine LoadD.own 1 rfl _ rfl rfl ?_
    | refine LoadD.own 2 rfl _ rfl rfl ?_
    | refine LoadP.at 0 rfl _ rfl rfl ?_
    | refine LoadP.at 1 rfl _ rfl rfl ?_
    | refine LoadP.at 2 rfl _ rfl rfl ?_
    | refine StoreD.st 0 rfl rfl rfl ?_
    | refine StoreD.st 1 rfl rfl rfl ?_
    | refine StoreD.st 2 rfl rfl rfl ?_
    | refine CmpD.yes rfl ?_
    | refine CmpD.yes (by decide) ?_
    | refine CmpD.no (by decide) ?_
    | refine Chk.mk ⟨rfl, trivial⟩ ?_
    | refine Chk.mk ⟨rfl, rfl, trivial⟩ ?_
    | refine Chk.mk ⟨rfl, rfl, rfl, trivial⟩ ?_
    | refine Chk.mk ⟨rfl, rfl, rfl, rfl, trivial⟩ ?_
    | refine Chk.mk ⟨rfl, rfl, rfl, rfl, rfl, trivial⟩ ?_
    | refine Chk.mk ⟨rfl, rfl, rfl, rfl, rfl, rfl, trivial⟩ ?_)
  refine Tri.free (ring_Reserve j.s j.t j.u j.h (blocksN n) I (by unfold In64; omega) (by unfold In64; omega) (by unfold In64; omega) (by unfold In64; omega) (by unfold In64; omega)) ?_
  rintro v J2 _ hJ2 ⟨⟨s', t', u', h', e', rfl, hd⟩, rfl⟩
  rw [hd]
  repeat (first
    | refine LoadD.own 0 rfl _ rfl rfl ?_
    | refine LoadD.own 1 rfl _ rfl rfl ?_
    | refine LoadD.own 2 rfl _ rfl rfl ?_
    | refine LoadP.at 0 rfl _ rfl rfl ?_
    | refine LoadP.at 1 rfl _ rfl rfl ?_
    | refine LoadP.at 2 rfl _ rfl rfl ?_
    | refine StoreD.st 0 rfl rfl rfl ?_
    | refine StoreD.st 1 rfl rfl rfl ?_
    | refine StoreD.st 2 rfl rfl rfl ?_
    | refine CmpD.yes rfl ?_
    | refine CmpD.yes (by decide) ?_
    | refine CmpD.no (by decide) ?_
    | refine Chk.mk ⟨rfl, trivial⟩ ?_
    | refine Chk.mk ⟨rfl, rfl, trivial⟩ ?_
    | refine Chk.mk ⟨rfl, rfl, rfl, trivial⟩ ?_
    | refine Chk.mk ⟨rfl, rfl, rfl, rfl, trivial⟩ ?_
    | refine Chk.mk ⟨rfl, rfl, rfl, rfl, rfl, trivial⟩ ?_
    | refine Chk.mk ⟨rfl, rfl, rfl, rfl, rfl, rfl, trivial⟩ ?_)
  refine Tri.frame1 2 rfl (jr_turned bJ (j.at bD g) s' t' u' h' e' I) ?_
  rintro v J3 S' hJ3 ⟨rfl, rfl, rfl⟩
  refine ⟨_, rfl, ?_⟩
  refine Done.mk ⟨_, Drop.pick [2] _ rfl, rfl, ?_, ?_⟩
  · show _ = Value.int .i64 (JSt.turn j (s', t', u', h', e')).2
    unfold JSt.turn; dsimp only; split
    · rename_i h; rw [h]; rfl
    · rfl
  · show [jChunk bJ _] = [jChunk bJ ((JSt.turn j (s', t', u', h', e')).1.at bD g)]
    unfold JSt.turn; dsimp only; split <;> rfl
theorem jk_Cancel1 (bn bx bJ bD : Nat) (n : Int) (j : JSt) (hj : j.Wf) (hb : j.broken = false) (g : Hd) (I : Imm) :
    Tri Try.prog 82 #[.pointer (some ⟨bn, 0, none⟩), .pointer (some ⟨bx, 0, none⟩)] I [pBox bn (.int .i64 n) 3, pBox bx (.pointer (some ⟨bJ, 0, none⟩)) 22, jChunk bJ (j.at bD g)] fun v J S' =>
      I = J ∧ v = .int .i64 (j.cancel n).2 ∧ S' = [jChunk bJ ((j.cancel n).1.at bD g)] := by
  have hr := hj.ring
  unfold Ok at hr
  unfold JSt.cancel
  rw [if_neg (by rw [hb]; simp)]
  refine Tri.drop ?_ (fun _ _ _ _ h => h)
  refine Tri.of (args := [.pointer (some ⟨bn, 0, none⟩), .pointer (some ⟨bx, 0, none⟩)]) tabOk Try.func82 rfl (by kernel_rfl) (by kernel_rfl) ?_
  repeat (first
    | refine LoadD.own 0 rfl _ rfl rfl ?_
    | refine LoadD.own 1 rfl _ rfl rfl ?_
    | refine LoadD.own 2 rfl _ rfl rfl ?_
    | refine LoadP.at 0 rfl _ rfl rfl ?_
    | refine LoadP.at 1 rfl _ rfl rfl ?_
    | refine LoadP.at 2 rfl _ rfl rfl ?_
    | refine StoreD.st 0 rfl rfl rfl ?_
    | refine StoreD.st 1 rfl rfl rfl ?_
    | refine StoreD.st 2 rfl rfl rfl ?_
    | refine CmpD.yes rfl ?_
    | refine CmpD.yes (by decide) ?_
    | refine CmpD.no (by decide) ?_
    | refine Chk.mk ⟨rfl, trivial⟩ ?_
    | refine Chk.mk ⟨rfl, rfl, trivial⟩ ?_
    | refine Chk.mk ⟨rfl, rfl, rfl, trivial⟩ ?_
    | refine Chk.mk ⟨rfl, rfl, rfl, rfl, trivial⟩ ?_
    | refine Chk.mk ⟨rfl, rfl, rfl, rfl, rfl, trivial⟩ ?_
    | refine Chk.mk ⟨rfl, rfl, rfl, rfl, rfl, rfl, trivial⟩ ?_)
  refine Tri.nf (record_Blocks n I _) ?_
  rintro _ _ _ _ ⟨rfl, rfl, rfl⟩
  have hbn : 0 ≤ blocksN n ∧ blocksN n ≤ 33 := by unfold blocksN; split <;> omega
  refine CmpD.split (fun c1 => ?_) (fun c1 => ?_)
  · rw [if_pos c1]
    exact Done.mk ⟨_, Drop.pick [2] _ rfl, rfl, rfl, rfl⟩
  rw [if_neg c1]
  refine CodeF.sched [[], [], [1], [1, 2], [1, 2, 3], [], [1, 2, 3, 4, 5], [1, 2, 3, 4, 5, 6], [1, 2, 3, 4, 5, 6], [0, 1, 2, 3, 4, 5, 6, 7, 8], [0, 1, 2, 3, 4, 5, 6, 7, 8, 9]] [0, 1, 2, 3, 4, 5, 6, 7, 8, 9, 10] (by kernel_rfl) ?_
  repeat (first
    | refine LoadD.own 0 rfl _ rfl rfl ?_
    | refine LoadD.own 1 rfl _ rfl rfl ?_
    | refine LoadD.own 2 rfl _ rfl rfl ?_
    | refine LoadP.at 0 rfl _ rfl rfl ?_
    | refine LoadP.at 1 rfl _ rfl rfl ?_
    | refine LoadP.at 2 rfl _ rfl rfl ?_
    | refine StoreD.st 0 rfl rfl rfl ?_
    | refine StoreD.st 1 rfl rfl rfl ?_
    | refine StoreD.st 2 rfl rfl rfl ?_
    | refine CmpD.yes rfl ?_
    | refine CmpD.yes (by decide) ?_
    | refine CmpD.no (by decide) ?_
    | refine Chk.mk ⟨rfl, trivial⟩ ?_
    | refine Chk.mk ⟨rfl, rfl, trivial⟩ ?_
    | refine Chk.mk ⟨rfl, rfl, rfl, trivial⟩ ?_
    | refine Chk.mk ⟨rfl, rfl, rfl, rfl, trivial⟩ ?_
    | refine Chk.mk ⟨rfl, rfl, rfl, rfl, rfl, trivial⟩ ?_
    | refine Chk.mk ⟨rfl, rfl, rfl, rfl, rfl, rfl, trivial⟩ ?_)
  refine Tri.free (ring_Release j.s j.t j.u j.h (blocksN n) I (by unfold In64; omega) (by unfold In64; omega) (by unfold In64; omega) (by unfold In64; omega) (by unfold In64; omega)) ?_
  rintro v J2 _ hJ2 ⟨⟨s', t', u', h', e', rfl, hd⟩, rfl⟩
  rw [hd]
  repeat (first
    | refine LoadD.own 0 rfl _ rfl rfl ?_
    | refine LoadD.own 1 rfl _ rfl rfl ?_
    | refine LoadD.own 2 rfl _ rfl rfl ?_
    | refine LoadP.at 0 rfl _ rfl rfl ?_
    | refine LoadP.at 1 rfl _ rfl rfl ?_
    | refine LoadP.at 2 rfl _ rfl rfl ?_
    | refine StoreD.st 0 rfl rfl rfl ?_
    | refine StoreD.st 1 rfl rfl rfl ?_
    | refine StoreD.st 2 rfl rfl rfl ?_
    | refine CmpD.yes rfl ?_
    | refine CmpD.yes (by decide) ?_
    | refine CmpD.no (by decide) ?_
    | refine Chk.mk ⟨rfl, trivial⟩ ?_
    | refine Chk.mk ⟨rfl, rfl, trivial⟩ ?_
    | refine Chk.mk ⟨rfl, rfl, rfl, trivial⟩ ?_
    | refine Chk.mk ⟨rfl, rfl, rfl, rfl, trivial⟩ ?_
    | refine Chk.mk ⟨rfl, rfl, rfl, rfl, rfl, trivial⟩ ?_
    | refine Chk.mk ⟨rfl, rfl, rfl, rfl, rfl, rfl, trivial⟩ ?_)
  refine Tri.frame1 2 rfl (jr_turned bJ (j.at bD g) s' t' u' h' e' I) ?_
  rintro v J3 S' hJ3 ⟨rfl, rfl, rfl⟩
  refine ⟨_, rfl, ?_⟩
  refine Done.mk ⟨_, Drop.pick [2] _ rfl, rfl, ?_, ?_⟩
  · show _ = Value.int .i64 (JSt.turn j (s', t', u', h', e')).2
    unfold JSt.turn; dsimp only; split
    · rename_i h; rw [h]; rfl
    · rfl
  · show [jChunk bJ _] = [jChunk bJ ((JSt.turn j (s', t', u', h', e')).1.at bD g)]
    unfold JSt.turn; dsimp only; split <;> rfl
theorem JSt.reserve_same (j : JSt) (n : Int) : (j.reserve n).1.groups = j.groups := by
  unfold JSt.reserve JSt.turn
  split; · rfl
  split; · rfl
  split; · rfl
  dsimp only; split <;> rfl
theorem JSt.cancel_same (j : JSt) (n : Int) : (j.cancel n).1.groups = j.groups := by
  unfold JSt.cancel JSt.turn
  split; · rfl
  split; · rfl
  dsimp only; split <;> rfl
theorem jk_Reserve {bJ bD : Nat} {j : JSt} {ch : List Blk} (hJ0 : Jk bJ bD j ch) (hj : j.Wf) (n : Int) (I : Imm) :
    Tri Try.prog 16 #[.pointer (some ⟨bJ, 0, none⟩), .int .i64 n] I [ch] fun v J S' => I = J ∧ v = .int .i64 (j.reserve n).2 ∧ ∃ chJ, Jk bJ bD (j.reserve n).1 chJ ∧ S' = [chJ] := by
  obtain ⟨g, chG, rfl, hG⟩ := hJ0
  have hm := fun bn bx => jr_may2 bJ (j.at bD g) 79 bn bx I [pBox bn (.int .i64 n) 3, pBox bx (.pointer (some ⟨bJ, 0, none⟩)) 22, jChunk bJ (j.at bD g)] 2 rfl (fun hb => jk_Reserve1 bn bx bJ bD n j hj hb g I)
  refine Tri.lay (S2 := [jChunk bJ (j.at bD g), chG]) (by simp) ?_
  refine Tri.drop ?_ (fun _ _ _ _ h => h)
  refine Tri.of (args := [.pointer (some ⟨bJ, 0, none⟩), .int .i64 n]) tabOk Try.func16 rfl (by kernel_rfl) (by kernel_rfl) ?_
  conv => whnf
  intro bx
  conv => whnf
  intro bn
  repeat (first
    | refine LoadD.own 0 rfl _ rfl rfl ?_
    | refine LoadD.own 1 rfl _ rfl rfl ?_
    | refine LoadD.own 2 rfl _ rfl rfl ?_
    | refine LoadD.own 3 rfl _ rfl rfl ?_
    | refine LoadP.at 0 rfl _ rfl rfl ?_
    | refine LoadP.at 1 rfl _ rfl rfl ?_
    | refine LoadP.at 2 rfl _ rfl rfl ?_
    | refine LoadP.at 3 rfl _ rfl rfl ?_
    | refine StoreD.st 0 rfl rfl rfl ?_
    | refine StoreD.st 1 rfl rfl rfl ?_
    | refine StoreD.st 2 rfl rfl rfl ?_
    | refine StoreD.st 3 rfl rfl rfl ?_
    | refine CmpD.yes rfl ?_
    | refine CmpD.yes (by decide) ?_
    | refine CmpD.no (by decide) ?_
    | refine Chk.mk ⟨rfl, trivial⟩ ?_
    | refine Chk.mk ⟨rfl, rfl, trivial⟩ ?_
    | refine Chk.mk ⟨rfl, rfl, rfl, trivial⟩ ?_
    | refine Chk.mk ⟨rfl, rfl, rfl, rfl, trivial⟩ ?_
    | refine Chk.mk ⟨rfl, rfl, rfl, rfl, rfl, trivial⟩ ?_
    | refine Chk.mk ⟨rfl, rfl, rfl, rfl, rfl, rfl, trivial⟩ ?_)
  refine Tri.frameX (hm bn bx) [3, 2, 0] rfl rfl ?_
  rintro v J A' hJ (⟨hb, rfl, rfl, rfl⟩ | ⟨hb, rfl, rfl, rfl⟩)
  · unfold JSt.reserve
    rw [if_pos hb]
    exact Done.mk ⟨[jChunk bJ (j.at bD g) ++ chG], (Drop.pick [6, 1] _ rfl).trans (Drop.flat (by simp [St.at])), rfl, rfl, _, ⟨g, chG, rfl, hG⟩, rfl⟩
  · exact Done.mk ⟨[jChunk bJ ((j.reserve n).1.at bD g) ++ chG], (Drop.pick [4, 1] _ rfl).trans (Drop.flat (by simp [St.at])), rfl, rfl, _, ⟨g, chG, rfl, by rw [JSt.reserve_same]; exact hG⟩, rfl⟩
theorem jk_Cancel {bJ bD : Nat} {j : JSt} {ch : List Blk} (hJ0 : Jk bJ bD j ch) (hj : j.Wf) (n : Int) (I : Imm) :
    Tri Try.prog 17 #[.pointer (some ⟨bJ, 0, none⟩), .int .i64 n] I [ch] fun v J S' => I = J ∧ v = .int .i64 (j.cancel n).2 ∧ ∃ chJ, Jk bJ bD (j.cancel n).1 chJ ∧ S' = [chJ] := by
  obtain ⟨g, chG, rfl, hG⟩ := hJ0
  have hm := fun bn bx => jr_may2 bJ (j.at bD g) 82 bn bx I [pBox bn (.int .i64 n) 3, pBox bx (.pointer (some ⟨bJ, 0, none⟩)) 22, jChunk bJ (j.at bD g)] 2 rfl (fun hb => jk_Cancel1 bn bx bJ bD n j hj hb g I)
  refine Tri.lay (S2 := [jChunk bJ (j.at bD g), chG]) (by simp) ?_
  refine Tri.drop ?_ (fun _ _ _ _ h => h)
  refine Tri.of (args := [.pointer (some ⟨bJ, 0, none⟩), .int .i64 n]) tabOk Try.func17 rfl (by kernel_rfl) (by kernel_rfl) ?_
  conv => whnf
  intro bx
  conv => whnf
  intro bn
  repeat (first
    | refine LoadD.own 0 rfl _ rfl rfl ?_
    | refine LoadD.own 1 rfl _ rfl rfl ?_
    | refine LoadD.own 2 rfl _ rfl rfl ?_
    | refine LoadD.own 3 rfl _ rfl rfl ?_
    | refine LoadP.at 0 rfl _ rfl rfl ?_
    | refine LoadP.at 1 rfl _ rfl rfl ?_
    | refine LoadP.at 2 rfl _ rfl rfl ?_
    | refine LoadP.at 3 rfl _ rfl rfl ?_
    | refine StoreD.st 0 rfl rfl rfl ?_
    | refine StoreD.st 1 rfl rfl rfl ?_
    | refine StoreD.st 2 rfl rfl rfl ?_
    | refine StoreD.st 3 rfl rfl rfl ?_
    | refine CmpD.yes rfl ?_
    | refine CmpD.yes (by decide) ?_
    | refine CmpD.no (by decide) ?_
    | refine Chk.mk ⟨rfl, trivial⟩ ?_
    | refine Chk.mk ⟨rfl, rfl, trivial⟩ ?_
    | refine Chk.mk ⟨rfl, rfl, rfl, trivial⟩ ?_
    | refine Chk.mk ⟨rfl, rfl, rfl, rfl, trivial⟩ ?_
    | refine Chk.mk ⟨rfl, rfl, rfl, rfl, rfl, trivial⟩ ?_
    | refine Chk.mk ⟨rfl, rfl, rfl, rfl, rfl, rfl, trivial⟩ ?_)
  refine Tri.frameX (hm bn bx) [3, 2, 0] rfl rfl ?_
  rintro v J A' hJ (⟨hb, rfl, rfl, rfl⟩ | ⟨hb, rfl, rfl, rfl⟩)
  · unfold JSt.cancel
    rw [if_pos hb]
    exact Done.mk ⟨[jChunk bJ (j.at bD g) ++ chG], (Drop.pick [6, 1] _ rfl).trans (Drop.flat (by simp [St.at])), rfl, rfl, _, ⟨g, chG, rfl, hG⟩, rfl⟩
  · exact Done.mk ⟨[jChunk bJ ((j.cancel n).1.at bD g) ++ chG], (Drop.pick [4, 1] _ rfl).trans (Drop.flat (by simp [St.at])), rfl, rfl, _, ⟨g, chG, rfl, by rw [JSt.cancel_same]; exact hG⟩, rfl⟩
end Go.Proofs.Ytbpdbgcndfcilaa
namespace Go.Proofs.Ytbpdbgcndfcilaa
open Go.RowKit Go.Sl
set_option maxRecDepth 20000

@[reducible] def gBox (b : Nat) (e s : Int) (a : Option Addr) (n cap : Nat) : List Blk := [(b, row [.int .i64 e, .int .i64 s, .slice a n cap] 69)]
def ZOk (ch : List Blk) (ims : List Img) : Prop := ∀ g ∈ ims, ∃ bz, g.a = some ⟨bz, 0, none⟩ ∧ g.len = 4096 ∧ (bz, row (bts noughts) 5) ∈ ch
theorem rows_noughts : rows 4096 [Value.int .u8 0] = bts noughts := rows_zero 4096
set_option maxHeartbeats 4000000 in
theorem record_head (I : Imm) (a : Option Addr) (len cap : Nat) (b : Dat) (h : Rds I a len (bts b)) (hcap : len ≤ cap) (hlen : len ≤ 1000000000) :
    Tri Try.prog 107 #[.slice a len cap] I [] fun v J S' =>
      (hdP b = none ∧ ∃ x y aI n capI aH m capH, v = .tuple #[.agg #[.int .i64 x, .int .i64 y, .slice aI n capI], .slice aH m capH, .bool false] ∧ S' = [[]]) ∨
      (hdP b = some (hbE b, hbS b, imsB b) ∧ ∃ aI capI chI ims aH capH, ∃ hs : List Hs, v = .tuple #[.agg #[.int .i64 (hbE b : Nat), .int .i64 (hbS b : Nat), .slice aI (cntB b) capI], .slice aH (cntB b) capH, .bool true] ∧ OwnC chI 2 aI (cntB b) capI (imgCells ims) ∧
        ims.map Img.blk = (List.range (cntB b)).map (blkB b) ∧ Rds J aH (cntB b) (hs.map Hs.cell) ∧ (∀ k, k < cntB b → ∃ x, hs[k]? = some x ∧ HsOk J x (hidB b k)) ∧ S' = [chI]) := by
  have hll : b.length = len := by rw [← bts_length, h.len]
  refine Tri.drop ?_ (fun _ _ _ _ h => h)
  have hU := octets_U64 (S := []) (cap := cap) h.slC hlen 0 (by unfold In64; omega)
  have hEn : hbE b = (numV b 0 8).1 / 1099511627776 := rfl
  have hSn : hbS b = (numV b 0 8).1 % 1099511627776 := rfl
  have hn8 := nb_lt8 b 0
  have hk8 : (numV b 0 8).2 = false → b.length < 8 := by
    unfold numV
    split
    · intro _; omega
    · intro h; simp at h
  have none8 : b.length < 8 → hdP b = none := fun hl => hdP_stmp fun h => by have := h.1; omega
  generalize numV b 0 8 = nn at *
  obtain ⟨n, ok⟩ := nn
  dsimp only at hU hEn hSn hn8 hk8
  obtain ⟨e, he⟩ : ∃ e, e = hbE b := ⟨_, rfl⟩
  obtain ⟨s, hs⟩ : ∃ s, s = hbS b := ⟨_, rfl⟩
  refine Tri.of (args := [.slice a len cap]) tabOk Try.func107 rfl (by kernel_rfl) (by kernel_rfl) ?_
  conv => whnf
  intro b2
  refine Tri.free hU ?_
  rintro v _ _ hJ ⟨rfl, rfl, rfl⟩
  refine Chk.mk (by decide) ?_
  refine ToD.to ((e : Nat) : Int) (by rw [he, hEn]; exact shr_nat n 40 _ rfl (by omega)) ?_
  refine ToD.i64 (by omega) (by omega) ?_
  refine ToD.to ((s : Nat) : Int) (by
    rw [hs, hSn]
    show bits .and .u64 (n : Int) ((1099511627775 : Nat) : Int) = _
    rw [u64_and_nat _ _ hn8 (by omega), show (1099511627775 : Nat) = 2 ^ 40 - 1 from rfl, Nat.and_two_pow_sub_one_eq_mod]) ?_
  refine ToD.i64 (by omega) (by omega) ?_
  conv => whnf
  intro b7
  repeat (first
    | refine LoadD.own 0 rfl _ rfl rfl ?_
    | refine LoadD.own 1 rfl _ rfl rfl ?_
    | refine LoadD.own 2 rfl _ rfl rfl ?_
    | refine LoadP.at 0 rfl _ rfl rfl ?_
    | refine LoadP.at 1 rfl _ rfl rfl ?_
    | refine LoadP.at 2 rfl _ rfl rfl ?_
    | refine StoreD.st 0 rfl rfl rfl ?_
    | refine StoreD.st 1 rfl rfl rfl ?_
    | refine StoreD.st 2 rfl rfl rfl ?_
    | refine CmpD.yes rfl ?_
    | refine CmpD.yes (by decide) ?_
    | refine CmpD.no (by decide) ?_
    | refine Chk.mk ⟨rfl, trivial⟩ ?_
    | refine Chk.mk ⟨rfl, rfl, trivial⟩ ?_
    | refine Chk.mk ⟨rfl, rfl, rfl, trivial⟩ ?_
    | refine Chk.mk ⟨rfl, rfl, rfl, rfl, trivial⟩ ?_
    | refine Chk.mk ⟨rfl, rfl, rfl, rfl, rfl, trivial⟩ ?_
    | refine Chk.mk ⟨rfl, rfl, rfl, rfl, rfl, rfl, trivial⟩ ?_)
  cases ok
  · repeat (first
      | refine LoadD.own 0 rfl _ rfl rfl ?_
      | refine LoadD.own 1 rfl _ rfl rfl ?_
      | refine LoadD.own 2 rfl _ rfl rfl ?_
      | refine LoadP.at 0 rfl _ rfl rfl ?_
      | refine LoadP.at 1 rfl _ rfl rfl ?_
      | refine LoadP.at 2 rfl _ rfl rfl ?_
      | refine StoreD.st 0 rfl rfl rfl ?_
      | refine StoreD.st 1 rfl rfl rfl ?_
      | refine StoreD.st 2 rfl rfl rfl ?_
      | refine CmpD.yes rfl ?_
      | refine CmpD.yes (by decide) ?_
      | refine CmpD.no (by decide) ?_
      | refine Chk.mk ⟨rfl, trivial⟩ ?_
      | refine Chk.mk ⟨rfl, rfl, trivial⟩ ?_
      | refine Chk.mk ⟨rfl, rfl, rfl, trivial⟩ ?_
      | refine Chk.mk ⟨rfl, rfl, rfl, rfl, trivial⟩ ?_
      | refine Chk.mk ⟨rfl, rfl, rfl, rfl, rfl, trivial⟩ ?_
      | refine Chk.mk ⟨rfl, rfl, rfl, rfl, rfl, rfl, trivial⟩ ?_)
    exact Done.mk ⟨[[]], Drop.pick [] _ rfl |>.trans (Drop.flat rfl), .inl ⟨none8 (hk8 rfl), _, _, _, _, _, _, _, _, rfl, rfl⟩⟩
  repeat (first
    | refine LoadD.own 0 rfl _ rfl rfl ?_
    | refine LoadD.own 1 rfl _ rfl rfl ?_
    | refine LoadD.own 2 rfl _ rfl rfl ?_
    | refine LoadP.at 0 rfl _ rfl rfl ?_
    | refine LoadP.at 1 rfl _ rfl rfl ?_
    | refine LoadP.at 2 rfl _ rfl rfl ?_
    | refine StoreD.st 0 rfl rfl rfl ?_
    | refine StoreD.st 1 rfl rfl rfl ?_
    | refine StoreD.st 2 rfl rfl rfl ?_
    | refine CmpD.yes rfl ?_
    | refine CmpD.yes (by decide) ?_
    | refine CmpD.no (by decide) ?_
    | refine Chk.mk ⟨rfl, trivial⟩ ?_
    | refine Chk.mk ⟨rfl, rfl, trivial⟩ ?_
    | refine Chk.mk ⟨rfl, rfl, rfl, trivial⟩ ?_
    | refine Chk.mk ⟨rfl, rfl, rfl, rfl, trivial⟩ ?_
    | refine Chk.mk ⟨rfl, rfl, rfl, rfl, rfl, trivial⟩ ?_
    | refine Chk.mk ⟨rfl, rfl, rfl, rfl, rfl, rfl, trivial⟩ ?_)
  refine Tri.free (stamped_of I a len cap b h hcap e s) ?_
  rintro v J1 _ hJ1 ⟨br, rfl, hbr⟩
  cases br
  · repeat (first
      | refine LoadD.own 0 rfl _ rfl rfl ?_
      | refine LoadD.own 1 rfl _ rfl rfl ?_
      | refine LoadD.own 2 rfl _ rfl rfl ?_
      | refine LoadP.at 0 rfl _ rfl rfl ?_
      | refine LoadP.at 1 rfl _ rfl rfl ?_
      | refine LoadP.at 2 rfl _ rfl rfl ?_
      | refine StoreD.st 0 rfl rfl rfl ?_
      | refine StoreD.st 1 rfl rfl rfl ?_
      | refine StoreD.st 2 rfl rfl rfl ?_
      | refine CmpD.yes rfl ?_
      | refine CmpD.yes (by decide) ?_
      | refine CmpD.no (by decide) ?_
      | refine Chk.mk ⟨rfl, trivial⟩ ?_
      | refine Chk.mk ⟨rfl, rfl, trivial⟩ ?_
      | refine Chk.mk ⟨rfl, rfl, rfl, trivial⟩ ?_
      | refine Chk.mk ⟨rfl, rfl, rfl, rfl, trivial⟩ ?_
      | refine Chk.mk ⟨rfl, rfl, rfl, rfl, rfl, trivial⟩ ?_
      | refine Chk.mk ⟨rfl, rfl, rfl, rfl, rfl, rfl, trivial⟩ ?_)
    refine Done.mk ⟨[[]], Drop.pick [] _ rfl |>.trans (Drop.flat rfl), .inl ⟨hdP_stmp ?_, _, _, _, _, _, _, _, _, rfl, rfl⟩⟩
    rw [← he, ← hs]
    intro h'
    exact absurd (hbr.2 h') (by simp)
  have hst := hbr.1 rfl
  have hb4 := hst.1
  obtain rfl : len = 4096 := by omega
  have hbJ := h.mono hJ1
  rcases hbJ.mem with q0 | ⟨bb, bo, cb, Tb, fb, rfl, hIb, hcb⟩
  · omega
  repeat (first
    | refine LoadD.own 0 rfl _ rfl rfl ?_
    | refine LoadD.own 1 rfl _ rfl rfl ?_
    | refine LoadD.own 2 rfl _ rfl rfl ?_
    | refine LoadP.at 0 rfl _ rfl rfl ?_
    | refine LoadP.at 1 rfl _ rfl rfl ?_
    | refine LoadP.at 2 rfl _ rfl rfl ?_
    | refine StoreD.st 0 rfl rfl rfl ?_
    | refine StoreD.st 1 rfl rfl rfl ?_
    | refine StoreD.st 2 rfl rfl rfl ?_
    | refine CmpD.yes rfl ?_
    | refine CmpD.yes (by decide) ?_
    | refine CmpD.no (by decide) ?_
    | refine Chk.mk ⟨rfl, trivial⟩ ?_
    | refine Chk.mk ⟨rfl, rfl, trivial⟩ ?_
    | refine Chk.mk ⟨rfl, rfl, rfl, trivial⟩ ?_
    | refine Chk.mk ⟨rfl, rfl, rfl, rfl, trivial⟩ ?_
    | refine Chk.mk ⟨rfl, rfl, rfl, rfl, rfl, trivial⟩ ?_
    | refine Chk.mk ⟨rfl, rfl, rfl, rfl, rfl, rfl, trivial⟩ ?_)
  refine Tri.free (gathered_fix J1 bb bo cap b hbJ hcap) ?_
  rintro v J2 _ hJ2 ⟨bi, oi, capi, rfl, hci, hin⟩
  have hU2 := octets_U16 (S := []) (cap := capi) hin.slC (by omega) 0 (by unfold In64; omega)
  have hc16 := nb_lt2 (gatK b 8) 0
  rw [show (numV (gatK b 8) 0 2).1 = cntB b from rfl] at hU2 hc16
  obtain ⟨c, hc⟩ : ∃ c, c = cntB b := ⟨_, rfl⟩
  rw [← hc] at hU2 hc16
  refine Tri.free hU2 ?_
  rintro v _ _ hJ ⟨rfl, rfl, rfl⟩
  refine ToD.i64 (by omega) (by omega) ?_
  refine Tri.free (record_Blocks c J2 []) ?_
  rintro v _ _ hJ ⟨rfl, rfl, rfl⟩
  refine CmpD.split (fun c0 => ?_) (fun c0 => ?_)
  · repeat (first
      | refine LoadD.own 0 rfl _ rfl rfl ?_
      | refine LoadD.own 1 rfl _ rfl rfl ?_
      | refine LoadD.own 2 rfl _ rfl rfl ?_
      | refine LoadP.at 0 rfl _ rfl rfl ?_
      | refine LoadP.at 1 rfl _ rfl rfl ?_
      | refine LoadP.at 2 rfl _ rfl rfl ?_
      | refine StoreD.st 0 rfl rfl rfl ?_
      | refine StoreD.st 1 rfl rfl rfl ?_
      | refine StoreD.st 2 rfl rfl rfl ?_
      | refine CmpD.yes rfl ?_
      | refine CmpD.yes (by decide) ?_
      | refine CmpD.no (by decide) ?_
      | refine Chk.mk ⟨rfl, trivial⟩ ?_
      | refine Chk.mk ⟨rfl, rfl, trivial⟩ ?_
      | refine Chk.mk ⟨rfl, rfl, rfl, trivial⟩ ?_
      | refine Chk.mk ⟨rfl, rfl, rfl, rfl, trivial⟩ ?_
      | refine Chk.mk ⟨rfl, rfl, rfl, rfl, rfl, trivial⟩ ?_
      | refine Chk.mk ⟨rfl, rfl, rfl, rfl, rfl, rfl, trivial⟩ ?_)
    refine Done.mk ⟨[[]], Drop.pick [] _ rfl |>.trans (Drop.flat rfl), .inl ⟨hdP_cnt ?_, _, _, _, _, _, _, _, _, rfl, rfl⟩⟩
    rw [← hc]
    intro h'
    unfold blocksN at c0
    rw [if_neg (by omega)] at c0
    omega
  have hcr : 1 ≤ c ∧ c ≤ 32 := by
    unfold blocksN at c0
    split at c0 <;> omega
  have hgl : (gatK b 8).length = 4032 := gatK_length hb4 8 (by omega)
  refine ToD.i64 (by omega) (by omega) ?_
  refine CodeF.loopD [0, 2, 7, 8, 9, 11, 12, 57, 58] (fun vs J' S' => ∃ (i : Nat) (aI : Option Addr) (capI : Nat) (chI : List Blk) (aH : Option Addr) (capH : Nat) (chH chZ : List Blk) (ims : List Img) (hl : List Hs), i ≤ c ∧ ims.length = i ∧ hl.length = i ∧
      OwnC chI 2 aI i capI (imgCells ims) ∧ OwnC chH 1 aH i capH (hl.map Hs.cell) ∧ ims.map Img.blk = (List.range i).map (blkB b) ∧ ZOk chZ ims ∧ (∀ k, k < i → ∃ x, hl[k]? = some x ∧ HsOk J2 x (hidB b k)) ∧ J2 = J' ∧
      vs = [.slice (some ⟨bb, bo, none⟩) 4096 cap, .pointer (some ⟨b2, 0, none⟩), .pointer (some ⟨b7, 0, none⟩), .slice (some ⟨bi, oi, none⟩) 4032 capi, .int .u16 c, .slice aH i capH, .int .i64 (6 + 66 * i : Nat), .int .i64 c, .int .i64 i] ∧
      S' = [gBox b2 0 0 none 0 0, gBox b7 e s aI i capI, chI, chH, chZ])
    (fun vs _ _ => match vs with | [_, _, _, _, _, _, _, _, .int _ i] => ((c : Int) - i).toNat | _ => 0) ?_ ?_
  · exact ⟨_, (Drop.pick [0, 1] _ rfl).trans (Drop.flat (by simp [St.at]; rfl)), 0, none, 0, [], none, 0, [], [], [], [], by omega, rfl, rfl, OwnC.nil _ _, OwnC.nil _ _, rfl, by intro g hg; simp at hg, fun k hk => by omega, rfl, rfl, rfl⟩
  · rintro vs gE J' S' hJ' ⟨i, aI, capI, chI, aH, capH, chH, chZ, ims, hl, hi, hil, hhl, hI, hH, hblks, hZ, hHs, rfl, rfl, rfl⟩
    refine CmpD.split (fun c1 => ?_) (fun c1 => ?_)
    · have hlt : i < c := by omega
      have hU3 := octets_U16 (S := []) (cap := capi) hin.slC (by omega) (6 + 66 * i : Nat) (by unfold In64; omega)
      have hb16 := nb_lt2 (gatK b 8) (6 + 66 * i : Nat)
      refine Tri.free hU3 ?_
      rintro v _ _ hJ ⟨rfl, rfl, rfl⟩
      have hbk : blkB b i = ((numV (gatK b 8) (6 + 66 * i : Nat) 2).1 : Nat) := rfl
      generalize (numV (gatK b 8) (6 + 66 * i : Nat) 2).1 = bk at hbk hb16 ⊢
      conv => whnf
      refine CodeF.sched [[], [0], [], [2], [], [2, 3, 4], [2, 3, 4, 5], [0, 1, 2, 3, 4, 5, 6], [0, 1, 2, 3, 4, 5, 6, 7], [0, 1, 2, 3, 4, 5, 6, 7, 8]] [0, 1, 2, 3, 4, 5, 6, 7, 8, 9] (by kernel_rfl) ?_
      repeat (first
        | refine LoadD.own 0 rfl _ rfl rfl ?_
        | refine LoadD.own 1 rfl _ rfl rfl ?_
        | refine LoadD.own 2 rfl _ rfl rfl ?_
        | refine LoadP.at 0 rfl _ rfl rfl ?_
        | refine LoadP.at 1 rfl _ rfl rfl ?_
        | refine LoadP.at 2 rfl _ rfl rfl ?_
        | refine StoreD.st 0 rfl rfl rfl ?_
        | refine StoreD.st 1 rfl rfl rfl ?_
        | refine StoreD.st 2 rfl rfl rfl ?_
        | refine CmpD.yes rfl ?_
        | refine CmpD.yes (by decide) ?_
        | refine CmpD.no (by decide) ?_
        | refine Chk.mk ⟨rfl, trivial⟩ ?_
        | refine Chk.mk ⟨rfl, rfl, trivial⟩ ?_
        | refine Chk.mk ⟨rfl, rfl, rfl, trivial⟩ ?_
        | refine Chk.mk ⟨rfl, rfl, rfl, rfl, trivial⟩ ?_
        | refine Chk.mk ⟨rfl, rfl, rfl, rfl, rfl, trivial⟩ ?_
        | refine Chk.mk ⟨rfl, rfl, rfl, rfl, rfl, rfl, trivial⟩ ?_)
      refine ToD.to (bk : Int) (wrap_i64 (by omega) (by omega)) ?_
      refine makeD tabOk rfl rfl rfl 4096 4096 rfl rfl (Nat.le_refl _) (by show 1 * 4096 ≤ _; decide) (by decide) (by show 4096 * 1 ≤ _; decide) rfl (by decide) ?_
      intro bz
      repeat (first
        | refine LoadD.own 0 rfl _ rfl rfl ?_
        | refine LoadD.own 1 rfl _ rfl rfl ?_
        | refine LoadD.own 2 rfl _ rfl rfl ?_
        | refine LoadP.at 0 rfl _ rfl rfl ?_
        | refine LoadP.at 1 rfl _ rfl rfl ?_
        | refine LoadP.at 2 rfl _ rfl rfl ?_
        | refine StoreD.st 0 rfl rfl rfl ?_
        | refine StoreD.st 1 rfl rfl rfl ?_
        | refine StoreD.st 2 rfl rfl rfl ?_
        | refine CmpD.yes rfl ?_
        | refine CmpD.yes (by decide) ?_
        | refine CmpD.no (by decide) ?_
        | refine Chk.mk ⟨rfl, trivial⟩ ?_
        | refine Chk.mk ⟨rfl, rfl, trivial⟩ ?_
        | refine Chk.mk ⟨rfl, rfl, rfl, trivial⟩ ?_
        | refine Chk.mk ⟨rfl, rfl, rfl, rfl, trivial⟩ ?_
        | refine Chk.mk ⟨rfl, rfl, rfl, rfl, rfl, trivial⟩ ?_
        | refine Chk.mk ⟨rfl, rfl, rfl, rfl, rfl, rfl, trivial⟩ ?_)
      conv => whnf
      intro bN
      repeat (first
        | refine LoadD.own 0 rfl _ rfl rfl ?_
        | refine LoadD.own 1 rfl _ rfl rfl ?_
        | refine LoadD.own 2 rfl _ rfl rfl ?_
        | refine LoadP.at 0 rfl _ rfl rfl ?_
        | refine LoadP.at 1 rfl _ rfl rfl ?_
        | refine LoadP.at 2 rfl _ rfl rfl ?_
        | refine StoreD.st 0 rfl rfl rfl ?_
        | refine StoreD.st 1 rfl rfl rfl ?_
        | refine StoreD.st 2 rfl rfl rfl ?_
        | refine CmpD.yes rfl ?_
        | refine CmpD.yes (by decide) ?_
        | refine CmpD.no (by decide) ?_
        | refine Chk.mk ⟨rfl, trivial⟩ ?_
        | refine Chk.mk ⟨rfl, rfl, trivial⟩ ?_
        | refine Chk.mk ⟨rfl, rfl, rfl, trivial⟩ ?_
        | refine Chk.mk ⟨rfl, rfl, rfl, rfl, trivial⟩ ?_
        | refine Chk.mk ⟨rfl, rfl, rfl, rfl, rfl, trivial⟩ ?_
        | refine Chk.mk ⟨rfl, rfl, rfl, rfl, rfl, rfl, trivial⟩ ?_)
      refine appendD tabOk rfl rfl rfl rfl rfl rfl rfl 2 rfl hI (SrcOk.slice (n := 1) (news := imgCells [⟨bk, some ⟨bz, 0, none⟩, 4096, 4096, noughts⟩]) tabOk rfl ((OwnC.whole (len := 1) (size := 2) rfl).slC 6 rfl) (by intro v hv; simp [imgCells] at hv; rcases hv with rfl | rfl <;> rfl)) rfl (by show (i + 1) * 32 ≤ _; omega) (by omega) ?_
      intro aI2 capI2 chI2 hI2
      repeat (first
        | refine LoadD.own 0 rfl _ rfl rfl ?_
        | refine LoadD.own 1 rfl _ rfl rfl ?_
        | refine LoadD.own 2 rfl _ rfl rfl ?_
        | refine LoadP.at 0 rfl _ rfl rfl ?_
        | refine LoadP.at 1 rfl _ rfl rfl ?_
        | refine LoadP.at 2 rfl _ rfl rfl ?_
        | refine StoreD.st 0 rfl rfl rfl ?_
        | refine StoreD.st 1 rfl rfl rfl ?_
        | refine StoreD.st 2 rfl rfl rfl ?_
        | refine CmpD.yes rfl ?_
        | refine CmpD.yes (by decide) ?_
        | refine CmpD.no (by decide) ?_
        | refine Chk.mk ⟨rfl, trivial⟩ ?_
        | refine Chk.mk ⟨rfl, rfl, trivial⟩ ?_
        | refine Chk.mk ⟨rfl, rfl, rfl, trivial⟩ ?_
        | refine Chk.mk ⟨rfl, rfl, rfl, rfl, trivial⟩ ?_
        | refine Chk.mk ⟨rfl, rfl, rfl, rfl, rfl, trivial⟩ ?_
        | refine Chk.mk ⟨rfl, rfl, rfl, rfl, rfl, rfl, trivial⟩ ?_)
      refine ToD.to ((8 + 66 * i : Nat) : Int) (by rw [wrap_i64 (by omega) (by omega)]; omega) ?_
      refine ToD.to ((8 + 66 * i : Nat) : Int) (by rw [wrap_i64 (by omega) (by omega)]; omega) ?_
      refine ToD.to ((72 + 66 * i : Nat) : Int) (by rw [wrap_i64 (by omega) (by omega)]; omega) ?_
      refine sliceD tabOk rfl rfl rfl rfl (8 + 66 * i) (72 + 66 * i) capi ⟨_, rfl⟩ ⟨_, rfl⟩ rfl (.inl rfl) (by omega) ?_
      have hx : Value.slice (slAddr (some ⟨bi, oi, none⟩) (8 + 66 * i) capi 1) (72 + 66 * i - (8 + 66 * i)) (capi - (8 + 66 * i)) = Hs.cell ⟨bi, oi + (8 + 66 * i), capi - (8 + 66 * i)⟩ := by
        unfold slAddr
        rw [if_neg (by omega), show 72 + 66 * i - (8 + 66 * i) = 64 by omega]
        simp [Hs.cell, add_none]
      have hxs : (slAddr (some ⟨bi, oi, none⟩) (8 + 66 * i) capi 5 : Option Addr) = slAddr (some ⟨bi, oi, none⟩) (8 + 66 * i) capi 5 := rfl
      clear hxs
      conv => whnf
      intro bM
      refine appendD tabOk rfl rfl rfl rfl rfl rfl rfl 3 rfl hH (SrcOk.slice (n := 1) (news := [Hs.cell ⟨bi, oi + (8 + 66 * i), capi - (8 + 66 * i)⟩]) tabOk rfl ((OwnC.whole (len := 1) (size := 1) rfl).slC 7 (by rw [← hx]; rfl)) (by intro v hv; simp only [List.mem_singleton] at hv; subst hv; rfl)) rfl (by show (i + 1) * 24 ≤ _; omega) (by omega) ?_
      intro aH2 capH2 chH2 hH2
      refine ToD.to ((6 + 66 * (i + 1) : Nat) : Int) (by rw [wrap_i64 (by omega) (by omega)]; omega) ?_
      refine ToD.i64 (by omega) (by omega) ?_
      refine ⟨[gBox b2 0 0 none 0 0, gBox b7 e s aI2 (i + 1) capI2, chI2, chH2, chZ ++ [(bz, row (bts noughts) 5)]], ?_, ⟨i + 1, aI2, capI2, chI2, aH2, capH2, chH2, chZ ++ [(bz, row (bts noughts) 5)], ims ++ [⟨bk, some ⟨bz, 0, none⟩, 4096, 4096, noughts⟩], hl ++ [⟨bi, oi + (8 + 66 * i), capi - (8 + 66 * i)⟩], by omega, by simp [hil], by simp [hhl], by rw [imgCells_snoc]; exact hI2, by rw [List.map_append]; exact hH2, ?_, ?_, ?_, rfl, rfl, rfl⟩, ?_⟩
      · refine (Drop.pick [0, 1, 2, 3, 4, 5] _ rfl).trans (Drop.flat ?_)
        rw [← rows_noughts]
        simp [St.at]
        exact ⟨rfl, rfl⟩
      · rw [List.map_append, hblks, List.range_succ, List.map_append]
        show _ ++ [((bk : Nat) : Int)] = _ ++ [blkB b i]
        rw [hbk]
      · intro g hg
        rcases List.mem_append.1 hg with hg | hg
        · obtain ⟨x, h1, h2, h3⟩ := hZ g hg
          exact ⟨x, h1, h2, List.mem_append_left _ h3⟩
        · simp only [List.mem_singleton] at hg
          subst hg
          exact ⟨bz, rfl, rfl, by simp⟩
      · intro k hk
        rcases Nat.lt_or_ge k i with g | g
        · obtain ⟨x, h1, h2⟩ := hHs k g
          exact ⟨x, by rw [List.getElem?_append_left (by omega)]; exact h1, h2⟩
        · obtain rfl : k = i := by omega
          refine ⟨_, by rw [List.getElem?_append_right (by omega), hhl, Nat.sub_self]; rfl, ?_, ?_⟩
          · show 64 ≤ capi - (8 + 66 * k); omega
          · exact Rds_part hin (8 + 66 * k) 64 (by omega)
      · show ((c : Int) - ((i : Int) + 1)).toNat < ((c : Int) - i).toNat; omega
    · obtain rfl : i = c := by omega
      repeat (first
        | refine LoadD.own 0 rfl _ rfl rfl ?_
        | refine LoadD.own 1 rfl _ rfl rfl ?_
        | refine LoadD.own 2 rfl _ rfl rfl ?_
        | refine LoadP.at 0 rfl _ rfl rfl ?_
        | refine LoadP.at 1 rfl _ rfl rfl ?_
        | refine LoadP.at 2 rfl _ rfl rfl ?_
        | refine StoreD.st 0 rfl rfl rfl ?_
        | refine StoreD.st 1 rfl rfl rfl ?_
        | refine StoreD.st 2 rfl rfl rfl ?_
        | refine CmpD.yes rfl ?_
        | refine CmpD.yes (by decide) ?_
        | refine CmpD.no (by decide) ?_
        | refine Chk.mk ⟨rfl, trivial⟩ ?_
        | refine Chk.mk ⟨rfl, rfl, trivial⟩ ?_
        | refine Chk.mk ⟨rfl, rfl, rfl, trivial⟩ ?_
        | refine Chk.mk ⟨rfl, rfl, rfl, rfl, trivial⟩ ?_
        | refine Chk.mk ⟨rfl, rfl, rfl, rfl, rfl, trivial⟩ ?_
        | refine Chk.mk ⟨rfl, rfl, rfl, rfl, rfl, rfl, trivial⟩ ?_)
      conv => whnf
      intro b15
      repeat (first
        | refine LoadD.own 0 rfl _ rfl rfl ?_
        | refine LoadD.own 1 rfl _ rfl rfl ?_
        | refine LoadD.own 2 rfl _ rfl rfl ?_
        | refine LoadD.own 3 rfl _ rfl rfl ?_
        | refine LoadD.own 4 rfl _ rfl rfl ?_
        | refine LoadD.own 5 rfl _ rfl rfl ?_
        | refine LoadP.at 0 rfl _ rfl rfl ?_
        | refine LoadP.at 1 rfl _ rfl rfl ?_
        | refine LoadP.at 2 rfl _ rfl rfl ?_
        | refine LoadP.at 3 rfl _ rfl rfl ?_
        | refine LoadP.at 4 rfl _ rfl rfl ?_
        | refine LoadP.at 5 rfl _ rfl rfl ?_
        | refine StoreD.st 0 rfl rfl rfl ?_
        | refine StoreD.st 1 rfl rfl rfl ?_
        | refine StoreD.st 2 rfl rfl rfl ?_
        | refine StoreD.st 3 rfl rfl rfl ?_
        | refine StoreD.st 4 rfl rfl rfl ?_
        | refine StoreD.st 5 rfl rfl rfl ?_
        | refine CmpD.yes rfl ?_
        | refine CmpD.yes (by decide) ?_
        | refine CmpD.no (by decide) ?_
        | refine Chk.mk ⟨rfl, trivial⟩ ?_
        | refine Chk.mk ⟨rfl, rfl, trivial⟩ ?_
        | refine Chk.mk ⟨rfl, rfl, rfl, trivial⟩ ?_
        | refine Chk.mk ⟨rfl, rfl, rfl, rfl, trivial⟩ ?_
        | refine Chk.mk ⟨rfl, rfl, rfl, rfl, rfl, trivial⟩ ?_
        | refine Chk.mk ⟨rfl, rfl, rfl, rfl, rfl, rfl, trivial⟩ ?_)
      refine CodeF.fixD 4 (ch := chZ) rfl fun I3 hI3 hZm => ?_
      refine CodeF.fixD 3 (ch := chH) rfl fun I4 hI4 hHm => ?_
      have hHR : Rds I4 aH i (hl.map Hs.cell) := Rds.of_own hH hHm
      have hZR : ∀ g ∈ ims, g.len = 4096 ∧ Rds I4 g.a 4096 (bts noughts) := by
        intro g hg
        obtain ⟨bz, e1, e2, hm⟩ := hZ g hg
        refine ⟨e2, by rw [bts_length]; exact noughts_length, .inr ⟨bz, 0, bts noughts, _, _, e1, hI4 _ _ (hZm _ hm), ?_⟩⟩
        rw [List.drop_zero, List.take_of_length_le (by rw [bts_length, noughts_length]; exact Nat.le_refl _)]
      have hJ4 : J2.le I4 := Imm.le_trans hI3 hI4
      have hb4r := (hbJ.mono hJ2).mono hJ4
      clear hZm hHm hin
      have hbe : ∀ k, k < i → (ims[k]?).map Img.blk = some (blkB b k) := by
        intro k hk
        have := congrArg (·[k]?) hblks
        simp only [List.getElem?_map, List.getElem?_range hk, Option.map_some] at this
        exact this
      refine CodeF.loopD [0, 2, 7, 11, 15, 91, 92, 93] (fun vs J' S' => ∃ (k : Nat) (aF : Option Addr) (capF : Nat) (chF : List Blk) (gF : List Img), k ≤ i ∧ gF.length = k ∧ OwnC chF 2 aF k capF (imgCells gF) ∧ gF.map Img.pr = (List.range k).map (fun k => (blkB b k, shoK noughts (hidB b k) 8)) ∧ (∀ g ∈ gF, ImgOk J' g) ∧ I4.le J' ∧
          vs = [.slice (some ⟨bb, bo, none⟩) 4096 cap, .pointer (some ⟨b2, 0, none⟩), .pointer (some ⟨b7, 0, none⟩), .slice aH i capH, .pointer (some ⟨b15, 0, none⟩), .slice aI i capI, .int .i64 i, .int .i64 k] ∧
          S' = [gBox b2 0 0 none 0 0, gBox b7 e s aI i capI, chI, gBox b15 e s aF k capF, chF])
        (fun vs _ _ => match vs with | [_, _, _, _, _, _, _, .int _ k] => ((i : Int) - k).toNat | _ => 0) ?_ ?_
      · exact ⟨_, Drop.and (Drop.pick [0, 1, 2, 5] _ rfl), 0, none, 0, [], [], by omega, rfl, OwnC.nil _ _, rfl, by simp, Imm.le_refl _, rfl, rfl⟩
      rintro vs gE2 J5 S5 hJ5 ⟨k, aF, capF, chF, gF, hk, hfl, hF, hFp, hFo, hle, rfl, rfl⟩
      refine CmpD.split (fun c2 => ?_) (fun c2 => ?_)
      · have hlt : k < ims.length := by omega
        have hcell := imgCells_at hlt
        obtain ⟨hz1, hz2⟩ := hZR _ (List.getElem_mem hlt)
        have hbk := hbe k (by omega)
        rw [List.getElem?_eq_getElem hlt, Option.map_some, Option.some.injEq] at hbk
        obtain ⟨hx, hx1, hx2⟩ := hHs k (by omega)
        have hxc : (hl.map Hs.cell)[k]? = some hx.cell := by rw [List.getElem?_map, hx1]; rfl
        obtain ⟨bI, oI, rfl, hcI⟩ := SlC.cells (hI.slC (I := J5) (S := [gBox b2 0 0 none 0 0, gBox b7 e s aI i capI, chI, gBox b15 e s aF k capF, chF]) 2 rfl) (by omega)
        rcases hHR.mem with q0 | ⟨bH, oH, cH, TH, fH, rfl, hIH, hcH⟩
        · omega
        generalize ims[k] = g at *
        have hbl : blkB b k < 65536 ∧ 0 ≤ blkB b k := by
          have := nb_lt2 (gatK b 8) (6 + 66 * k : Nat)
          unfold blkB; omega
        refine Chk.mk (by omega) ?_
        refine LoadD.mk [.int .i64 g.blk, .slice g.a g.len g.cap] (by have := hcI.part (i := k * 2) (m := 2) (by omega); rw [hcell] at this; exact this) ?_
        conv => whnf
        intro b17
        repeat (first
          | refine LoadD.own 0 rfl _ rfl rfl ?_
          | refine LoadD.own 1 rfl _ rfl rfl ?_
          | refine LoadD.own 2 rfl _ rfl rfl ?_
          | refine LoadD.own 3 rfl _ rfl rfl ?_
          | refine LoadD.own 4 rfl _ rfl rfl ?_
          | refine LoadD.own 5 rfl _ rfl rfl ?_
          | refine LoadP.at 0 rfl _ rfl rfl ?_
          | refine LoadP.at 1 rfl _ rfl rfl ?_
          | refine LoadP.at 2 rfl _ rfl rfl ?_
          | refine LoadP.at 3 rfl _ rfl rfl ?_
          | refine LoadP.at 4 rfl _ rfl rfl ?_
          | refine LoadP.at 5 rfl _ rfl rfl ?_
          | refine StoreD.st 0 rfl rfl rfl ?_
          | refine StoreD.st 1 rfl rfl rfl ?_
          | refine StoreD.st 2 rfl rfl rfl ?_
          | refine StoreD.st 3 rfl rfl rfl ?_
          | refine StoreD.st 4 rfl rfl rfl ?_
          | refine StoreD.st 5 rfl rfl rfl ?_
          | refine CmpD.yes rfl ?_
          | refine CmpD.yes (by decide) ?_
          | refine CmpD.no (by decide) ?_
          | refine Chk.mk ⟨rfl, trivial⟩ ?_
          | refine Chk.mk ⟨rfl, rfl, trivial⟩ ?_
          | refine Chk.mk ⟨rfl, rfl, rfl, trivial⟩ ?_
          | refine Chk.mk ⟨rfl, rfl, rfl, rfl, trivial⟩ ?_
          | refine Chk.mk ⟨rfl, rfl, rfl, rfl, rfl, trivial⟩ ?_
          | refine Chk.mk ⟨rfl, rfl, rfl, rfl, rfl, rfl, trivial⟩ ?_)
        refine CodeF.sched [[], [0], [], [2], [], [4], [], [], [6, 7], [6, 7, 8], [4, 5, 6, 7, 8, 9], [2, 3, 4, 5, 6, 7, 8, 9, 10], [2, 3, 4, 5, 6, 7, 8, 9, 10, 11], [0, 1, 2, 3, 4, 5, 6, 7, 8, 9, 10, 11, 12], [0, 1, 2, 3, 4, 5, 6, 7, 8, 9, 10, 11, 12, 13], [0, 1, 2, 3, 4, 5, 6, 7, 8, 9, 10, 11, 12, 13, 14]] [0, 1, 2, 3, 4, 5, 6, 7, 8, 9, 10, 11, 12, 13, 14, 15] (by kernel_rfl) ?_
        repeat (first
          | refine LoadD.own 0 rfl _ rfl rfl ?_
          | refine LoadD.own 1 rfl _ rfl rfl ?_
          | refine LoadD.own 2 rfl _ rfl rfl ?_
          | refine LoadD.own 3 rfl _ rfl rfl ?_
          | refine LoadD.own 4 rfl _ rfl rfl ?_
          | refine LoadD.own 5 rfl _ rfl rfl ?_
          | refine LoadP.at 0 rfl _ rfl rfl ?_
          | refine LoadP.at 1 rfl _ rfl rfl ?_
          | refine LoadP.at 2 rfl _ rfl rfl ?_
          | refine LoadP.at 3 rfl _ rfl rfl ?_
          | refine LoadP.at 4 rfl _ rfl rfl ?_
          | refine LoadP.at 5 rfl _ rfl rfl ?_
          | refine StoreD.st 0 rfl rfl rfl ?_
          | refine StoreD.st 1 rfl rfl rfl ?_
          | refine StoreD.st 2 rfl rfl rfl ?_
          | refine StoreD.st 3 rfl rfl rfl ?_
          | refine StoreD.st 4 rfl rfl rfl ?_
          | refine StoreD.st 5 rfl rfl rfl ?_
          | refine CmpD.yes rfl ?_
          | refine CmpD.yes (by decide) ?_
          | refine CmpD.no (by decide) ?_
          | refine Chk.mk ⟨rfl, trivial⟩ ?_
          | refine Chk.mk ⟨rfl, rfl, trivial⟩ ?_
          | refine Chk.mk ⟨rfl, rfl, rfl, trivial⟩ ?_
          | refine Chk.mk ⟨rfl, rfl, rfl, rfl, trivial⟩ ?_
          | refine Chk.mk ⟨rfl, rfl, rfl, rfl, rfl, trivial⟩ ?_
          | refine Chk.mk ⟨rfl, rfl, rfl, rfl, rfl, rfl, trivial⟩ ?_)
        refine Chk.mk (by omega) ?_
        refine LoadP.imm [hx.cell] ⟨cH, TH, fH, .imm (hle _ _ hIH), take_get hcH hxc, rfl⟩ ?_
        rw [hz1]
        refine Tri.free (shown_fix J5 g.a g.cap noughts (hz2.mono hle) hx.b hx.off hx.cap (hidB b k) (hx2.2.mono (Imm.le_trans hJ4 hle)) hx2.1) ?_
        rintro v J6 _ hJ6 ⟨a6, cap6, rfl, h6⟩
        repeat (first
          | refine LoadD.own 0 rfl _ rfl rfl ?_
          | refine LoadD.own 1 rfl _ rfl rfl ?_
          | refine LoadD.own 2 rfl _ rfl rfl ?_
          | refine LoadD.own 3 rfl _ rfl rfl ?_
          | refine LoadD.own 4 rfl _ rfl rfl ?_
          | refine LoadD.own 5 rfl _ rfl rfl ?_
          | refine LoadP.at 0 rfl _ rfl rfl ?_
          | refine LoadP.at 1 rfl _ rfl rfl ?_
          | refine LoadP.at 2 rfl _ rfl rfl ?_
          | refine LoadP.at 3 rfl _ rfl rfl ?_
          | refine LoadP.at 4 rfl _ rfl rfl ?_
          | refine LoadP.at 5 rfl _ rfl rfl ?_
          | refine StoreD.st 0 rfl rfl rfl ?_
          | refine StoreD.st 1 rfl rfl rfl ?_
          | refine StoreD.st 2 rfl rfl rfl ?_
          | refine StoreD.st 3 rfl rfl rfl ?_
          | refine StoreD.st 4 rfl rfl rfl ?_
          | refine StoreD.st 5 rfl rfl rfl ?_
          | refine CmpD.yes rfl ?_
          | refine CmpD.yes (by decide) ?_
          | refine CmpD.no (by decide) ?_
          | refine Chk.mk ⟨rfl, trivial⟩ ?_
          | refine Chk.mk ⟨rfl, rfl, trivial⟩ ?_
          | refine Chk.mk ⟨rfl, rfl, rfl, trivial⟩ ?_
          | refine Chk.mk ⟨rfl, rfl, rfl, rfl, trivial⟩ ?_
          | refine Chk.mk ⟨rfl, rfl, rfl, rfl, rfl, trivial⟩ ?_
          | refine Chk.mk ⟨rfl, rfl, rfl, rfl, rfl, rfl, trivial⟩ ?_)
        conv => whnf
        intro bN
        repeat (first
          | refine LoadD.own 0 rfl _ rfl rfl ?_
          | refine LoadD.own 1 rfl _ rfl rfl ?_
          | refine LoadD.own 2 rfl _ rfl rfl ?_
          | refine LoadD.own 3 rfl _ rfl rfl ?_
          | refine LoadD.own 4 rfl _ rfl rfl ?_
          | refine LoadD.own 5 rfl _ rfl rfl ?_
          | refine LoadP.at 0 rfl _ rfl rfl ?_
          | refine LoadP.at 1 rfl _ rfl rfl ?_
          | refine LoadP.at 2 rfl _ rfl rfl ?_
          | refine LoadP.at 3 rfl _ rfl rfl ?_
          | refine LoadP.at 4 rfl _ rfl rfl ?_
          | refine LoadP.at 5 rfl _ rfl rfl ?_
          | refine StoreD.st 0 rfl rfl rfl ?_
          | refine StoreD.st 1 rfl rfl rfl ?_
          | refine StoreD.st 2 rfl rfl rfl ?_
          | refine StoreD.st 3 rfl rfl rfl ?_
          | refine StoreD.st 4 rfl rfl rfl ?_
          | refine StoreD.st 5 rfl rfl rfl ?_
          | refine CmpD.yes rfl ?_
          | refine CmpD.yes (by decide) ?_
          | refine CmpD.no (by decide) ?_
          | refine Chk.mk ⟨rfl, trivial⟩ ?_
          | refine Chk.mk ⟨rfl, rfl, trivial⟩ ?_
          | refine Chk.mk ⟨rfl, rfl, rfl, trivial⟩ ?_
          | refine Chk.mk ⟨rfl, rfl, rfl, rfl, trivial⟩ ?_
          | refine Chk.mk ⟨rfl, rfl, rfl, rfl, rfl, trivial⟩ ?_
          | refine Chk.mk ⟨rfl, rfl, rfl, rfl, rfl, rfl, trivial⟩ ?_)
        refine appendD tabOk rfl rfl rfl rfl rfl rfl rfl 4 rfl hF (SrcOk.slice (n := 1) (news := imgCells [⟨g.blk, a6, 4096, cap6, shoK noughts (hidB b k) 8⟩]) tabOk rfl ((OwnC.whole (len := 1) (size := 2) rfl).slC 6 rfl) (by intro v hv; simp [imgCells] at hv; rcases hv with rfl | rfl <;> rfl)) rfl (by show (k + 1) * 32 ≤ _; omega) (by omega) ?_
        intro aF2 capF2 chF2 hF2
        repeat (first
          | refine LoadD.own 0 rfl _ rfl rfl ?_
          | refine LoadD.own 1 rfl _ rfl rfl ?_
          | refine LoadD.own 2 rfl _ rfl rfl ?_
          | refine LoadD.own 3 rfl _ rfl rfl ?_
          | refine LoadD.own 4 rfl _ rfl rfl ?_
          | refine LoadD.own 5 rfl _ rfl rfl ?_
          | refine LoadP.at 0 rfl _ rfl rfl ?_
          | refine LoadP.at 1 rfl _ rfl rfl ?_
          | refine LoadP.at 2 rfl _ rfl rfl ?_
          | refine LoadP.at 3 rfl _ rfl rfl ?_
          | refine LoadP.at 4 rfl _ rfl rfl ?_
          | refine LoadP.at 5 rfl _ rfl rfl ?_
          | refine StoreD.st 0 rfl rfl rfl ?_
          | refine StoreD.st 1 rfl rfl rfl ?_
          | refine StoreD.st 2 rfl rfl rfl ?_
          | refine StoreD.st 3 rfl rfl rfl ?_
          | refine StoreD.st 4 rfl rfl rfl ?_
          | refine StoreD.st 5 rfl rfl rfl ?_
          | refine CmpD.yes rfl ?_
          | refine CmpD.yes (by decide) ?_
          | refine CmpD.no (by decide) ?_
          | refine Chk.mk ⟨rfl, trivial⟩ ?_
          | refine Chk.mk ⟨rfl, rfl, trivial⟩ ?_
          | refine Chk.mk ⟨rfl, rfl, rfl, trivial⟩ ?_
          | refine Chk.mk ⟨rfl, rfl, rfl, rfl, trivial⟩ ?_
          | refine Chk.mk ⟨rfl, rfl, rfl, rfl, rfl, trivial⟩ ?_
          | refine Chk.mk ⟨rfl, rfl, rfl, rfl, rfl, rfl, trivial⟩ ?_)
        refine ToD.i64 (by omega) (by omega) ?_
        refine ⟨_, Drop.pick [0, 1, 2, 3, 4] _ rfl, ⟨k + 1, aF2, capF2, chF2, gF ++ [⟨g.blk, a6, 4096, cap6, shoK noughts (hidB b k) 8⟩], by omega, by simp [hfl], by rw [imgCells_snoc]; exact hF2, ?_, ?_, Imm.le_trans hle hJ6, rfl, rfl⟩, ?_⟩
        · rw [List.map_append, hFp, List.range_succ, List.map_append]
          show _ ++ [(g.blk, shoK noughts (hidB b k) 8)] = _ ++ [(blkB b k, shoK noughts (hidB b k) 8)]
          rw [hbk]
        · intro y hy
          rcases List.mem_append.1 hy with hy | hy
          · exact (hFo y hy).mono hJ6
          · simp only [List.mem_singleton] at hy
            subst hy
            exact ⟨by show In64 g.blk; rw [hbk]; unfold In64; omega, h6⟩
        · show ((i : Int) - ((k : Int) + 1)).toNat < ((i : Int) - k).toNat; omega
      · obtain rfl : k = i := by omega
        repeat (first
          | refine LoadD.own 0 rfl _ rfl rfl ?_
          | refine LoadD.own 1 rfl _ rfl rfl ?_
          | refine LoadD.own 2 rfl _ rfl rfl ?_
          | refine LoadD.own 3 rfl _ rfl rfl ?_
          | refine LoadD.own 4 rfl _ rfl rfl ?_
          | refine LoadD.own 5 rfl _ rfl rfl ?_
          | refine LoadP.at 0 rfl _ rfl rfl ?_
          | refine LoadP.at 1 rfl _ rfl rfl ?_
          | refine LoadP.at 2 rfl _ rfl rfl ?_
          | refine LoadP.at 3 rfl _ rfl rfl ?_
          | refine LoadP.at 4 rfl _ rfl rfl ?_
          | refine LoadP.at 5 rfl _ rfl rfl ?_
          | refine StoreD.st 0 rfl rfl rfl ?_
          | refine StoreD.st 1 rfl rfl rfl ?_
          | refine StoreD.st 2 rfl rfl rfl ?_
          | refine StoreD.st 3 rfl rfl rfl ?_
          | refine StoreD.st 4 rfl rfl rfl ?_
          | refine StoreD.st 5 rfl rfl rfl ?_
          | refine CmpD.yes rfl ?_
          | refine CmpD.yes (by decide) ?_
          | refine CmpD.no (by decide) ?_
          | refine Chk.mk ⟨rfl, trivial⟩ ?_
          | refine Chk.mk ⟨rfl, rfl, trivial⟩ ?_
          | refine Chk.mk ⟨rfl, rfl, rfl, trivial⟩ ?_
          | refine Chk.mk ⟨rfl, rfl, rfl, rfl, trivial⟩ ?_
          | refine Chk.mk ⟨rfl, rfl, rfl, rfl, rfl, trivial⟩ ?_
          | refine Chk.mk ⟨rfl, rfl, rfl, rfl, rfl, rfl, trivial⟩ ?_)
        have hFi : gF.map Img.pr = imsB b := by rw [hFp, imsB, ← hc]
        refine Tri.fix 4 (ch := chF) rfl fun I7 hI7 hFm => ?_
        have hFok : ImgsOk I7 aF gF := ⟨by have := Rds.of_ownS hF hFm; rw [hfl]; exact this, fun g hg => (hFo g hg).mono hI7⟩
        have hput := put_of e s ⟨by unfold In64; omega, by unfold In64; omega⟩ aF capF gF I7 hFok (by omega)
        rw [hfl, hFi] at hput
        refine Tri.free hput ?_
        rintro v J8 _ hJ8 (⟨hR, rfl⟩ | ⟨hR, aO, capO, bs, rfl, hO, hOd, hOk⟩)
        · repeat (first
            | refine LoadD.own 0 rfl _ rfl rfl ?_
            | refine LoadD.own 1 rfl _ rfl rfl ?_
            | refine LoadD.own 2 rfl _ rfl rfl ?_
            | refine LoadD.own 3 rfl _ rfl rfl ?_
            | refine LoadD.own 4 rfl _ rfl rfl ?_
            | refine LoadD.own 5 rfl _ rfl rfl ?_
            | refine LoadP.at 0 rfl _ rfl rfl ?_
            | refine LoadP.at 1 rfl _ rfl rfl ?_
            | refine LoadP.at 2 rfl _ rfl rfl ?_
            | refine LoadP.at 3 rfl _ rfl rfl ?_
            | refine LoadP.at 4 rfl _ rfl rfl ?_
            | refine LoadP.at 5 rfl _ rfl rfl ?_
            | refine StoreD.st 0 rfl rfl rfl ?_
            | refine StoreD.st 1 rfl rfl rfl ?_
            | refine StoreD.st 2 rfl rfl rfl ?_
            | refine StoreD.st 3 rfl rfl rfl ?_
            | refine StoreD.st 4 rfl rfl rfl ?_
            | refine StoreD.st 5 rfl rfl rfl ?_
            | refine CmpD.yes rfl ?_
            | refine CmpD.yes (by decide) ?_
            | refine CmpD.no (by decide) ?_
            | refine Chk.mk ⟨rfl, trivial⟩ ?_
            | refine Chk.mk ⟨rfl, rfl, trivial⟩ ?_
            | refine Chk.mk ⟨rfl, rfl, rfl, trivial⟩ ?_
            | refine Chk.mk ⟨rfl, rfl, rfl, rfl, trivial⟩ ?_
            | refine Chk.mk ⟨rfl, rfl, rfl, rfl, rfl, trivial⟩ ?_
            | refine Chk.mk ⟨rfl, rfl, rfl, rfl, rfl, rfl, trivial⟩ ?_)
          refine CodeF.sched [[], [], [], [2], [2, 3], [2, 3, 4], [2, 3, 4, 5], [2, 3, 4, 5, 6], [2, 3, 4], [2, 3, 4, 5, 6, 7, 8], [2, 3, 4, 5, 6, 7, 8, 9], [0, 2, 3, 4, 5, 6, 7, 8, 9], [0, 1, 2, 3, 4, 5, 6, 7, 8, 9, 11], [0, 1, 2, 3, 4, 5, 6, 7, 8, 9, 10, 11, 12]] [0, 1, 2, 3, 4, 5, 6, 7, 8, 9, 10, 11, 12, 13] (by kernel_rfl) ?_
          repeat (first
            | refine LoadD.own 0 rfl _ rfl rfl ?_
            | refine LoadD.own 1 rfl _ rfl rfl ?_
            | refine LoadD.own 2 rfl _ rfl rfl ?_
            | refine LoadD.own 3 rfl _ rfl rfl ?_
            | refine LoadD.own 4 rfl _ rfl rfl ?_
            | refine LoadD.own 5 rfl _ rfl rfl ?_
            | refine LoadP.at 0 rfl _ rfl rfl ?_
            | refine LoadP.at 1 rfl _ rfl rfl ?_
            | refine LoadP.at 2 rfl _ rfl rfl ?_
            | refine LoadP.at 3 rfl _ rfl rfl ?_
            | refine LoadP.at 4 rfl _ rfl rfl ?_
            | refine LoadP.at 5 rfl _ rfl rfl ?_
            | refine StoreD.st 0 rfl rfl rfl ?_
            | refine StoreD.st 1 rfl rfl rfl ?_
            | refine StoreD.st 2 rfl rfl rfl ?_
            | refine StoreD.st 3 rfl rfl rfl ?_
            | refine StoreD.st 4 rfl rfl rfl ?_
            | refine StoreD.st 5 rfl rfl rfl ?_
            | refine CmpD.yes rfl ?_
            | refine CmpD.yes (by decide) ?_
            | refine CmpD.no (by decide) ?_
            | refine Chk.mk ⟨rfl, trivial⟩ ?_
            | refine Chk.mk ⟨rfl, rfl, trivial⟩ ?_
            | refine Chk.mk ⟨rfl, rfl, rfl, trivial⟩ ?_
            | refine Chk.mk ⟨rfl, rfl, rfl, rfl, trivial⟩ ?_
            | refine Chk.mk ⟨rfl, rfl, rfl, rfl, rfl, trivial⟩ ?_
            | refine Chk.mk ⟨rfl, rfl, rfl, rfl, rfl, rfl, trivial⟩ ?_)
          refine Done.mk ⟨[[]], Drop.pick [] _ rfl |>.trans (Drop.flat rfl), .inl ⟨?_, _, _, _, _, _, _, _, _, rfl, rfl⟩⟩
          unfold hdP
          rw [if_neg (fun h' => hR (by rw [he, hs]; exact h'.1))]
        · rcases hO.mem with q0 | ⟨bO, oO, cO, TO, fO, rfl, hIO, hcO⟩
          · omega
          repeat (first
            | refine LoadD.own 0 rfl _ rfl rfl ?_
            | refine LoadD.own 1 rfl _ rfl rfl ?_
            | refine LoadD.own 2 rfl _ rfl rfl ?_
            | refine LoadD.own 3 rfl _ rfl rfl ?_
            | refine LoadD.own 4 rfl _ rfl rfl ?_
            | refine LoadD.own 5 rfl _ rfl rfl ?_
            | refine LoadP.at 0 rfl _ rfl rfl ?_
            | refine LoadP.at 1 rfl _ rfl rfl ?_
            | refine LoadP.at 2 rfl _ rfl rfl ?_
            | refine LoadP.at 3 rfl _ rfl rfl ?_
            | refine LoadP.at 4 rfl _ rfl rfl ?_
            | refine LoadP.at 5 rfl _ rfl rfl ?_
            | refine StoreD.st 0 rfl rfl rfl ?_
            | refine StoreD.st 1 rfl rfl rfl ?_
            | refine StoreD.st 2 rfl rfl rfl ?_
            | refine StoreD.st 3 rfl rfl rfl ?_
            | refine StoreD.st 4 rfl rfl rfl ?_
            | refine StoreD.st 5 rfl rfl rfl ?_
            | refine CmpD.yes rfl ?_
            | refine CmpD.yes (by decide) ?_
            | refine CmpD.no (by decide) ?_
            | refine Chk.mk ⟨rfl, trivial⟩ ?_
            | refine Chk.mk ⟨rfl, rfl, trivial⟩ ?_
            | refine Chk.mk ⟨rfl, rfl, rfl, trivial⟩ ?_
            | refine Chk.mk ⟨rfl, rfl, rfl, rfl, trivial⟩ ?_
            | refine Chk.mk ⟨rfl, rfl, rfl, rfl, rfl, trivial⟩ ?_
            | refine Chk.mk ⟨rfl, rfl, rfl, rfl, rfl, rfl, trivial⟩ ?_)
          refine CodeF.sched [[], [], [], [2], [2, 3], [2, 3, 4], [2, 3, 4, 5], [2, 3, 4, 5, 6], [2, 3, 4], [2, 3, 4, 5, 6, 7, 8], [2, 3, 4, 5, 6, 7, 8, 9], [0, 2, 3, 4, 5, 6, 7, 8, 9], [0, 1, 2, 3, 4, 5, 6, 7, 8, 9, 11], [0, 1, 2, 3, 4, 5, 6, 7, 8, 9, 10, 11, 12]] [0, 1, 2, 3, 4, 5, 6, 7, 8, 9, 10, 11, 12, 13] (by kernel_rfl) ?_
          repeat (first
            | refine LoadD.own 0 rfl _ rfl rfl ?_
            | refine LoadD.own 1 rfl _ rfl rfl ?_
            | refine LoadD.own 2 rfl _ rfl rfl ?_
            | refine LoadD.own 3 rfl _ rfl rfl ?_
            | refine LoadD.own 4 rfl _ rfl rfl ?_
            | refine LoadD.own 5 rfl _ rfl rfl ?_
            | refine LoadP.at 0 rfl _ rfl rfl ?_
            | refine LoadP.at 1 rfl _ rfl rfl ?_
            | refine LoadP.at 2 rfl _ rfl rfl ?_
            | refine LoadP.at 3 rfl _ rfl rfl ?_
            | refine LoadP.at 4 rfl _ rfl rfl ?_
            | refine LoadP.at 5 rfl _ rfl rfl ?_
            | refine StoreD.st 0 rfl rfl rfl ?_
            | refine StoreD.st 1 rfl rfl rfl ?_
            | refine StoreD.st 2 rfl rfl rfl ?_
            | refine StoreD.st 3 rfl rfl rfl ?_
            | refine StoreD.st 4 rfl rfl rfl ?_
            | refine StoreD.st 5 rfl rfl rfl ?_
            | refine CmpD.yes rfl ?_
            | refine CmpD.yes (by decide) ?_
            | refine CmpD.no (by decide) ?_
            | refine Chk.mk ⟨rfl, trivial⟩ ?_
            | refine Chk.mk ⟨rfl, rfl, trivial⟩ ?_
            | refine Chk.mk ⟨rfl, rfl, rfl, trivial⟩ ?_
            | refine Chk.mk ⟨rfl, rfl, rfl, rfl, trivial⟩ ?_
            | refine Chk.mk ⟨rfl, rfl, rfl, rfl, rfl, trivial⟩ ?_
            | refine Chk.mk ⟨rfl, rfl, rfl, rfl, rfl, rfl, trivial⟩ ?_)
          refine Chk.mk (by omega) ?_
          obtain ⟨b0, bs', rfl⟩ : ∃ b0 bs', bs = b0 :: bs' := by
            cases bs with
            | nil => simp [putP] at hOd
            | cons b0 bs' => exact ⟨b0, bs', rfl⟩
          have hb0d : b0.data = hblk e s (imsB b) := by
            have := congrArg (·[0]?) hOd
            simpa [putP_eq] using this
          have hb0 := hOk b0 (by simp)
          refine LoadP.imm [b0.cell] ⟨cO, TO, fO, .imm hIO, take_get (i := 0) hcO rfl, rfl⟩ ?_
          refine Tri.nf (bytes_Equal (Rds.slC hb0) (hb4r.mono (Imm.le_trans hle (Imm.le_trans hI7 hJ8))).slC) ?_
          rintro v _ _ _ ⟨rfl, rfl, rfl⟩
          by_cases heq : b0.data = b
          · rw [decide_eq_true heq]
            repeat (first
              | refine LoadD.own 0 rfl _ rfl rfl ?_
              | refine LoadD.own 1 rfl _ rfl rfl ?_
              | refine LoadD.own 2 rfl _ rfl rfl ?_
              | refine LoadD.own 3 rfl _ rfl rfl ?_
              | refine LoadD.own 4 rfl _ rfl rfl ?_
              | refine LoadD.own 5 rfl _ rfl rfl ?_
              | refine LoadP.at 0 rfl _ rfl rfl ?_
              | refine LoadP.at 1 rfl _ rfl rfl ?_
              | refine LoadP.at 2 rfl _ rfl rfl ?_
              | refine LoadP.at 3 rfl _ rfl rfl ?_
              | refine LoadP.at 4 rfl _ rfl rfl ?_
              | refine LoadP.at 5 rfl _ rfl rfl ?_
              | refine StoreD.st 0 rfl rfl rfl ?_
              | refine StoreD.st 1 rfl rfl rfl ?_
              | refine StoreD.st 2 rfl rfl rfl ?_
              | refine StoreD.st 3 rfl rfl rfl ?_
              | refine StoreD.st 4 rfl rfl rfl ?_
              | refine StoreD.st 5 rfl rfl rfl ?_
              | refine CmpD.yes rfl ?_
              | refine CmpD.yes (by decide) ?_
              | refine CmpD.no (by decide) ?_
              | refine Chk.mk ⟨rfl, trivial⟩ ?_
              | refine Chk.mk ⟨rfl, rfl, trivial⟩ ?_
              | refine Chk.mk ⟨rfl, rfl, rfl, trivial⟩ ?_
              | refine Chk.mk ⟨rfl, rfl, rfl, rfl, trivial⟩ ?_
              | refine Chk.mk ⟨rfl, rfl, rfl, rfl, rfl, trivial⟩ ?_
              | refine Chk.mk ⟨rfl, rfl, rfl, rfl, rfl, rfl, trivial⟩ ?_)
            have hsome : hdP b = some (hbE b, hbS b, imsB b) := by
              unfold hdP
              rw [if_pos ⟨by rw [← he, ← hs]; exact hR, by rw [← he, ← hs, ← hb0d]; exact heq⟩]
            rw [← he, ← hs] at hsome
            refine Done.mk ⟨[chI], Drop.pick [2] _ rfl, ?_⟩
            rw [← he, ← hs, ← hc]
            refine .inr ⟨hsome, aI, capI, chI, ims, aH, capH, hl, rfl, hI, hblks, hHR.mono (Imm.le_trans hle (Imm.le_trans hI7 hJ8)), fun k hk => ?_, rfl⟩
            obtain ⟨x, h1, h2⟩ := hHs k hk
            exact ⟨x, h1, h2.mono (Imm.le_trans hJ4 (Imm.le_trans hle (Imm.le_trans hI7 hJ8)))⟩
          · rw [decide_eq_false heq]
            repeat (first
              | refine LoadD.own 0 rfl _ rfl rfl ?_
              | refine LoadD.own 1 rfl _ rfl rfl ?_
              | refine LoadD.own 2 rfl _ rfl rfl ?_
              | refine LoadD.own 3 rfl _ rfl rfl ?_
              | refine LoadD.own 4 rfl _ rfl rfl ?_
              | refine LoadD.own 5 rfl _ rfl rfl ?_
              | refine LoadP.at 0 rfl _ rfl rfl ?_
              | refine LoadP.at 1 rfl _ rfl rfl ?_
              | refine LoadP.at 2 rfl _ rfl rfl ?_
              | refine LoadP.at 3 rfl _ rfl rfl ?_
              | refine LoadP.at 4 rfl _ rfl rfl ?_
              | refine LoadP.at 5 rfl _ rfl rfl ?_
              | refine StoreD.st 0 rfl rfl rfl ?_
              | refine StoreD.st 1 rfl rfl rfl ?_
              | refine StoreD.st 2 rfl rfl rfl ?_
              | refine StoreD.st 3 rfl rfl rfl ?_
              | refine StoreD.st 4 rfl rfl rfl ?_
              | refine StoreD.st 5 rfl rfl rfl ?_
              | refine CmpD.yes rfl ?_
              | refine CmpD.yes (by decide) ?_
              | refine CmpD.no (by decide) ?_
              | refine Chk.mk ⟨rfl, trivial⟩ ?_
              | refine Chk.mk ⟨rfl, rfl, trivial⟩ ?_
              | refine Chk.mk ⟨rfl, rfl, rfl, trivial⟩ ?_
              | refine Chk.mk ⟨rfl, rfl, rfl, rfl, trivial⟩ ?_
              | refine Chk.mk ⟨rfl, rfl, rfl, rfl, rfl, trivial⟩ ?_
              | refine Chk.mk ⟨rfl, rfl, rfl, rfl, rfl, rfl, trivial⟩ ?_)
            refine Done.mk ⟨[[]], Drop.pick [] _ rfl |>.trans (Drop.flat rfl), .inl ⟨?_, _, _, _, _, _, _, _, _, rfl, rfl⟩⟩
            unfold hdP
            rw [if_neg (fun h' => heq (by rw [hb0d, he, hs]; exact h'.2))]
end Go.Proofs.Ytbpdbgcndfcilaa
namespace Go.Proofs.Ytbpdbgcndfcilaa
open Go.RowKit Go.Sl
set_option maxRecDepth 20000

theorem imgCells_set (gs : List Img) (i : Nat) (hi : i < gs.length) (g : Img) (hb : g.blk = gs[i].blk) : (imgCells gs).take (i * 2 + 1) ++ [.slice g.a g.len g.cap] ++ (imgCells gs).drop (i * 2 + 1 + 1) = imgCells (gs.set i g) := by
  induction gs generalizing i with
  | nil => simp at hi
  | cons x gs ih =>
    have e : ∀ (y : Img) (l : List Img), imgCells (y :: l) = .int .i64 y.blk :: .slice y.a y.len y.cap :: imgCells l := fun y l => by simp [imgCells]
    cases i with
    | zero =>
      simp only [List.getElem_cons_zero] at hb
      rw [e, List.set_cons_zero, e, hb]; simp
    | succ i =>
      simp only [List.getElem_cons_succ] at hb
      have := ih i (by simpa using hi) hb
      rw [e, List.set_cons_succ, e, ← this, show (i + 1) * 2 + 1 = (i * 2 + 1) + 2 by omega, show (i * 2 + 1) + 2 + 1 = (i * 2 + 1 + 1) + 2 by omega]
      rfl
set_option maxHeartbeats 4000000 in
theorem record_Get (I : Imm) (aL : Option Addr) (n capL : Nat) (bks : List Bk) (hn : n ≤ 1000000) (h : Rds I aL n (bks.map Bk.cell)) (hcap : n ≤ capL) (hok : ∀ x ∈ bks, BkOk I x ∧ 4096 ≤ x.cap) :
    Tri Try.prog 55 #[.slice aL n capL] I [] fun v J _ =>
      (getP (bks.map Bk.data) = none ∧ v = .tuple #[.agg #[.int .i64 0, .int .i64 0, .slice none 0 0], .int .i64 80]) ∨
      (∃ e s l, getP (bks.map Bk.data) = some (e, s, l) ∧ ∃ aI capI gs, v = .tuple #[.agg #[.int .i64 (e : Nat), .int .i64 (s : Nat), .slice aI gs.length capI], .int .i64 0] ∧ ImgsOk J aI gs ∧ gs.map Img.pr = l) := by
  refine Tri.fixed (Q := fun v J S' => ∃ chI, S' = [chI] ∧
      ((getP (bks.map Bk.data) = none ∧ v = .tuple #[.agg #[.int .i64 0, .int .i64 0, .slice none 0 0], .int .i64 80]) ∨
      (∃ e s l, getP (bks.map Bk.data) = some (e, s, l) ∧ ∃ aI capI gs, v = .tuple #[.agg #[.int .i64 (e : Nat), .int .i64 (s : Nat), .slice aI gs.length capI], .int .i64 0] ∧ OwnC chI 2 aI gs.length capI (imgCells gs) ∧ (∀ g ∈ gs, ImgOk J g) ∧ gs.map Img.pr = l))) ?_ ?_
  rotate_left
  · rintro v J S' hJ ⟨chI, rfl, h⟩
    refine ⟨0, chI, rfl, fun J' hJ' hm => ?_⟩
    rcases h with h | ⟨e, s, l, h1, aI, capI, gs, rfl, hO, hk, hp⟩
    · exact .inl h
    · exact .inr ⟨e, s, l, h1, aI, capI, gs, rfl, ⟨Rds.of_ownS hO hm, fun g hg => (hk g hg).mono hJ'⟩, hp⟩
  have hl : bks.length = n := by have := h.len; rwa [List.length_map] at this
  refine Tri.drop ?_ (fun _ _ _ _ h => h)
  refine Tri.of (args := [.slice aL n capL]) tabOk Try.func55 rfl (by kernel_rfl) (by kernel_rfl) ?_
  conv => whnf
  intro b2
  have bad : ∀ (J : Imm) (S : St), getP (bks.map Bk.data) = none → ∃ S'', Drop S S'' ∧ ∃ chI, S'' = [chI] ∧
      ((getP (bks.map Bk.data) = none ∧ Value.tuple #[.agg #[.int .i64 0, .int .i64 0, .slice none 0 0], .int .i64 80] = .tuple #[.agg #[.int .i64 0, .int .i64 0, .slice none 0 0], .int .i64 80]) ∨
      (∃ e s l, getP (bks.map Bk.data) = some (e, s, l) ∧ ∃ aI capI gs, Value.tuple #[.agg #[.int .i64 0, .int .i64 0, .slice none 0 0], .int .i64 80] = .tuple #[.agg #[.int .i64 (e : Nat), .int .i64 (s : Nat), .slice aI gs.length capI], .int .i64 0] ∧ OwnC chI 2 aI gs.length capI (imgCells gs) ∧ (∀ g ∈ gs, ImgOk J g) ∧ gs.map Img.pr = l)) :=
    fun J S hg => ⟨[[]], (Drop.pick [] _ rfl).trans (Drop.flat rfl), [], rfl, .inl ⟨hg, rfl⟩⟩
  refine CmpD.split (fun c0 => ?_) (fun c0 => ?_)
  · repeat (first
      | refine LoadD.own 0 rfl _ rfl rfl ?_
      | refine LoadD.own 1 rfl _ rfl rfl ?_
      | refine LoadD.own 2 rfl _ rfl rfl ?_
      | refine LoadP.at 0 rfl _ rfl rfl ?_
      | refine LoadP.at 1 rfl _ rfl rfl ?_
      | refine LoadP.at 2 rfl _ rfl rfl ?_
      | refine StoreD.st 0 rfl rfl rfl ?_
      | refine StoreD.st 1 rfl rfl rfl ?_
      | refine StoreD.st 2 rfl rfl rfl ?_
      | refine CmpD.yes rfl ?_
      | refine CmpD.yes (by decide) ?_
      | refine CmpD.no (by decide) ?_
      | refine Chk.mk ⟨rfl, trivial⟩ ?_
      | refine Chk.mk ⟨rfl, rfl, trivial⟩ ?_
      | refine Chk.mk ⟨rfl, rfl, rfl, trivial⟩ ?_
      | refine Chk.mk ⟨rfl, rfl, rfl, rfl, trivial⟩ ?_
      | refine Chk.mk ⟨rfl, rfl, rfl, rfl, rfl, trivial⟩ ?_
      | refine Chk.mk ⟨rfl, rfl, rfl, rfl, rfl, rfl, trivial⟩ ?_)
    refine Done.mk (bad _ _ ?_)
    have : bks = [] := List.length_eq_zero_iff.1 (by omega)
    rw [this]; rfl
  rcases h.mem with q0 | ⟨bA, oA, cA, TA, fA, rfl, hIA, hcA⟩
  · omega
  obtain ⟨k0, rest, rfl⟩ : ∃ k0 rest, bks = k0 :: rest := by
    cases bks with
    | nil => simp at hl; omega
    | cons k0 rest => exact ⟨k0, rest, rfl⟩
  have hk0 := hok k0 (by simp)
  have hrest : ∀ x ∈ rest, BkOk I x ∧ 4096 ≤ x.cap := fun x hx => hok x (by simp [hx])
  have hrl : rest.length + 1 = n := by simpa using hl
  repeat (first
    | refine LoadD.own 0 rfl _ rfl rfl ?_
    | refine LoadD.own 1 rfl _ rfl rfl ?_
    | refine LoadD.own 2 rfl _ rfl rfl ?_
    | refine LoadP.at 0 rfl _ rfl rfl ?_
    | refine LoadP.at 1 rfl _ rfl rfl ?_
    | refine LoadP.at 2 rfl _ rfl rfl ?_
    | refine StoreD.st 0 rfl rfl rfl ?_
    | refine StoreD.st 1 rfl rfl rfl ?_
    | refine StoreD.st 2 rfl rfl rfl ?_
    | refine CmpD.yes rfl ?_
    | refine CmpD.yes (by decide) ?_
    | refine CmpD.no (by decide) ?_
    | refine Chk.mk ⟨rfl, trivial⟩ ?_
    | refine Chk.mk ⟨rfl, rfl, trivial⟩ ?_
    | refine Chk.mk ⟨rfl, rfl, rfl, trivial⟩ ?_
    | refine Chk.mk ⟨rfl, rfl, rfl, rfl, trivial⟩ ?_
    | refine Chk.mk ⟨rfl, rfl, rfl, rfl, rfl, trivial⟩ ?_
    | refine Chk.mk ⟨rfl, rfl, rfl, rfl, rfl, rfl, trivial⟩ ?_)
  refine Chk.mk (by omega) ?_
  refine LoadD.imm hIA [k0.cell] (take_get (i := 0) hcA rfl) rfl ?_
  refine Tri.frame (record_head I k0.a 4096 k0.cap k0.data hk0.1 hk0.2 (by omega)) [] rfl rfl ?_
  rintro v J1 A' hJ1 (⟨hnone, x, y, aI, m, capI, aH, m2, capH, rfl, rfl⟩ | ⟨hsome, aI, capI, chI, ims, aH, capH, hs, rfl, hI, hblks, hH, hHs, rfl⟩)
  · refine ⟨by simp, ?_⟩
    conv => whnf
    intro b4
    repeat (first
      | refine LoadD.own 0 rfl _ rfl rfl ?_
      | refine LoadD.own 1 rfl _ rfl rfl ?_
      | refine LoadD.own 2 rfl _ rfl rfl ?_
      | refine LoadP.at 0 rfl _ rfl rfl ?_
      | refine LoadP.at 1 rfl _ rfl rfl ?_
      | refine LoadP.at 2 rfl _ rfl rfl ?_
      | refine StoreD.st 0 rfl rfl rfl ?_
      | refine StoreD.st 1 rfl rfl rfl ?_
      | refine StoreD.st 2 rfl rfl rfl ?_
      | refine CmpD.yes rfl ?_
      | refine CmpD.yes (by decide) ?_
      | refine CmpD.no (by decide) ?_
      | refine Chk.mk ⟨rfl, trivial⟩ ?_
      | refine Chk.mk ⟨rfl, rfl, trivial⟩ ?_
      | refine Chk.mk ⟨rfl, rfl, rfl, trivial⟩ ?_
      | refine Chk.mk ⟨rfl, rfl, rfl, rfl, trivial⟩ ?_
      | refine Chk.mk ⟨rfl, rfl, rfl, rfl, rfl, trivial⟩ ?_
      | refine Chk.mk ⟨rfl, rfl, rfl, rfl, rfl, rfl, trivial⟩ ?_)
    exact Done.mk (bad _ _ (getP_none hnone))
  refine ⟨by simp, ?_⟩
  obtain ⟨_, _, _, hR, _, hb4, _⟩ := hdP_some hsome
  have hc32 := hR.2.2.2.2.2.1
  have hc1 := hR.2.2.2.2.1
  rw [imsB_length] at hc32 hc1
  have hcl : ims.length = cntB k0.data := by have := congrArg List.length hblks; simpa using this
  have hgood := fun (rs : List Dat) => getP_good (rest := rs) hsome
  have hbad := fun (rs : List Dat) => getP_bad (rest := rs) hsome
  rw [imsB_length] at hgood hbad
  obtain ⟨e, he⟩ : ∃ e, e = hbE k0.data := ⟨_, rfl⟩
  obtain ⟨s, hse⟩ : ∃ s, s = hbS k0.data := ⟨_, rfl⟩
  obtain ⟨c, hc⟩ : ∃ c, c = cntB k0.data := ⟨_, rfl⟩
  rw [← hc] at hc32 hc1 hcl hgood hbad hI hH hHs hblks
  rw [← he, ← hse] at hgood hbad
  rw [← he, ← hse, ← hc]
  conv => whnf
  intro b4
  repeat (first
    | refine LoadD.own 0 rfl _ rfl rfl ?_
    | refine LoadD.own 1 rfl _ rfl rfl ?_
    | refine LoadD.own 2 rfl _ rfl rfl ?_
    | refine LoadP.at 0 rfl _ rfl rfl ?_
    | refine LoadP.at 1 rfl _ rfl rfl ?_
    | refine LoadP.at 2 rfl _ rfl rfl ?_
    | refine StoreD.st 0 rfl rfl rfl ?_
    | refine StoreD.st 1 rfl rfl rfl ?_
    | refine StoreD.st 2 rfl rfl rfl ?_
    | refine CmpD.yes rfl ?_
    | refine CmpD.yes (by decide) ?_
    | refine CmpD.no (by decide) ?_
    | refine Chk.mk ⟨rfl, trivial⟩ ?_
    | refine Chk.mk ⟨rfl, rfl, trivial⟩ ?_
    | refine Chk.mk ⟨rfl, rfl, rfl, trivial⟩ ?_
    | refine Chk.mk ⟨rfl, rfl, rfl, rfl, trivial⟩ ?_
    | refine Chk.mk ⟨rfl, rfl, rfl, rfl, rfl, trivial⟩ ?_
    | refine Chk.mk ⟨rfl, rfl, rfl, rfl, rfl, rfl, trivial⟩ ?_)
  refine Tri.free (record_Blocks c J1 []) ?_
  rintro v _ _ hJ ⟨rfl, rfl, rfl⟩
  have hbn : blocksN c = ((c + 1 : Nat) : Int) := by unfold blocksN; rw [if_neg (by omega)]; omega
  rw [hbn]
  refine CmpD.split (fun c1 => ?_) (fun c1 => ?_)
  rotate_left
  · repeat (first
      | refine LoadD.own 0 rfl _ rfl rfl ?_
      | refine LoadD.own 1 rfl _ rfl rfl ?_
      | refine LoadD.own 2 rfl _ rfl rfl ?_
      | refine LoadP.at 0 rfl _ rfl rfl ?_
      | refine LoadP.at 1 rfl _ rfl rfl ?_
      | refine LoadP.at 2 rfl _ rfl rfl ?_
      | refine StoreD.st 0 rfl rfl rfl ?_
      | refine StoreD.st 1 rfl rfl rfl ?_
      | refine StoreD.st 2 rfl rfl rfl ?_
      | refine CmpD.yes rfl ?_
      | refine CmpD.yes (by decide) ?_
      | refine CmpD.no (by decide) ?_
      | refine Chk.mk ⟨rfl, trivial⟩ ?_
      | refine Chk.mk ⟨rfl, rfl, trivial⟩ ?_
      | refine Chk.mk ⟨rfl, rfl, rfl, trivial⟩ ?_
      | refine Chk.mk ⟨rfl, rfl, rfl, rfl, trivial⟩ ?_
      | refine Chk.mk ⟨rfl, rfl, rfl, rfl, rfl, trivial⟩ ?_
      | refine Chk.mk ⟨rfl, rfl, rfl, rfl, rfl, rfl, trivial⟩ ?_)
    refine Done.mk (bad _ _ (hbad _ fun h' => c1 ?_))
    have := h'.1
    rw [List.length_map] at this
    omega
  have hcr : rest.length = c := by omega
  repeat (first
    | refine LoadD.own 0 rfl _ rfl rfl ?_
    | refine LoadD.own 1 rfl _ rfl rfl ?_
    | refine LoadD.own 2 rfl _ rfl rfl ?_
    | refine LoadP.at 0 rfl _ rfl rfl ?_
    | refine LoadP.at 1 rfl _ rfl rfl ?_
    | refine LoadP.at 2 rfl _ rfl rfl ?_
    | refine StoreD.st 0 rfl rfl rfl ?_
    | refine StoreD.st 1 rfl rfl rfl ?_
    | refine StoreD.st 2 rfl rfl rfl ?_
    | refine CmpD.yes rfl ?_
    | refine CmpD.yes (by decide) ?_
    | refine CmpD.no (by decide) ?_
    | refine Chk.mk ⟨rfl, trivial⟩ ?_
    | refine Chk.mk ⟨rfl, rfl, trivial⟩ ?_
    | refine Chk.mk ⟨rfl, rfl, rfl, trivial⟩ ?_
    | refine Chk.mk ⟨rfl, rfl, rfl, rfl, trivial⟩ ?_
    | refine Chk.mk ⟨rfl, rfl, rfl, rfl, rfl, trivial⟩ ?_
    | refine Chk.mk ⟨rfl, rfl, rfl, rfl, rfl, rfl, trivial⟩ ?_)
  refine sliceD tabOk rfl rfl rfl rfl 1 n capL ⟨_, rfl⟩ rfl rfl (.inl rfl) (by omega) ?_
  have hx : slAddr (some ⟨bA, oA, none⟩) 1 capL Try.t60.size = some ⟨bA, oA + 1, none⟩ := by
    unfold slAddr
    rw [if_neg (by omega)]
    rfl
  have hcA2 : (cA.drop (oA + 1)).take c = rest.map Bk.cell := by
    have := take_part hcA (i := 1) (m := c) (by omega)
    rw [this, List.map_cons, List.drop_succ_cons, List.drop_zero, List.take_of_length_le (by rw [List.length_map]; omega)]
  rcases hI.at' with q0 | ⟨bI, pre, post, TI, rfl, rfl, hpost⟩
  · have := hI.le; omega
  obtain rfl : n = c + 1 := by omega
  obtain ⟨D, hD⟩ : ∃ D, D = rest.map Bk.data := ⟨_, rfl⟩
  have hDl : D.length = c := by rw [hD, List.length_map, hcr]
  have hmap : (k0 :: rest).map Bk.data = k0.data :: D := by rw [hD]; rfl
  rw [hmap] at bad ⊢
  have hR1 := hR.1
  have hR2 := hR.2.1
  have hR3 := hR.2.2.1
  have hR4 := hR.2.2.2.1
  rw [← he] at hR1 hR2
  rw [← hse] at hR3 hR4
  have stm : ∀ r : Dat, Stmp r e s ↔ (r.length = 4096 ∧ Bears (stampB e s) r) := by
    intro r
    constructor
    · intro h'; exact ⟨h'.1, by have := h'.2.2.2.2.2; rwa [Int.toNat_natCast, Int.toNat_natCast] at this⟩
    · rintro ⟨h1, h2⟩; exact ⟨h1, hR1, hR2, hR3, hR4, by rw [Int.toNat_natCast, Int.toNat_natCast]; exact h2⟩
  refine CodeF.loopD [2, 4, 5, 34, 35, 36] (fun vs J' S' => ∃ (i : Nat) (gs : List Img), i ≤ c ∧ gs.length = c ∧ gs.map Img.blk = (List.range c).map (blkB k0.data) ∧ RestOk e s (D.take i) ∧
      (∀ k, k < i → ∃ g, gs[k]? = some g ∧ ImgOk J' g ∧ g.len = 4096 ∧ g.data = shoK (D.getD k []) (hidB k0.data k) 8) ∧ J1.le J' ∧
      vs = [.pointer (some ⟨b2, 0, none⟩), .pointer (some ⟨b4, 0, none⟩), .slice aH c capH, .slice (some ⟨bA, oA + 1, none⟩) c (capL - 1), .int .i64 c, .int .i64 i] ∧
      S' = [gBox b2 0 0 none 0 0, [(bI, row (pre ++ imgCells gs ++ post) TI)], gBox b4 e s (some ⟨bI, pre.length, none⟩) c capI])
    (fun vs _ _ => match vs with | [_, _, _, _, _, .int _ i] => ((c : Int) - i).toNat | _ => 0) ?_ ?_
  · exact ⟨_, Drop.pick [0, 1, 2] _ rfl, 0, ims, by omega, hcl, hblks, by intro r hr; simp at hr, fun k hk => by omega, Imm.le_refl _, by rw [← hx]; rfl, rfl⟩
  rintro vs gE J2 S2 hJ2 ⟨i, gs, hi, hgl, hgb, hrs, hgk, hle, rfl, rfl⟩
  have h2 := hI.n
  refine CmpD.split (fun c2 => ?_) (fun c2 => ?_)
  · have hlt : i < rest.length := by omega
    have hlt2 : i < gs.length := by omega
    have hx2 : (rest.map Bk.cell)[i]? = some rest[i].cell := by rw [List.getElem?_map, List.getElem?_eq_getElem hlt]; rfl
    have hDi : D[i]? = some rest[i].data := by rw [hD, List.getElem?_map, List.getElem?_eq_getElem hlt]; rfl
    have hki := hrest _ (List.getElem_mem hlt)
    obtain ⟨hh, hh1, hh2⟩ := hHs i (by omega)
    have hxc : (hs.map Hs.cell)[i]? = some hh.cell := by rw [List.getElem?_map, hh1]; rfl
    rcases hH.mem with q0 | ⟨bH, oH, cH, TH, fH, rfl, hIH, hcH⟩
    · omega
    generalize rest[i] = ki at *
    have hIJ : I.le J2 := Imm.le_trans hJ1 hle
    refine Chk.mk (by omega) ?_
    refine LoadD.imm (hIJ _ _ hIA) [ki.cell] (take_get hcA2 hx2) rfl ?_
    repeat (first
      | refine LoadD.own 0 rfl _ rfl rfl ?_
      | refine LoadD.own 1 rfl _ rfl rfl ?_
      | refine LoadD.own 2 rfl _ rfl rfl ?_
      | refine LoadP.at 0 rfl _ rfl rfl ?_
      | refine LoadP.at 1 rfl _ rfl rfl ?_
      | refine LoadP.at 2 rfl _ rfl rfl ?_
      | refine StoreD.st 0 rfl rfl rfl ?_
      | refine StoreD.st 1 rfl rfl rfl ?_
      | refine StoreD.st 2 rfl rfl rfl ?_
      | refine CmpD.yes rfl ?_
      | refine CmpD.yes (by decide) ?_
      | refine CmpD.no (by decide) ?_
      | refine Chk.mk ⟨rfl, trivial⟩ ?_
      | refine Chk.mk ⟨rfl, rfl, trivial⟩ ?_
      | refine Chk.mk ⟨rfl, rfl, rfl, trivial⟩ ?_
      | refine Chk.mk ⟨rfl, rfl, rfl, rfl, trivial⟩ ?_
      | refine Chk.mk ⟨rfl, rfl, rfl, rfl, rfl, trivial⟩ ?_
      | refine Chk.mk ⟨rfl, rfl, rfl, rfl, rfl, rfl, trivial⟩ ?_)
    refine Tri.free (stamped_of J2 ki.a 4096 ki.cap ki.data (hki.1.mono hIJ) hki.2 e s) ?_
    rintro v J3 _ hJ3 ⟨br, rfl, hbr⟩
    cases br
    · repeat (first
        | refine LoadD.own 0 rfl _ rfl rfl ?_
        | refine LoadD.own 1 rfl _ rfl rfl ?_
        | refine LoadD.own 2 rfl _ rfl rfl ?_
        | refine LoadP.at 0 rfl _ rfl rfl ?_
        | refine LoadP.at 1 rfl _ rfl rfl ?_
        | refine LoadP.at 2 rfl _ rfl rfl ?_
        | refine StoreD.st 0 rfl rfl rfl ?_
        | refine StoreD.st 1 rfl rfl rfl ?_
        | refine StoreD.st 2 rfl rfl rfl ?_
        | refine CmpD.yes rfl ?_
        | refine CmpD.yes (by decide) ?_
        | refine CmpD.no (by decide) ?_
        | refine Chk.mk ⟨rfl, trivial⟩ ?_
        | refine Chk.mk ⟨rfl, rfl, trivial⟩ ?_
        | refine Chk.mk ⟨rfl, rfl, rfl, trivial⟩ ?_
        | refine Chk.mk ⟨rfl, rfl, rfl, rfl, trivial⟩ ?_
        | refine Chk.mk ⟨rfl, rfl, rfl, rfl, rfl, trivial⟩ ?_
        | refine Chk.mk ⟨rfl, rfl, rfl, rfl, rfl, rfl, trivial⟩ ?_)
      refine Done.mk (bad _ _ (hbad _ fun h' => ?_))
      have := (stm ki.data).2 (h'.2 _ (List.mem_of_getElem? hDi))
      exact absurd (hbr.2 this) (by simp)
    have hst := (stm _).1 (hbr.1 rfl)
    have hJ3' := Imm.le_trans hle hJ3
    repeat (first
      | refine LoadD.own 0 rfl _ rfl rfl ?_
      | refine LoadD.own 1 rfl _ rfl rfl ?_
      | refine LoadD.own 2 rfl _ rfl rfl ?_
      | refine LoadP.at 0 rfl _ rfl rfl ?_
      | refine LoadP.at 1 rfl _ rfl rfl ?_
      | refine LoadP.at 2 rfl _ rfl rfl ?_
      | refine StoreD.st 0 rfl rfl rfl ?_
      | refine StoreD.st 1 rfl rfl rfl ?_
      | refine StoreD.st 2 rfl rfl rfl ?_
      | refine CmpD.yes rfl ?_
      | refine CmpD.yes (by decide) ?_
      | refine CmpD.no (by decide) ?_
      | refine Chk.mk ⟨rfl, trivial⟩ ?_
      | refine Chk.mk ⟨rfl, rfl, trivial⟩ ?_
      | refine Chk.mk ⟨rfl, rfl, rfl, trivial⟩ ?_
      | refine Chk.mk ⟨rfl, rfl, rfl, rfl, trivial⟩ ?_
      | refine Chk.mk ⟨rfl, rfl, rfl, rfl, rfl, trivial⟩ ?_
      | refine Chk.mk ⟨rfl, rfl, rfl, rfl, rfl, rfl, trivial⟩ ?_)
    refine CodeF.sched [[], [0], [], [], [], [], [4, 5], [4, 5, 6], [3, 4, 5, 6, 7], [0, 1, 2, 3, 4, 5, 6, 7, 8], [0, 1, 2, 3, 4, 5, 6, 7, 8, 9], [0, 1, 2, 3, 4, 5, 6, 7, 8, 9, 10]] [0, 1, 2, 3, 4, 5, 6, 7, 8, 9, 10, 11] (by kernel_rfl) ?_
    repeat (first
      | refine LoadD.own 0 rfl _ rfl rfl ?_
      | refine LoadD.own 1 rfl _ rfl rfl ?_
      | refine LoadD.own 2 rfl _ rfl rfl ?_
      | refine LoadP.at 0 rfl _ rfl rfl ?_
      | refine LoadP.at 1 rfl _ rfl rfl ?_
      | refine LoadP.at 2 rfl _ rfl rfl ?_
      | refine StoreD.st 0 rfl rfl rfl ?_
      | refine StoreD.st 1 rfl rfl rfl ?_
      | refine StoreD.st 2 rfl rfl rfl ?_
      | refine CmpD.yes rfl ?_
      | refine CmpD.yes (by decide) ?_
      | refine CmpD.no (by decide) ?_
      | refine Chk.mk ⟨rfl, trivial⟩ ?_
      | refine Chk.mk ⟨rfl, rfl, trivial⟩ ?_
      | refine Chk.mk ⟨rfl, rfl, rfl, trivial⟩ ?_
      | refine Chk.mk ⟨rfl, rfl, rfl, rfl, trivial⟩ ?_
      | refine Chk.mk ⟨rfl, rfl, rfl, rfl, rfl, trivial⟩ ?_
      | refine Chk.mk ⟨rfl, rfl, rfl, rfl, rfl, rfl, trivial⟩ ?_)
    refine Chk.mk (by omega) ?_
    refine LoadP.imm [hh.cell] ⟨cH, TH, fH, .imm (hJ3' _ _ hIH), take_get hcH hxc, rfl⟩ ?_
    refine Tri.free (shown_fix J3 ki.a ki.cap ki.data (hki.1.mono (Imm.le_trans hIJ hJ3)) hh.b hh.off hh.cap (hidB k0.data i) (hh2.2.mono hJ3') hh2.1) ?_
    rintro v J4 _ hJ4 ⟨a6, cap6, rfl, h6⟩
    repeat (first
      | refine LoadD.own 0 rfl _ rfl rfl ?_
      | refine LoadD.own 1 rfl _ rfl rfl ?_
      | refine LoadD.own 2 rfl _ rfl rfl ?_
      | refine LoadP.at 0 rfl _ rfl rfl ?_
      | refine LoadP.at 1 rfl _ rfl rfl ?_
      | refine LoadP.at 2 rfl _ rfl rfl ?_
      | refine StoreD.st 0 rfl rfl rfl ?_
      | refine StoreD.st 1 rfl rfl rfl ?_
      | refine StoreD.st 2 rfl rfl rfl ?_
      | refine CmpD.yes rfl ?_
      | refine CmpD.yes (by decide) ?_
      | refine CmpD.no (by decide) ?_
      | refine Chk.mk ⟨rfl, trivial⟩ ?_
      | refine Chk.mk ⟨rfl, rfl, trivial⟩ ?_
      | refine Chk.mk ⟨rfl, rfl, rfl, trivial⟩ ?_
      | refine Chk.mk ⟨rfl, rfl, rfl, rfl, trivial⟩ ?_
      | refine Chk.mk ⟨rfl, rfl, rfl, rfl, rfl, trivial⟩ ?_
      | refine Chk.mk ⟨rfl, rfl, rfl, rfl, rfl, rfl, trivial⟩ ?_)
    refine Chk.mk (by omega) ?_
    have hgi : gs[i].blk = blkB k0.data i := by
      have := congrArg (·[i]?) hgb
      simp only [List.getElem?_map, List.getElem?_eq_getElem hlt2, Option.map_some, List.getElem?_range (show i < c by omega), Option.some.injEq] at this
      exact this
    have hcells := imgCells_set gs i hlt2 ⟨gs[i].blk, a6, 4096, cap6, shoK ki.data (hidB k0.data i) 8⟩ rfl
    have hcl2 := imgCells_length gs
    have hsp : splice (pre ++ imgCells gs ++ post) (pre.length + (i * 2 + 1)) [.slice a6 4096 cap6] = pre ++ imgCells (gs.set i ⟨gs[i].blk, a6, 4096, cap6, shoK ki.data (hidB k0.data i) 8⟩) ++ post := by
      rw [splice_mid _ _ _ _ _ (by rw [hcl2]; simp; omega), ← hcells]; rfl
    refine StoreD.to 1 rfl _ hsp (by simp only [List.length_append, hcl2]; show pre.length + (i * 2 + 1) + 1 ≤ _; omega) (.inr (.inr (Nat.le_refl _))) _ rfl ?_
    refine ToD.i64 (by omega) (by omega) ?_
    refine ⟨_, Drop.pick [0, 1, 2] _ rfl, ⟨i + 1, gs.set i ⟨gs[i].blk, a6, 4096, cap6, shoK ki.data (hidB k0.data i) 8⟩, by omega, by rw [List.length_set]; exact hgl, ?_, ?_, ?_, Imm.le_trans hJ3' hJ4, rfl, rfl⟩, ?_⟩
    · rw [List.map_set, hgb]
      show List.set _ _ gs[i].blk = _
      rw [hgi]
      refine getElem_eq_of (by simp) fun j j1 j2 => ?_
      rw [List.getElem_set]
      split
      · rename_i he; subst he; simp
      · rfl
    · intro r hr
      rw [List.take_add_one, hDi] at hr
      rcases List.mem_append.1 hr with hr | hr
      · exact hrs r hr
      · simp only [Option.toList_some, List.mem_singleton] at hr
        subst hr
        exact hst
    · intro k hk
      rcases Nat.lt_or_ge k i with g | g
      · obtain ⟨y, y1, y2, y3, y4⟩ := hgk k g
        exact ⟨y, by rw [List.getElem?_set_ne (by omega)]; exact y1, y2.mono (Imm.le_trans hJ3 hJ4), y3, y4⟩
      · obtain rfl : k = i := by omega
        have hbl : In64 gs[k].blk := by
          rw [hgi]
          have := nb_lt2 (gatK k0.data 8) (6 + 66 * k : Nat)
          unfold blkB In64; omega
        refine ⟨_, List.getElem?_set_self hlt2, ⟨hbl, h6⟩, rfl, ?_⟩
        rw [List.getD_eq_getElem?_getD, hDi]; rfl
    · show ((c : Int) - ((i : Int) + 1)).toNat < ((c : Int) - i).toNat; omega
  · obtain rfl : i = c := by omega
    repeat (first
      | refine LoadD.own 0 rfl _ rfl rfl ?_
      | refine LoadD.own 1 rfl _ rfl rfl ?_
      | refine LoadD.own 2 rfl _ rfl rfl ?_
      | refine LoadP.at 0 rfl _ rfl rfl ?_
      | refine LoadP.at 1 rfl _ rfl rfl ?_
      | refine LoadP.at 2 rfl _ rfl rfl ?_
      | refine StoreD.st 0 rfl rfl rfl ?_
      | refine StoreD.st 1 rfl rfl rfl ?_
      | refine StoreD.st 2 rfl rfl rfl ?_
      | refine CmpD.yes rfl ?_
      | refine CmpD.yes (by decide) ?_
      | refine CmpD.no (by decide) ?_
      | refine Chk.mk ⟨rfl, trivial⟩ ?_
      | refine Chk.mk ⟨rfl, rfl, trivial⟩ ?_
      | refine Chk.mk ⟨rfl, rfl, rfl, trivial⟩ ?_
      | refine Chk.mk ⟨rfl, rfl, rfl, rfl, trivial⟩ ?_
      | refine Chk.mk ⟨rfl, rfl, rfl, rfl, rfl, trivial⟩ ?_
      | refine Chk.mk ⟨rfl, rfl, rfl, rfl, rfl, rfl, trivial⟩ ?_)
    rw [List.take_of_length_le (by omega)] at hrs
    have hg := hgood D ⟨hDl, hrs⟩
    have hcl2 := imgCells_length gs
    refine Done.mk ⟨[[(bI, row (pre ++ imgCells gs ++ post) TI)]], Drop.pick [1] _ rfl, _, rfl, .inr ⟨e, s, _, hg, some ⟨bI, pre.length, none⟩, capI, gs, by rw [hgl]; rfl, ⟨hcl2, by rw [hgl]; exact hI.le, .inr ⟨bI, pre, post, TI, rfl, rfl, by rw [hgl]; exact hpost⟩⟩, ?_, ?_⟩⟩
    · intro g hg
      obtain ⟨k, hk, hke⟩ := List.mem_iff_getElem.1 hg
      obtain ⟨y, y1, y2, _⟩ := hgk k (by omega)
      rw [List.getElem?_eq_getElem hk, Option.some.injEq] at y1
      rw [← hke, y1]; exact y2
    · refine getElem_eq_of (by simp [getL, hgl, hDl]) fun k k1 k2 => ?_
      rw [List.length_map] at k1
      obtain ⟨y, y1, y2, y3, y4⟩ := hgk k (by omega)
      rw [List.getElem?_eq_getElem k1, Option.some.injEq] at y1
      have hb := congrArg (·[k]?) hgb
      simp only [List.getElem?_map, List.getElem?_eq_getElem k1, Option.map_some, List.getElem?_range (show k < i by omega), Option.some.injEq] at hb
      simp only [List.getElem_map, getL, List.getElem_range]
      rw [← hb, ← y4, ← y1]
end Go.Proofs.Ytbpdbgcndfcilaa
namespace Go.Proofs.Ytbpdbgcndfcilaa
open Go.RowKit Go.Sl
set_option maxRecDepth 20000

@[reducible] def rChunk (b bD : Nat) (x : Lay) (e : Int) : List Blk := [(b, row [.pointer (some ⟨bD, 0, none⟩), .int .i64 x.b, .int .i64 x.l, .int .i64 x.lb, .int .i64 x.bi, .int .i64 x.i, .int .i64 x.ib, .int .i64 x.d, .int .i64 e] 142)]
theorem tmod_nat (a b : Nat) : ((a : Int)).tmod (b : Int) = ((a % b : Nat) : Int) := by
  rw [Int.tmod_eq_emod_of_nonneg (by omega)]; rfl
/-- the ring's block at a place -/
def rbP (d : DSt) (l lb : Nat) (at_ : Nat) : Dat := d.now.getD (l + at_ % lb) []
theorem read_up {d : DSt} (hw : d.Wf) (hdn : d.down = false) {k : Nat} (hk : k < d.now.length) : d.read (k : Int) = (d.now.getD k [], 0) := by
  have hr := hw.range
  unfold DSt.read
  rw [if_neg (by have := (wrongE_dec d.now.length (by omega) (k : Int)).2 ⟨by omega, by omega⟩; omega), hdn, if_neg (by simp), Int.toNat_natCast]
end Go.Proofs.Ytbpdbgcndfcilaa
namespace Go.Proofs.Ytbpdbgcndfcilaa
open Go.RowKit Go.Sl
set_option maxRecDepth 20000

@[reducible] def Sup.zero : Sup := ⟨0, 0, 0, 0⟩
@[reducible] def chooseV (r : Sup × Int × Bool) : Value := .tuple #[r.1.v, .int .i64 r.2.1, .bool r.2.2]
end Go.Proofs.Ytbpdbgcndfcilaa
namespace Go.Proofs.Ytbpdbgcndfcilaa
open Go.RowKit Go.Sl
set_option maxRecDepth 20000

end Go.Proofs.Ytbpdbgcndfcilaa
namespace Go.Proofs.Ytbpdbgcndfcilaa
open Go.RowKit Go.Sl
set_option maxRecDepth 20000

end Go.Proofs.Ytbpdbgcndfcilaa
namespace Go.Proofs.Ytbpdbgcndfcilaa
open Go.RowKit Go.Sl
set_option maxRecDepth 20000

end Go.Proofs.Ytbpdbgcndfcilaa
namespace Go.Proofs
open Go.Shelf
end Go.Proofs
namespace Go.Proofs.Ytbpdbgcndfcilaa
open Go.RowKit Go.Sl
set_option maxRecDepth 20000

@[reducible] def keyBox (b r : Nat) : List Blk := [(b, row [.map (some r)] 152)]
end Go.Proofs.Ytbpdbgcndfcilaa
namespace Go.Proofs.Ytbpdbgcndfcilaa
open Go.RowKit Go.Sl
set_option maxRecDepth 20000

end Go.Proofs.Ytbpdbgcndfcilaa
namespace Go.Proofs.Ytbpdbgcndfcilaa
open Go.RowKit Go.Sl
set_option maxRecDepth 20000

end Go.Proofs.Ytbpdbgcndfcilaa
namespace Go.Proofs.Ytbpdbgcndfcilaa
open Go.RowKit Go.Sl
set_option maxRecDepth 20000

/-- images and groups, read in what is owned or fixed -/
structure ImgR (I : Imm) (S : St) (g : Img) : Prop where
  rd : SlC I S g.a g.len (bts g.data)
structure ImgsR (I : Imm) (S : St) (a : Option Addr) (gs : List Img) : Prop where
  sl : SlC I S a (gs.length * 2) (imgCells gs)
  each : ∀ g ∈ gs, ImgR I S g
theorem ImgR.mores {I : Imm} {S : St} {g : Img} (h : ImgR I S g) (L : St) : ImgR I (S ++ L) g := ⟨h.rd.mores L⟩
/-- a group, as it lies -/
structure Grp where
  e : Int
  s : Int
  a : Option Addr
  cap : Nat
  gs : List Img
def grpCells (l : List Grp) : List Value := l.flatMap fun g => [.int .i64 g.e, .int .i64 g.s, .slice g.a g.gs.length g.cap]
theorem grpCells_length (l : List Grp) : (grpCells l).length = l.length * 3 := by
  unfold grpCells
  induction l with
  | nil => rfl
  | cons g l ih => rw [List.flatMap_cons, List.length_append, ih]; simp; omega
theorem grpCells_at {ws : List Grp} {i : Nat} (h : i < ws.length) : ((grpCells ws).drop (i * 3)).take 3 = [.int .i64 ws[i].e, .int .i64 ws[i].s, .slice ws[i].a ws[i].gs.length ws[i].cap] := by
  induction ws generalizing i with
  | nil => simp at h
  | cons g ws ih =>
    cases i with
    | zero => rfl
    | succ i =>
      have := ih (i := i) (by simpa using h)
      have e : grpCells (g :: ws) = [.int .i64 g.e, .int .i64 g.s, .slice g.a g.gs.length g.cap] ++ grpCells ws := by simp [grpCells]
      rw [e, show (i + 1) * 3 = [Value.int .i64 g.e, .int .i64 g.s, .slice g.a g.gs.length g.cap].length + i * 3 by simp; omega, ← List.drop_drop, List.drop_left]
      simpa using this
structure GrpsR (I : Imm) (S : St) (a : Option Addr) (l : List Grp) : Prop where
  sl : SlC I S a (l.length * 3) (grpCells l)
  each : ∀ g ∈ l, ImgsR I S g.a g.gs ∧ g.gs.length ≤ 1000000
/-- the last image of each block, as a map holds it -/
def hdr (g : Img) : Int × Value := (g.blk, .slice g.a g.len g.cap)
def HomeOk (lay : Lay) (l : List PImg) : Prop := ∀ g ∈ l, lay.bi ≤ g.1 ∧ g.1 < lay.b
instance (lay : Lay) (l : List PImg) : Decidable (HomeOk lay l) := by unfold HomeOk; infer_instance
end Go.Proofs.Ytbpdbgcndfcilaa
namespace Go.Proofs.Ytbpdbgcndfcilaa
open Go.RowKit Go.Sl
set_option maxRecDepth 20000

def OwnImgs : List (List Blk) → List Img → Prop
  | [], [] => True
  | c :: cs, g :: gs => OwnB c g.a g.len g.cap g.data ∧ OwnImgs cs gs
  | _, _ => False
theorem OwnImgs.snoc : ∀ {cs : List (List Blk)} {gs : List Img} {c : List Blk} {g : Img}, OwnImgs cs gs → OwnB c g.a g.len g.cap g.data → OwnImgs (cs ++ [c]) (gs ++ [g])
  | [], [], _, _, _, h => ⟨h, trivial⟩
  | _ :: _, _ :: _, _, _, h, k => ⟨h.1, OwnImgs.snoc h.2 k⟩
  | [], _ :: _, _, _, h, _ => h.elim
  | _ :: _, [], _, _, h, _ => h.elim
@[reducible] def layBox (b : Nat) (x : Lay) : List Blk := [(b, row x.vals 25)]
theorem ImgsR.pack {I : Imm} {S : St} {a : Option Addr} {gs : List Img} (h : ImgsR I S a gs) : ImgsR I [S.flatten] a gs := ⟨h.sl.pack, fun g hg => ⟨(h.each g hg).rd.pack⟩⟩
theorem OwnImgs.at' : ∀ {cs : List (List Blk)} {gs : List Img}, OwnImgs cs gs → ∀ g ∈ gs, ∃ (i : Nat) (c : List Blk), cs[i]? = some c ∧ OwnB c g.a g.len g.cap g.data
  | [], [], _, g, hg => by simp at hg
  | c :: cs, x :: gs, h, g, hg => by
    rcases List.mem_cons.1 hg with rfl | hg
    · exact ⟨0, c, rfl, h.1⟩
    · obtain ⟨i, c', hi, ho⟩ := OwnImgs.at' h.2 g hg
      exact ⟨i + 1, c', hi, ho⟩
  | [], _ :: _, h, _, _ => h.elim
  | _ :: _, [], h, _, _ => h.elim
end Go.Proofs.Ytbpdbgcndfcilaa
namespace Go.Proofs.Ytbpdbgcndfcilaa
open Go.RowKit Go.Sl
set_option maxRecDepth 20000

abbrev G3 := Nat × Nat × List PImg
/-- a group, as it lies, told as numbers and images -/
def Grp.g3 (g : Grp) : Int × Int × List PImg := (g.e, g.s, g.gs.map Img.pr)
def up3 (g : G3) : Int × Int × List PImg := (g.1, g.2.1, g.2.2)
structure ScSt where
  f : Nat
  at' : Nat
  seq : Int
  room : Nat
@[reducible] def sBoxS (b : Nat) (s : Sup) : List Blk := [(b, row [.int .i64 s.blocks, .int .i64 s.epoch, .int .i64 s.seq, .int .i64 s.tail] 56)]
@[reducible] def scIt (bS bP bR bD : Nat) (s : Sup) (x : Lay) (e : Int) (chD : List Blk) : St := [sBoxS bS s, [(bP, row [.pointer (some ⟨bR, 0, none⟩)] 140)], rChunk bR bD x e, chD]
end Go.Proofs.Ytbpdbgcndfcilaa
namespace Go.Proofs.Ytbpdbgcndfcilaa
open Go.RowKit Go.Sl
set_option maxRecDepth 20000

theorem imgCells_0 {gs : List Img} {i : Nat} (h : i < gs.length) : (imgCells gs)[i * 2]? = some (.int .i64 gs[i].blk) := by
  have := imgCells_at h
  have e := congrArg (·[0]?) this
  simpa using e
theorem imgCells_1 {gs : List Img} {i : Nat} (h : i < gs.length) : (imgCells gs)[i * 2 + 1]? = some (.slice gs[i].a gs[i].len gs[i].cap) := by
  have := imgCells_at h
  have e := congrArg (·[1]?) this
  simpa using e
theorem take_pr_eq {g1 g2 : List Img} {i : Nat} (h1 : i < g1.length) (h2 : i < g2.length) (ht : (g1.take i).map Img.pr = (g2.take i).map Img.pr) :
    ((g1.take (i + 1)).map Img.pr = (g2.take (i + 1)).map Img.pr) ↔ (g1[i].blk = g2[i].blk ∧ g1[i].data = g2[i].data) := by
  rw [List.take_add_one, List.take_add_one, List.getElem?_eq_getElem h1, List.getElem?_eq_getElem h2, List.map_append, List.map_append, ht]
  simp
theorem SlC.split {I : Imm} {S : St} {a : Option Addr} {n : Nat} {vs : List Value} (h : SlC I S a n vs) (hn : n ≠ 0) : ∃ b off, a = some ⟨b, off, none⟩ ∧ Cells I S b off n vs := by
  rcases h.mem with h0 | h
  · exact absurd h0 hn
  · exact h
theorem LoadP_any {I : Imm} {c0 : List Blk} {b off n : Nat} {K : List Value → List Nat → Prop} (vs : List Value) (h : Cells I [c0] b off n vs) (k : K vs [0]) : LoadP I [c0] b off n K := .own 0 vs h k
set_option maxHeartbeats 4000000 in
theorem same_imgs1 (c0 : List Blk) {I : Imm} {a1 a2 : Option Addr} {c1 c2 : Nat} {g1 g2 : List Img} (h1 : ImgsR I [c0] a1 g1) (h2 : ImgsR I [c0] a2 g2) (hl1 : g1.length ≤ 1000000000) :
    Tri Try.prog 52 #[.slice a1 g1.length c1, .slice a2 g2.length c2] I [c0] fun v J S' => v = .bool (decide (g1.map Img.pr = g2.map Img.pr)) ∧ I = J ∧ S' = [c0] := by
  refine Tri.of (args := [.slice a1 g1.length c1, .slice a2 g2.length c2]) tabOk Try.func52 rfl (by kernel_rfl) (by kernel_rfl) ?_
  refine CmpD.split (fun c => ?_) (fun c => ?_)
  rotate_left
  · refine Done.mk ⟨?_, rfl, rfl⟩
    show Value.bool _ = Value.bool _
    rw [decide_eq_false (fun h => c (by have := congrArg List.length h; simp at this; omega))]
  have hl : g1.length = g2.length := by omega
  refine CodeF.loopD [0, 1, 5] (fun vs J' S' => ∃ (i : Nat), i ≤ g1.length ∧ (g1.take i).map Img.pr = (g2.take i).map Img.pr ∧ vs = [.slice a1 g1.length c1, .slice a2 g2.length c2, .int .i64 i] ∧ I = J' ∧ S' = [c0])
    (fun vs _ _ => match vs with | [_, _, .int _ i] => ((g1.length : Int) - i).toNat | _ => 0) ?_ ?_
  · exact ⟨_, Drop.refl _, 0, by omega, rfl, rfl, rfl, rfl⟩
  rintro vs gE J' S' hJ' ⟨i, hi, hpre, rfl, rfl, rfl⟩
  refine CmpD.split (fun c1' => ?_) (fun c1' => ?_)
  · have i1 : i < g1.length := by omega
    have i2 : i < g2.length := by omega
    have hiff := take_pr_eq i1 i2 hpre
    have no : ¬ (g1[i].blk = g2[i].blk ∧ g1[i].data = g2[i].data) → decide (g1.map Img.pr = g2.map Img.pr) = false := by
      intro h
      refine decide_eq_false fun h' => h (hiff.1 ?_)
      rw [List.map_take, List.map_take, h']
    obtain ⟨b1, o1, rfl, hc1⟩ := SlC.split h1.sl (by omega)
    obtain ⟨b2, o2, rfl, hc2⟩ := SlC.split h2.sl (by omega)
    have r1 := h1.each _ (List.getElem_mem i1)
    have r2 := h2.each _ (List.getElem_mem i2)
    refine CodeF.sched [[], [], [0, 1], [0, 1, 2], [0, 1, 2, 3], [], [], [5, 6], [5, 6, 7], [5, 6, 7, 8], [0, 1, 2, 3, 4, 5, 6, 7, 8, 9], [0, 1, 2, 3, 4, 5, 6, 7, 8, 9, 10], [0, 1, 2, 3, 4, 5, 6, 7, 8, 9, 10, 11], [0, 1, 2, 3, 4, 5, 6, 7, 8, 9, 10, 11], [0, 1, 2, 3, 4, 5, 6, 7, 8, 9, 10, 11, 12, 13], [0, 1, 2, 3, 4, 5, 6, 7, 8, 9, 10, 11, 12, 13, 14], [0, 1, 2, 3, 4, 5, 6, 7, 8, 9, 10, 11, 12, 13, 14, 15], [0, 1, 2, 3, 4, 5, 6, 7, 8, 9, 10, 11], [0, 1, 2, 3, 4, 5, 6, 7, 8, 9, 10, 11], [0, 1, 2, 3, 4, 5, 6, 7, 8, 9, 10, 11, 17, 18], [0, 1, 2, 3, 4, 5, 6, 7, 8, 9, 10, 11, 17, 18, 19], [0, 1, 2, 3, 4, 5, 6, 7, 8, 9, 10, 11, 17, 18, 19, 20], [0, 1, 2, 3, 4, 5, 6, 7, 8, 9, 10, 11, 12, 13, 14, 15, 16, 17, 18, 19, 20, 21], [0, 1, 2, 3, 4, 5, 6, 7, 8, 9, 10, 11, 12, 13, 14, 15, 16, 17, 18, 19, 20, 21, 22], [0, 1, 2, 3, 4, 5, 6, 7, 8, 9, 10, 11, 12, 13, 14, 15, 16, 17, 18, 19, 20, 21, 22, 23]] [0, 1, 2, 3, 4, 5, 6, 7, 8, 9, 10, 11, 12, 13, 14, 15, 16, 17, 18, 19, 20, 21, 22, 23, 24] (by kernel_rfl) ?_
    refine Chk.mk (by omega) ?_
    refine LoadP_any _ (hc1.at (imgCells_0 i1)) ?_
    refine Chk.mk (by omega) ?_
    refine LoadP_any _ (hc2.at (imgCells_0 i2)) ?_
    refine CmpD.split (fun c2' => ?_) (fun c2' => ?_)
    · refine Chk.mk (by omega) ?_
      refine LoadP_any _ (hc1.at (imgCells_1 i1)) ?_
      refine Chk.mk (by omega) ?_
      refine LoadP_any _ (hc2.at (imgCells_1 i2)) ?_
      refine Tri.nf (same_bytes r1.rd r2.rd) ?_
      rintro v J S' hJ ⟨rfl, rfl, rfl⟩
      by_cases hd : g1[i].data = g2[i].data
      · rw [decide_eq_true hd]
        refine ToD.i64 (by omega) (by omega) ?_
        refine ⟨_, Drop.refl _, ⟨i + 1, by omega, hiff.2 ⟨c2', hd⟩, rfl, rfl, rfl⟩, ?_⟩
        show ((g1.length : Int) - ((i : Int) + 1)).toNat < ((g1.length : Int) - (i : Int)).toNat
        omega
      · rw [decide_eq_false hd]
        refine Done.mk ⟨?_, rfl, rfl⟩
        show Value.bool _ = Value.bool _
        rw [no (fun h => hd h.2)]
    · refine Done.mk ⟨?_, rfl, rfl⟩
      show Value.bool _ = Value.bool _
      rw [no (fun h => c2' h.1)]
  · obtain rfl : i = g1.length := by omega
    refine Done.mk ⟨?_, rfl, rfl⟩
    show Value.bool _ = Value.bool _
    rw [List.take_length, hl, List.take_length] at hpre
    rw [decide_eq_true hpre]
theorem same_imgs {I : Imm} {S : St} {a1 a2 : Option Addr} {c1 c2 : Nat} {g1 g2 : List Img} (h1 : ImgsR I S a1 g1) (h2 : ImgsR I S a2 g2) (hl1 : g1.length ≤ 1000000000) :
    Tri Try.prog 52 #[.slice a1 g1.length c1, .slice a2 g2.length c2] I S fun v J S' => v = .bool (decide (g1.map Img.pr = g2.map Img.pr)) ∧ I = J ∧ S' = S := by
  refine Tri.pack ((same_imgs1 _ h1.pack h2.pack hl1).mono ?_)
  rintro v J S' hJ ⟨rfl, rfl, rfl⟩
  exact ⟨[], rfl, rfl, rfl, by simp⟩
end Go.Proofs.Ytbpdbgcndfcilaa
namespace Go.Proofs.Ytbpdbgcndfcilaa
open Go.RowKit Go.Sl
set_option maxRecDepth 20000

@[reducible] def rV (s w : Hd) (count : Int) (down : Bool) (arm fault : Int) : Value := .agg #[s.v, w.v, .int .i64 count, .bool down, .int .i64 arm, .int .i64 fault]
end Go.Proofs.Ytbpdbgcndfcilaa
namespace Go.Proofs.Ytbpdbgcndfcilaa
open Go.RowKit Go.Sl
set_option maxRecDepth 20000

end Go.Proofs.Ytbpdbgcndfcilaa
namespace Go.Proofs.Ytbpdbgcndfcilaa
open Go.RowKit Go.Sl
set_option maxRecDepth 20000

end Go.Proofs.Ytbpdbgcndfcilaa
namespace Go.Proofs.Ytbpdbgcndfcilaa
open Go.RowKit Go.Sl
set_option maxRecDepth 20000

end Go.Proofs.Ytbpdbgcndfcilaa
namespace Go.Proofs.Ytbpdbgcndfcilaa
open Go.RowKit Go.Sl
set_option maxRecDepth 20000

/-! ### the last image of a block -/
end Go.Proofs.Ytbpdbgcndfcilaa
namespace Go.Proofs.Ytbpdbgcndfcilaa
open Go.RowKit Go.Sl
set_option maxRecDepth 20000

structure GrpsOk (J : Imm) (gl : List Grp) (l : List G3) : Prop where
  each : ∀ g ∈ gl, ImgsOk J g.a g.gs
  g3 : gl.map Grp.g3 = l.map up3
theorem GrpsOk.mono {I J : Imm} {gl : List Grp} {l : List G3} (h : GrpsOk I gl l) (hJ : I.le J) : GrpsOk J gl l := ⟨fun g hg => (h.each g hg).mono hJ, h.g3⟩
theorem GrpsOk.len {J : Imm} {gl : List Grp} {l : List G3} (h : GrpsOk J gl l) : gl.length = l.length := by have := congrArg List.length h.g3; simpa using this
end Go.Proofs.Ytbpdbgcndfcilaa
namespace Go.Proofs.Ytbpdbgcndfcilaa
open Go.RowKit Go.Sl
set_option maxRecDepth 20000

theorem openJ_wf64 (tail : Int) (ht : 0 ≤ tail ∧ tail < 16) : (openJ 64 1 1 tail).Wf := openJ_wf 64 (by omega) ⟨rfl, by omega, by omega, by omega, by omega, ht.1, by rw [layL_64']; exact ht.2⟩
theorem fresh_calm (l : List Dat) : (DSt.of l).Calm := ⟨rfl, rfl, rfl⟩
theorem JSt.Wf.append {j : JSt} (hj : j.Wf) {d : DSt} {l : List PImg} {held : Bool} (h8 : j.groups.length ≤ 999999) : (j.appendB d l held).1.Wf := by
  have hr := hj.ring
  unfold JSt.appendB JSt.append
  split
  · exact hj
  split
  · exact hj
  rename_i hR
  have hR : RightP j.epoch j.next l := Decidable.of_not_not hR
  split
  · exact hj
  generalize hp : putS j.s j.t j.u j.h (l.length + 1) (if held then l.length + 1 else 0) = q
  obtain ⟨⟨s, t, u, h, e⟩, at_⟩ := q
  dsimp only
  split
  · exact hj
  rename_i he
  have he : e = 0 := Decidable.of_not_not he
  obtain ⟨e1, e2, h3, _, _⟩ := putS_mid hr hp he
  have hn := hj.next
  have hs := hj.synced
  have hl := hR.2.2.2.2.2.1
  have hs2 := hR.2.2.2.1
  generalize wrAll (fun i => j.lay.l + (at_ + i) % s) (putP j.epoch.toNat j.next.toNat l) 0 d = q
  obtain ⟨d', e'⟩ := q
  dsimp only
  split
  · exact ⟨hj.log, h3, hj.epoch, hj.next, hj.synced, hj.few, hj.groups⟩
  · refine ⟨hj.log, h3, hj.epoch, ?_, ?_, ?_, ?_⟩
    · show 1 ≤ j.next + 1 ∧ j.next + 1 ≤ _; omega
    · show 0 ≤ j.synced ∧ j.synced < j.next + 1; omega
    · show (j.groups ++ [_]).length ≤ _; simp; omega
    · intro g hg
      rcases List.mem_append.1 hg with hg | hg
      · exact hj.groups g hg
      · simp only [List.mem_singleton] at hg
        subst hg
        unfold In64; dsimp only; omega
theorem JSt.Wf.flush {j : JSt} (hj : j.Wf) (d : DSt) : (j.flush d).1.Wf := by
  have hn := hj.next
  unfold JSt.flush
  split
  · exact hj
  split
  · exact ⟨hj.log, hj.ring, hj.epoch, hj.next, hj.synced, hj.few, hj.groups⟩
  · refine ⟨hj.log, hj.ring, hj.epoch, hj.next, ?_, hj.few, hj.groups⟩
    show 0 ≤ j.next - 1 ∧ j.next - 1 < j.next; omega
theorem relAll_mid (seq : Int) : ∀ (gs : List (Int × Int)) (s t u h : Int) (gs' : List (Int × Int)) (s' t' u' h' e : Int), Ok s t u h → relAll seq gs s t u h = (gs', (s', t', u', h', e)) → Ok s' t' u' h' ∧ ∃ k, gs' = gs.drop k
  | [], s, t, u, h, _, _, _, _, _, _, hr, he => by
    rw [relAll] at he
    simp only [Prod.mk.injEq] at he
    obtain ⟨rfl, rfl, rfl, rfl, rfl, rfl⟩ := he
    exact ⟨hr, 0, rfl⟩
  | g :: gs, s, t, u, h, gs', s', t', u', h', e, hr, he => by
    rw [relAll] at he
    split at he
    · generalize hd : dropS s t u h g.2 = q at he
      obtain ⟨s1, t1, u1, h1, e1⟩ := q
      dsimp only at he
      split at he
      · rename_i h0
        obtain ⟨h2, k, hk⟩ := relAll_mid seq gs s1 t1 u1 h1 gs' s' t' u' h' e (dropS_mid hr hd h0) he
        exact ⟨h2, k + 1, hk⟩
      · simp only [Prod.mk.injEq] at he
        obtain ⟨rfl, rfl, rfl, rfl, rfl, rfl⟩ := he
        exact ⟨hr, 0, rfl⟩
    · simp only [Prod.mk.injEq] at he
      obtain ⟨rfl, rfl, rfl, rfl, rfl, rfl⟩ := he
      exact ⟨hr, 0, rfl⟩
theorem JSt.Wf.release {j : JSt} (hj : j.Wf) (seq : Int) : (j.release seq).1.Wf := by
  unfold JSt.release
  split
  · exact hj
  split
  · exact hj
  generalize hq : relAll seq j.groups j.s j.t j.u j.h = q
  obtain ⟨gs, s, t, u, h, e⟩ := q
  obtain ⟨h1, k, rfl⟩ := relAll_mid seq _ _ _ _ _ _ _ _ _ _ _ hj.ring hq
  exact ⟨hj.log, h1, hj.epoch, hj.next, hj.synced, by show (j.groups.drop k).length ≤ _; rw [List.length_drop]; have := hj.few; omega, fun g hg => hj.groups g (List.mem_of_mem_drop hg)⟩
/-- a group that fits is appended: what the journal is then -/
theorem JSt.append_next {j : JSt} (hj : j.Wf) (h8 : j.groups.length ≤ 999999) {d : DSt} {l : List PImg} {held : Bool} (hb : j.broken = false) (hR : RightP j.epoch j.next l) (hs : (l.length : Int) + 1 ≤ j.s) (hd : d.Calm) (hlen : j.s + 2 ≤ d.now.length)
    {t u h at_ : Int} (hp : putS j.s j.t j.u j.h (l.length + 1) (if held then l.length + 1 else 0) = ((j.s, t, u, h, 0), at_)) :
    ∃ j', j.appendB d l held = (j', wrD (fun i => 2 + (at_ + i) % j.s) (putP j.epoch.toNat j.next.toNat l) 0 d, j.next, 0) ∧ j'.lay = j.lay ∧ j'.s = j.s ∧ j'.t = t ∧ j'.u = u ∧ j'.h = h ∧ j'.epoch = j.epoch ∧ j'.next = j.next + 1 ∧ j'.synced = j.synced ∧ j'.groups = j.groups ++ [(j.next, (l.length + 1 : Int))] ∧ j'.broken = false ∧ j'.Wf := by
  have e := JSt.append_calm hb hR hs hj.log hd hlen hp
  have w := hj.append (d := d) (l := l) (held := held) h8
  rw [e] at w
  exact ⟨_, e, rfl, rfl, rfl, rfl, rfl, rfl, rfl, rfl, rfl, hb, w⟩
theorem JSt.flush_next {j : JSt} (hj : j.Wf) {d : DSt} (hb : j.broken = false) (hd : d.Calm) :
    ∃ j', j.flush d = (j', { d with safe := d.now, writes := [] }, 0) ∧ j'.lay = j.lay ∧ j'.s = j.s ∧ j'.t = j.t ∧ j'.u = j.u ∧ j'.h = j.h ∧ j'.epoch = j.epoch ∧ j'.next = j.next ∧ j'.synced = j.next - 1 ∧ j'.groups = j.groups ∧ j'.broken = false ∧ j'.Wf := by
  have e : j.flush d = ({ j with synced := j.next - 1 }, { d with safe := d.now, writes := [] }, 0) := by
    unfold JSt.flush DSt.flush
    rw [if_neg (by rw [hb]; simp), DSt.stop_calm hd]
    simp
  have w := hj.flush d
  rw [e] at w
  exact ⟨_, e, rfl, rfl, rfl, rfl, rfl, rfl, rfl, rfl, rfl, hb, w⟩
theorem JSt.release_next {j : JSt} (hj : j.Wf) {seq : Int} (hb : j.broken = false) (hs : ¬ j.synced < seq) {gs : List (Int × Int)} {s t u h e : Int} (hr : relAll seq j.groups j.s j.t j.u j.h = (gs, (s, t, u, h, e))) :
    ∃ j', j.release seq = (j', e) ∧ j'.lay = j.lay ∧ j'.s = s ∧ j'.t = t ∧ j'.u = u ∧ j'.h = h ∧ j'.epoch = j.epoch ∧ j'.next = j.next ∧ j'.synced = j.synced ∧ j'.groups = gs ∧ j'.broken = false ∧ j'.Wf := by
  have e' : j.release seq = ({ j with s := s, t := t, u := u, h := h, groups := gs }, e) := by
    unfold JSt.release
    rw [if_neg (by rw [hb]; simp), if_neg hs, hr]
  have w := hj.release seq
  rw [e'] at w
  exact ⟨_, e', rfl, rfl, rfl, rfl, rfl, rfl, rfl, rfl, rfl, hb, w⟩
theorem putS_a : putS 16 14 0 0 (((imgsP (rowL 1) 1 0).length : Int) + 1) (if false = true then ((imgsP (rowL 1) 1 0).length : Int) + 1 else 0) = ((16, 14, 2, 0, 0), 14) := by rw [imgsP_length, rowL_length]; decide
theorem putS_b : putS 16 14 2 0 (((imgsP (rowL 2) 2 0).length : Int) + 1) (if false = true then ((imgsP (rowL 2) 2 0).length : Int) + 1 else 0) = ((16, 14, 5, 0, 0), 0) := by rw [imgsP_length, rowL_length]; decide
/-- what the example's calls come to -/
theorem awake_pure : ∃ (jA jB jF jR : JSt) (dA dB dF : DSt), (openJ 64 1 1 14).appendB (DSt.of (List.replicate 64 noughts)) (imgsP (rowL 1) 1 0) false = (jA, dA, 1, 0) ∧ jA.appendB dA (imgsP (rowL 2) 2 0) false = (jB, dB, 2, 0) ∧
    dB.writes.map Prod.fst = [16, 17, 2, 3, 4] ∧ jB.t = 14 ∧ firstOf jB.next jB.groups = 1 ∧ jB.flush dB = (jF, dF, 0) ∧ jF.release 1 = (jR, 0) ∧ jR.t = 0 ∧ firstOf jR.next jR.groups = 2 ∧ jR.groups = [(2, 3)] ∧
    (openJ 64 1 1 14).Wf ∧ jA.Wf ∧ jB.Wf ∧ jF.Wf ∧ jR.Wf ∧ dA.Few 2 ∧ dB.Few 5 ∧ jA.groups.length ≤ 5 := by
  have w0 : (openJ 64 1 1 14).Wf := openJ_wf64 14 (by omega)
  have c0 : (DSt.of (List.replicate 64 noughts)).Calm := fresh_calm _
  have f0 : (DSt.of (List.replicate 64 noughts)).Few 0 := DSt.of_few _
  have n0 : (DSt.of (List.replicate 64 noughts)).now.length = 64 := List.length_replicate ..
  have p0 : (DSt.of (List.replicate 64 noughts)).writes = [] := rfl
  generalize DSt.of (List.replicate 64 noughts) = d0 at *
  have hl1 : ((imgsP (rowL 1) 1 0).length : Int) + 1 = 2 := by rw [imgsP_length, rowL_length]; rfl
  have hl2 : ((imgsP (rowL 2) 2 0).length : Int) + 1 = 3 := by rw [imgsP_length, rowL_length]; rfl
  have ej : (openJ 64 1 1 14).s = 16 ∧ (openJ 64 1 1 14).t = 14 ∧ (openJ 64 1 1 14).u = 0 ∧ (openJ 64 1 1 14).h = 0 ∧ (openJ 64 1 1 14).epoch = 1 ∧ (openJ 64 1 1 14).next = 1 ∧ (openJ 64 1 1 14).groups = [] := ⟨layL_64', rfl, rfl, rfl, rfl, rfl, rfl⟩
  obtain ⟨i1, i2, i3, i4, i5, i6, i7⟩ := ej
  have hb0 : (openJ 64 1 1 14).broken = false := rfl
  generalize openJ 64 1 1 14 = j0 at *
  obtain ⟨jA, a1, e1, e2, e3, e4, e5, e6, e7, e8, e9, e10, w1⟩ := JSt.append_next w0 (d := d0) (l := imgsP (rowL 1) 1 0) (held := false) (t := 14) (u := 2) (h := 0) (at_ := 14) (by rw [i7]; decide) hb0 (by rw [i5, i6]; exact right_row ⟨by decide, by decide⟩ ⟨by decide, by decide⟩ 1 (by omega) 1) (by rw [hl1, i1]; decide) c0 (by rw [n0, i1]; decide) (by rw [i1, i2, i3, i4]; exact putS_a)
  rw [i1, i5, i6] at a1
  rw [i1] at e2
  rw [i5] at e6
  rw [i6] at e7
  rw [i6, i7, hl1] at e9
  have hn1 : (putP (1 : Int).toNat (1 : Int).toNat (imgsP (rowL 1) 1 0)).length = 2 := by rw [putP_length, imgsP_length, rowL_length]
  generalize putP (1 : Int).toNat (1 : Int).toNat (imgsP (rowL 1) 1 0) = P1 at *
  have cA : (wrD (fun i => 2 + (14 + (i : Int)) % 16) P1 0 d0).Calm := wrD_calm _ _ _ _ c0
  have nA : (wrD (fun i => 2 + (14 + (i : Int)) % 16) P1 0 d0).now.length = 64 := by rw [wrD_len, n0]
  have fA : (wrD (fun i => 2 + (14 + (i : Int)) % 16) P1 0 d0).Few 2 := (wrD_few _ P1 0 d0 0 f0).mono (by omega)
  have pA : (wrD (fun i => 2 + (14 + (i : Int)) % 16) P1 0 d0).writes.map Prod.fst = [16, 17] := by rw [wrD_writes, p0, hn1]; decide
  generalize wrD (fun i => 2 + (14 + (i : Int)) % 16) P1 0 d0 = dA at *
  obtain ⟨jB, a2, x1, x2, x3, x4, x5, x6, x7, x8, x9, x10, w2⟩ := JSt.append_next w1 (d := dA) (l := imgsP (rowL 2) 2 0) (held := false) (t := 14) (u := 5) (h := 0) (at_ := 0) (by rw [e9]; decide) e10 (by rw [e6, e7]; exact right_row ⟨by decide, by decide⟩ ⟨by decide, by decide⟩ 2 (by omega) 2) (by rw [hl2, e2]; decide) cA (by rw [nA, e2]; decide) (by rw [e2, e3, e4, e5]; exact putS_b)
  rw [e2, e6, e7] at a2
  rw [e2] at x2
  rw [e7] at x7
  rw [e7, e9, hl2] at x9
  have hn2 : (putP (1 : Int).toNat (1 + 1 : Int).toNat (imgsP (rowL 2) 2 0)).length = 3 := by rw [putP_length, imgsP_length, rowL_length]
  generalize putP (1 : Int).toNat (1 + 1 : Int).toNat (imgsP (rowL 2) 2 0) = P2 at *
  have cB : (wrD (fun i => 2 + (0 + (i : Int)) % 16) P2 0 dA).Calm := wrD_calm _ _ _ _ cA
  have fB : (wrD (fun i => 2 + (0 + (i : Int)) % 16) P2 0 dA).Few 5 := (wrD_few _ P2 0 dA 2 fA).mono (by omega)
  have pB : (wrD (fun i => 2 + (0 + (i : Int)) % 16) P2 0 dA).writes.map Prod.fst = [16, 17, 2, 3, 4] := by rw [wrD_writes, pA, hn2]; decide
  generalize wrD (fun i => 2 + (0 + (i : Int)) % 16) P2 0 dA = dB at *
  obtain ⟨jF, a3, y1, y2, y3, y4, y5, y6, y7, y8, y9, y10, w3⟩ := JSt.flush_next w2 x10 cB
  rw [x7] at y8
  obtain ⟨jR, a4, z1, z2, z3, z4, z5, z6, z7, z8, z9, z10, w4⟩ := JSt.release_next w3 (seq := 1) (gs := [(2, 3)]) (s := 16) (t := 0) (u := 3) (h := 0) (e := 0) y10 (by rw [y8]; decide) (by rw [y9, x9, y2, x2, y3, x3, y4, x4, y5, x5]; decide)
  exact ⟨jA, jB, jF, jR, dA, dB, _, a1, a2, pB, x3, by rw [x9]; rfl, a3, a4, z3, by rw [z9]; rfl, z9, w0, w1, w2, w3, w4, fA, fB, by rw [e9]; decide⟩
end Go.Proofs.Ytbpdbgcndfcilaa
namespace Go.Proofs.Ytbpdbgcndfcilaa
open Go.RowKit Go.Sl
set_option maxRecDepth 20000

theorem same_ints_at {I : Imm} {S : St} {a1 a2 : Option Addr} {n1 n2 cap1 cap2 : Nat} {z1 z2 : List Int} (h1 : SlC I S a1 n1 (ints z1)) (h2 : SlC I S a2 n2 (ints z2)) (hn : n1 ≤ 9223372036854775806) :
    Tri Try.prog 87 #[.slice a1 n1 cap1, .slice a2 n2 cap2] I S fun v J S' => ∃ b, v = .bool b ∧ (b = true ↔ z1 = z2) ∧ I = J ∧ S' = S := by
  refine Tri.pack ((same_ints _ I a1 a2 n1 n2 cap1 cap2 z1 z2 h1.pack h2.pack hn).mono ?_)
  rintro v J S' hJ ⟨b, rfl, h, rfl, rfl⟩
  exact ⟨[], rfl, b, rfl, h, rfl, by simp⟩
set_option maxHeartbeats 1000000 in
theorem awake08 (I : Imm) (S : St) : Tri Try.prog 25 #[] I S fun v _ _ => v = .bool true := by
  refine Tri.free (Q := fun v _ _ => v = .bool true) ?_ (fun v J _ _ h => h)
  obtain ⟨jA, jB, jF, jR, dA, dB, dF, a1, a2, pB, x3, x4, a3, a4, z3, z4, z5, w0, wA, wB, wF, wR, fA, fB, gA⟩ := awake_pure
  refine Tri.of (args := []) tabOk Try.func25 rfl (by kernel_rfl) (by kernel_rfl) ?_
  refine Tri.frameX (law_open 14 (by omega) I) [] rfl rfl ?_
  rintro v J A' hJ ⟨bD, bJ, chD, chJ, rfl, hD, hj, rfl⟩
  repeat (first
    | refine LoadD.own 0 rfl _ rfl rfl ?_
    | refine LoadD.own 1 rfl _ rfl rfl ?_
    | refine LoadD.own 2 rfl _ rfl rfl ?_
    | refine LoadD.own 3 rfl _ rfl rfl ?_
    | refine LoadD.own 4 rfl _ rfl rfl ?_
    | refine LoadD.own 5 rfl _ rfl rfl ?_
    | refine LoadP.at 0 rfl _ rfl rfl ?_
    | refine LoadP.at 1 rfl _ rfl rfl ?_
    | refine LoadP.at 2 rfl _ rfl rfl ?_
    | refine LoadP.at 3 rfl _ rfl rfl ?_
    | refine LoadP.at 4 rfl _ rfl rfl ?_
    | refine LoadP.at 5 rfl _ rfl rfl ?_
    | refine StoreD.st 0 rfl rfl rfl ?_
    | refine StoreD.st 1 rfl rfl rfl ?_
    | refine StoreD.st 2 rfl rfl rfl ?_
    | refine StoreD.st 3 rfl rfl rfl ?_
    | refine StoreD.st 4 rfl rfl rfl ?_
    | refine StoreD.st 5 rfl rfl rfl ?_
    | refine CmpD.yes rfl ?_
    | refine CmpD.yes (by decide) ?_
    | refine CmpD.no (by decide) ?_
    | refine Chk.mk ⟨rfl, trivial⟩ ?_
    | refine Chk.mk ⟨rfl, rfl, trivial⟩ ?_
    | refine Chk.mk ⟨rfl, rfl, rfl, trivial⟩ ?_
    | refine Chk.mk ⟨rfl, rfl, rfl, rfl, trivial⟩ ?_
    | refine Chk.mk ⟨rfl, rfl, rfl, rfl, rfl, trivial⟩ ?_
    | refine Chk.mk ⟨rfl, rfl, rfl, rfl, rfl, rfl, trivial⟩ ?_)
  refine Tri.free (row_of 1 (by omega) J) ?_
  rintro v J1 _ hJ1 ⟨aR, capR, rfl, hR⟩
  refine Tri.free (images_fix aR capR (rowL 1) (by rw [rowL_length]; omega) (rowL_in 1 (by omega)) 1 (by unfold In64; omega) J1 (by rw [rowL_length]; exact hR)) ?_
  rintro v J2 _ hJ2 ⟨aI, capI, gs, rfl, hI, hgs⟩
  have hgl : gs.length = 1 := by have := congrArg List.length hgs; rwa [List.length_map, imgsP_length, rowL_length] at this
  refine Tri.frame (jk_Append hj w0 (hD.mono (Imm.le_trans hJ1 hJ2)) ((DSt.of_few _).mono (by omega)) (by simp [openJ]) aI capI gs hI (by omega) false) [1, 0] rfl rfl ?_
  rw [hgs, a1]
  rintro v J3 A' hJ3 ⟨rfl, chJA, chDA, hjA, hDA, rfl⟩
  refine ⟨Nat.le_refl _, ?_⟩
  refine Tri.free (row_of 2 (by omega) J3) ?_
  rintro v J4 _ hJ4 ⟨aR2, capR2, rfl, hR2⟩
  refine Tri.free (images_fix aR2 capR2 (rowL 2) (by rw [rowL_length]; omega) (rowL_in 2 (by omega)) 2 (by unfold In64; omega) J4 (by rw [rowL_length]; exact hR2)) ?_
  rintro v J5 _ hJ5 ⟨aI2, capI2, gs2, rfl, hI2, hgs2⟩
  have hgl2 : gs2.length = 2 := by have := congrArg List.length hgs2; rwa [List.length_map, imgsP_length, rowL_length] at this
  refine Tri.frame (jk_Append hjA wA (hDA.mono (Imm.le_trans hJ4 hJ5)) (fA.mono (by omega)) (by dsimp only; omega) aI2 capI2 gs2 hI2 (by omega) false) [1, 0] rfl rfl ?_
  rw [hgs2, a2]
  rintro v J6 A' hJ6 ⟨rfl, chJB, chDB, hjB, hDB, rfl⟩
  refine ⟨Nat.le_refl _, ?_⟩
  refine Tri.frameX (dk_Pending hDB (fB.mono (by omega))) [0] rfl rfl ?_
  rintro v J7 A' hJ7 ⟨aP, capP, chP, rfl, hP, rfl, rfl⟩
  refine Tri.frame1 1 rfl (jk_Tail hjB J6) ?_
  rintro v J7 A' hJ7 ⟨rfl, rfl, rfl⟩
  refine ⟨_, rfl, ?_⟩
  refine Tri.frame (jk_Flush hjB wB hDB) [1, 2] rfl rfl ?_
  rw [a3]
  rintro v J8 A' hJ8 ⟨rfl, chJF, chDF, hjF, hDF, rfl⟩
  refine ⟨Nat.le_refl _, ?_⟩
  refine Tri.frame1 1 rfl (jk_Release hjF wF 1 J8) ?_
  rw [a4]
  rintro v J9 A' hJ9 ⟨rfl, rfl, chJR, hjR, rfl⟩
  refine ⟨_, rfl, ?_⟩
  refine Tri.frame1 1 rfl (jk_Tail hjR J8) ?_
  rintro v J9 A' hJ9 ⟨rfl, rfl, rfl⟩
  refine ⟨_, rfl, ?_⟩
  rw [x3, x4, z3, z4]
  rw [pB] at hP
  have hPl : dB.writes.length = 5 := by have := congrArg List.length pB; rwa [List.length_map] at this
  refine ToD.to 0 rfl ?_
  refine ToD.to 0 rfl ?_
  refine ToD.to 0 rfl ?_
  repeat (first
    | refine LoadD.own 0 rfl _ rfl rfl ?_
    | refine LoadD.own 1 rfl _ rfl rfl ?_
    | refine LoadD.own 2 rfl _ rfl rfl ?_
    | refine LoadD.own 3 rfl _ rfl rfl ?_
    | refine LoadD.own 4 rfl _ rfl rfl ?_
    | refine LoadD.own 5 rfl _ rfl rfl ?_
    | refine LoadP.at 0 rfl _ rfl rfl ?_
    | refine LoadP.at 1 rfl _ rfl rfl ?_
    | refine LoadP.at 2 rfl _ rfl rfl ?_
    | refine LoadP.at 3 rfl _ rfl rfl ?_
    | refine LoadP.at 4 rfl _ rfl rfl ?_
    | refine LoadP.at 5 rfl _ rfl rfl ?_
    | refine StoreD.st 0 rfl rfl rfl ?_
    | refine StoreD.st 1 rfl rfl rfl ?_
    | refine StoreD.st 2 rfl rfl rfl ?_
    | refine StoreD.st 3 rfl rfl rfl ?_
    | refine StoreD.st 4 rfl rfl rfl ?_
    | refine StoreD.st 5 rfl rfl rfl ?_
    | refine CmpD.yes rfl ?_
    | refine CmpD.yes (by decide) ?_
    | refine CmpD.no (by decide) ?_
    | refine Chk.mk ⟨rfl, trivial⟩ ?_
    | refine Chk.mk ⟨rfl, rfl, trivial⟩ ?_
    | refine Chk.mk ⟨rfl, rfl, rfl, trivial⟩ ?_
    | refine Chk.mk ⟨rfl, rfl, rfl, rfl, trivial⟩ ?_
    | refine Chk.mk ⟨rfl, rfl, rfl, rfl, rfl, trivial⟩ ?_
    | refine Chk.mk ⟨rfl, rfl, rfl, rfl, rfl, rfl, trivial⟩ ?_)
  conv => whnf
  intro b70
  refine Tri.nf (same_ints_at (z1 := [16, 17, 2, 3, 4]) (z2 := [16, 17, 2, 3, 4]) ?_ ?_ ?_) ?_
  · exact hP.slC1 3 rfl
  · exact (OwnC.whole (vs := ints [16, 17, 2, 3, 4]) (len := 5) (size := 1) rfl).slC 4 rfl
  · dsimp only; omega
  rintro v J9 S9 hJ9 ⟨b, rfl, hb, rfl, rfl⟩
  have hb : b = true := hb.2 rfl
  subst hb
  repeat (first
    | refine LoadD.own 0 rfl _ rfl rfl ?_
    | refine LoadD.own 1 rfl _ rfl rfl ?_
    | refine LoadD.own 2 rfl _ rfl rfl ?_
    | refine LoadD.own 3 rfl _ rfl rfl ?_
    | refine LoadD.own 4 rfl _ rfl rfl ?_
    | refine LoadD.own 5 rfl _ rfl rfl ?_
    | refine LoadP.at 0 rfl _ rfl rfl ?_
    | refine LoadP.at 1 rfl _ rfl rfl ?_
    | refine LoadP.at 2 rfl _ rfl rfl ?_
    | refine LoadP.at 3 rfl _ rfl rfl ?_
    | refine LoadP.at 4 rfl _ rfl rfl ?_
    | refine LoadP.at 5 rfl _ rfl rfl ?_
    | refine StoreD.st 0 rfl rfl rfl ?_
    | refine StoreD.st 1 rfl rfl rfl ?_
    | refine StoreD.st 2 rfl rfl rfl ?_
    | refine StoreD.st 3 rfl rfl rfl ?_
    | refine StoreD.st 4 rfl rfl rfl ?_
    | refine StoreD.st 5 rfl rfl rfl ?_
    | refine CmpD.yes rfl ?_
    | refine CmpD.yes (by decide) ?_
    | refine CmpD.no (by decide) ?_
    | refine Chk.mk ⟨rfl, trivial⟩ ?_
    | refine Chk.mk ⟨rfl, rfl, trivial⟩ ?_
    | refine Chk.mk ⟨rfl, rfl, rfl, trivial⟩ ?_
    | refine Chk.mk ⟨rfl, rfl, rfl, rfl, trivial⟩ ?_
    | refine Chk.mk ⟨rfl, rfl, rfl, rfl, rfl, trivial⟩ ?_
    | refine Chk.mk ⟨rfl, rfl, rfl, rfl, rfl, rfl, trivial⟩ ?_)
  refine Tri.frameX (jk_Groups hjR wR J8) [1] rfl rfl ?_
  rintro v J9 S9 hJ9 ⟨aG, capG, chG, rfl, hG, rfl, rfl⟩
  rw [z5] at hG
  rw [z5]
  conv => whnf
  intro b92
  refine Tri.nf (same_ints_at (z1 := [2]) (z2 := [2]) ?_ ?_ ?_) ?_
  · exact hG.slC1 6 rfl
  · exact (OwnC.whole (vs := ints [2]) (len := 1) (size := 1) rfl).slC 7 rfl
  · decide
  rintro v J9 S9 hJ9 ⟨b, rfl, hb, rfl, rfl⟩
  have hb : b = true := hb.2 rfl
  subst hb
  exact Done.mk rfl
end Go.Proofs.Ytbpdbgcndfcilaa
