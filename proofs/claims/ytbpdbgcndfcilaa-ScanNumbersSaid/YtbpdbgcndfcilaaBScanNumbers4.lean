/- Texts of this claim laid together: Rf4, Rf4b, CopyImgs, Awake10, Rf10b, ScanA, Rf4c, Rf4d, Rf4e, Rf4f, Rf4g, Rf4h, R9a, Awake08, Awk08, LowPick, Img9, JNum, Wi, ScanP, Written, Rf10c, Do, Rf10d, Ref03c, Rf10a, Image, JournalNumbers, ReplayNumbers, ReplayTells, Same9, ScanAny, SameG, Num9, Others9, ScanNumbers. -/
import Derived.Test.YtbpdbgcndfcilaaBScanNumbers2
import Derived.Test.YtbpdbgcndfcilaaBScanNumbers3
import Derived.Test.YtbpdbgcndfcilaaBScanNumbers1
namespace Go.Proofs.Ytbpdbgcndfcilaa
open Go.RowKit Go.Sl
set_option maxRecDepth 20000

def gv (g : Gate) : Int := if g.on then g.left else -1
@[reducible] def rV (s w : Hd) (count : Int) (down : Bool) (arm fault : Int) : Value := .agg #[s.v, w.v, .int .i64 count, .bool down, .int .i64 arm, .int .i64 fault]
end Go.Proofs.Ytbpdbgcndfcilaa
namespace Go.Proofs.Ytbpdbgcndfcilaa
open Go.RowKit Go.Sl
set_option maxRecDepth 20000

def atP (b : Dat) (l : List PImg) (n : Int) : Dat := l.foldl (fun x g => if g.1 = n then g.2 else x) b
end Go.Proofs.Ytbpdbgcndfcilaa
namespace Go.Proofs.Ytbpdbgcndfcilaa
open Go.RowKit Go.Sl
set_option maxRecDepth 20000

end Go.Proofs.Ytbpdbgcndfcilaa
namespace Go.Proofs.Ytbpdbgcndfcilaa
open Go.RowKit Go.Sl
set_option maxRecDepth 20000

end Go.Proofs.Ytbpdbgcndfcilaa
namespace Go.Proofs.Ytbpdbgcndfcilaa
open Go.RowKit Go.Sl
set_option maxRecDepth 20000

/-! ### the last image of a block -/
end Go.Proofs.Ytbpdbgcndfcilaa
namespace Go.Proofs.Ytbpdbgcndfcilaa
open Go.RowKit Go.Sl
set_option maxRecDepth 20000

/-- the arguments are as they must be -/
def ScanOk (n : Nat) (x : Lay) (s : Sup) : Prop := 64 ≤ n ∧ x = layOf n ∧ s.blocks = n ∧ 0 ≤ s.tail ∧ s.tail < layL n ∧ 1 ≤ s.epoch ∧ s.epoch ≤ 8388608 ∧ 1 ≤ s.seq ∧ s.seq ≤ 549755813888
noncomputable def scanL (d : DSt) (s : Sup) : List G3 := scanK (rbP d 2 (layL (d.now.length : Int)).toNat) s.epoch ((layL (d.now.length : Int)).toNat + 1) s.tail.toNat s.seq (layL (d.now.length : Int)).toNat
def placeP (lb tail : Nat) (l : List G3) : Nat := (tail + (l.map fun g => g.2.2.length + 1).sum) % lb
structure GrpsOk (J : Imm) (gl : List Grp) (l : List G3) : Prop where
  each : ∀ g ∈ gl, ImgsOk J g.a g.gs
  g3 : gl.map Grp.g3 = l.map up3
theorem GrpsOk.mono {I J : Imm} {gl : List Grp} {l : List G3} (h : GrpsOk I gl l) (hJ : I.le J) : GrpsOk J gl l := ⟨fun g hg => (h.each g hg).mono hJ, h.g3⟩
theorem GrpsOk.len {J : Imm} {gl : List Grp} {l : List G3} (h : GrpsOk J gl l) : gl.length = l.length := by have := congrArg List.length h.g3; simpa using this
theorem grpCells_snoc (l : List Grp) (g : Grp) : grpCells (l ++ [g]) = grpCells l ++ [.int .i64 g.e, .int .i64 g.s, .slice g.a g.gs.length g.cap] := by simp [grpCells]
theorem scan_bound {rb : Nat → Dat} {ep : Int} : ∀ (f at_ : Nat) (seq : Int) (room : Nat), (scanK rb ep f at_ seq room).length ≤ room ∧ ((scanK rb ep f at_ seq room).map fun g => g.2.2.length + 1).sum ≤ room
  | 0, _, _, _ => by simp [scanK]
  | f + 1, at_, seq, room => by
    rw [scanK]
    cases hg : grpP rb at_ room with
    | none => simp
    | some p =>
      obtain ⟨e, s, l⟩ := p
      dsimp only
      split
      · have h1 := grpP_room hg
        obtain ⟨h2, h3⟩ := scan_bound f (at_ + (l.length + 1)) (seq + 1) (room - (l.length + 1)) (rb := rb) (ep := ep)
        simp only [List.length_cons, List.map_cons, List.sum_cons]
        omega
      · simp
theorem ring_groups (bR : Nat) (s : Sup) (I : Imm) : Tri Try.prog 96 #[.pointer (some ⟨bR, 0, none⟩), s.v] I [] fun v J S' => ∃ bS bP, v = .func (.func 129) #[] #[.pointer (some ⟨bS, 0, none⟩), .pointer (some ⟨bP, 0, none⟩)] ∧ I = J ∧ S' = [[(bP, row [.pointer (some ⟨bR, 0, none⟩)] 140)], sBoxS bS s] := by
  refine Tri.of (args := [.pointer (some ⟨bR, 0, none⟩), s.v]) tabOk Try.func96 rfl (by kernel_rfl) (by kernel_rfl) ?_
  conv => whnf
  intro bP
  conv => whnf
  intro bS
  exact Done.mk ⟨bS, bP, rfl, rfl, rfl⟩
theorem placeP_snoc (lb tail : Nat) (l : List G3) (g : G3) : placeP lb tail (l ++ [g]) = (tail + (l.map fun g => g.2.2.length + 1).sum + (g.2.2.length + 1)) % lb := by
  unfold placeP
  rw [List.map_append, List.sum_append]
  simp [Nat.add_assoc]
set_option maxHeartbeats 8000000 in
theorem scan_Groups {I : Imm} {bD : Nat} {d : DSt} {chD : List Blk} (hD : Dk I bD d chD) (x : Lay) (s : Sup) :
    Tri Try.prog 36 #[.pointer (some ⟨bD, 0, none⟩), x.v, s.v] I [chD] fun v J S' => S' = [chD] ∧
      ((¬ ScanOk d.now.length x s ∧ v = .tuple #[.slice none 0 0, .int .i64 0, .int .i64 2]) ∨
       (ScanOk d.now.length x s ∧ d.down = true ∧ v = .tuple #[.slice none 0 0, .int .i64 0, .int .i64 6]) ∨
       (ScanOk d.now.length x s ∧ d.down = false ∧ ∃ aO capO gl, v = .tuple #[.slice aO gl.length capO, .int .i64 (placeP (layL d.now.length).toNat s.tail.toNat (scanL d s) : Nat), .int .i64 0] ∧ Rds J aO (gl.length * 3) (grpCells gl) ∧ GrpsOk J gl (scanL d s))) := by
  have hr := hD.wf.range
  refine Tri.drop (Tri.fixed (Q := fun v J S' => ∃ chO, S' = [chD, chO] ∧
      ((¬ ScanOk d.now.length x s ∧ v = .tuple #[.slice none 0 0, .int .i64 0, .int .i64 2]) ∨
       (ScanOk d.now.length x s ∧ d.down = true ∧ v = .tuple #[.slice none 0 0, .int .i64 0, .int .i64 6]) ∨
       (ScanOk d.now.length x s ∧ d.down = false ∧ ∃ aO capO gl, v = .tuple #[.slice aO gl.length capO, .int .i64 (placeP (layL d.now.length).toNat s.tail.toNat (scanL d s) : Nat), .int .i64 0] ∧ OwnC chO 3 aO gl.length capO (grpCells gl) ∧ GrpsOk J gl (scanL d s)))) ?_
    (K := fun v J S' => S' = [chD, []] ∧
      ((¬ ScanOk d.now.length x s ∧ v = .tuple #[.slice none 0 0, .int .i64 0, .int .i64 2]) ∨
       (ScanOk d.now.length x s ∧ d.down = true ∧ v = .tuple #[.slice none 0 0, .int .i64 0, .int .i64 6]) ∨
       (ScanOk d.now.length x s ∧ d.down = false ∧ ∃ aO capO gl, v = .tuple #[.slice aO gl.length capO, .int .i64 (placeP (layL d.now.length).toNat s.tail.toNat (scanL d s) : Nat), .int .i64 0] ∧ Rds J aO (gl.length * 3) (grpCells gl) ∧ GrpsOk J gl (scanL d s)))) ?_) ?_
  rotate_left
  · rintro v J S' hJ ⟨chO, rfl, h⟩
    refine ⟨1, chO, rfl, fun J' hJ' hm => ⟨rfl, ?_⟩⟩
    rcases h with h | h | ⟨h1, h2, aO, capO, gl, rfl, hO, hg⟩
    · exact .inl h
    · exact .inr (.inl h)
    · exact .inr (.inr ⟨h1, h2, aO, capO, gl, rfl, Rds.of_ownS hO hm, hg.mono hJ'⟩)
  · rintro v J S' hJ ⟨rfl, h⟩
    exact ⟨[chD], Drop.pick [0] _ rfl, rfl, h⟩
  refine Tri.drop ?_ (fun _ _ _ _ h => h)
  obtain ⟨s1, s2, s3, s4⟩ := s
  refine Tri.of (args := [.pointer (some ⟨bD, 0, none⟩), x.v, (⟨s1, s2, s3, s4⟩ : Sup).v]) tabOk Try.func36 rfl (by kernel_rfl) (by kernel_rfl) ?_
  conv => whnf
  intro b4
  conv => whnf
  intro b5
  refine Tri.frame1 0 rfl (dk_Size hD) ?_
  rintro v J S' hJ ⟨rfl, rfl, rfl⟩
  refine ⟨_, rfl, ?_⟩
  refine CmpD.no (by omega) ?_
  repeat (first
    | refine LoadD.own 0 rfl _ rfl rfl ?_
    | refine LoadD.own 1 rfl _ rfl rfl ?_
    | refine LoadD.own 2 rfl _ rfl rfl ?_
    | refine LoadP.at 0 rfl _ rfl rfl ?_
    | refine LoadP.at 1 rfl _ rfl rfl ?_
    | refine LoadP.at 2 rfl _ rfl rfl ?_
    | refine StoreD.st 0 rfl rfl rfl ?_
    | refine StoreD.st 1 rfl rfl rfl ?_
    | refine StoreD.st 2 rfl rfl rfl ?_
    | refine CmpD.yes rfl ?_
    | refine CmpD.yes (by decide) ?_
    | refine CmpD.no (by decide) ?_
    | refine Chk.mk ⟨rfl, trivial⟩ ?_
    | refine Chk.mk ⟨rfl, rfl, trivial⟩ ?_
    | refine Chk.mk ⟨rfl, rfl, rfl, trivial⟩ ?_
    | refine Chk.mk ⟨rfl, rfl, rfl, rfl, trivial⟩ ?_
    | refine Chk.mk ⟨rfl, rfl, rfl, rfl, rfl, trivial⟩ ?_
    | refine Chk.mk ⟨rfl, rfl, rfl, rfl, rfl, rfl, trivial⟩ ?_)
  refine Tri.frame1 0 rfl (dk_Size hD) ?_
  rintro v J S' hJ ⟨rfl, rfl, rfl⟩
  refine ⟨_, rfl, ?_⟩
  repeat (first
    | refine LoadD.own 0 rfl _ rfl rfl ?_
    | refine LoadD.own 1 rfl _ rfl rfl ?_
    | refine LoadD.own 2 rfl _ rfl rfl ?_
    | refine LoadP.at 0 rfl _ rfl rfl ?_
    | refine LoadP.at 1 rfl _ rfl rfl ?_
    | refine LoadP.at 2 rfl _ rfl rfl ?_
    | refine StoreD.st 0 rfl rfl rfl ?_
    | refine StoreD.st 1 rfl rfl rfl ?_
    | refine StoreD.st 2 rfl rfl rfl ?_
    | refine CmpD.yes rfl ?_
    | refine CmpD.yes (by decide) ?_
    | refine CmpD.no (by decide) ?_
    | refine Chk.mk ⟨rfl, trivial⟩ ?_
    | refine Chk.mk ⟨rfl, rfl, trivial⟩ ?_
    | refine Chk.mk ⟨rfl, rfl, rfl, trivial⟩ ?_
    | refine Chk.mk ⟨rfl, rfl, rfl, rfl, trivial⟩ ?_
    | refine Chk.mk ⟨rfl, rfl, rfl, rfl, rfl, trivial⟩ ?_
    | refine Chk.mk ⟨rfl, rfl, rfl, rfl, rfl, rfl, trivial⟩ ?_)
  obtain ⟨n, hn⟩ : ∃ n, n = d.now.length := ⟨_, rfl⟩
  rw [← hn] at hr ⊢
  refine Tri.free (layout_Of n I) ?_
  rintro v J _ hJ ⟨rfl, rfl⟩
  have badS : ∀ (J : Imm) (S : St), Drop S [chD] → ¬ ScanOk n x ⟨s1, s2, s3, s4⟩ → ∃ S'', Drop S S'' ∧ ∃ chO, S'' = [chD, chO] ∧
      ((¬ ScanOk n x ⟨s1, s2, s3, s4⟩ ∧ Value.tuple #[.slice none 0 0, .int .i64 0, .int .i64 2] = .tuple #[.slice none 0 0, .int .i64 0, .int .i64 2]) ∨
       (ScanOk n x ⟨s1, s2, s3, s4⟩ ∧ d.down = true ∧ Value.tuple #[.slice none 0 0, .int .i64 0, .int .i64 2] = .tuple #[.slice none 0 0, .int .i64 0, .int .i64 6]) ∨
       (ScanOk n x ⟨s1, s2, s3, s4⟩ ∧ d.down = false ∧ ∃ aO capO gl, Value.tuple #[.slice none 0 0, .int .i64 0, .int .i64 2] = .tuple #[.slice aO gl.length capO, .int .i64 (placeP (layL n).toNat s4.toNat (scanL d ⟨s1, s2, s3, s4⟩) : Nat), .int .i64 0] ∧ OwnC chO 3 aO gl.length capO (grpCells gl) ∧ GrpsOk J gl (scanL d ⟨s1, s2, s3, s4⟩))) :=
    fun J S hd hno => ⟨[chD, []], hd.and, [], rfl, .inl ⟨hno, rfl⟩⟩
  by_cases hb : (n : Int) < 64 ∨ 512 < (n : Int)
  · rw [layA, if_pos hb]
    conv => whnf
    intro b9
    repeat (first
      | refine LoadD.own 0 rfl _ rfl rfl ?_
      | refine LoadD.own 1 rfl _ rfl rfl ?_
      | refine LoadD.own 2 rfl _ rfl rfl ?_
      | refine LoadD.own 3 rfl _ rfl rfl ?_
      | refine LoadP.at 0 rfl _ rfl rfl ?_
      | refine LoadP.at 1 rfl _ rfl rfl ?_
      | refine LoadP.at 2 rfl _ rfl rfl ?_
      | refine LoadP.at 3 rfl _ rfl rfl ?_
      | refine StoreD.st 0 rfl rfl rfl ?_
      | refine StoreD.st 1 rfl rfl rfl ?_
      | refine StoreD.st 2 rfl rfl rfl ?_
      | refine StoreD.st 3 rfl rfl rfl ?_
      | refine CmpD.yes rfl ?_
      | refine CmpD.yes (by decide) ?_
      | refine CmpD.no (by decide) ?_
      | refine Chk.mk ⟨rfl, trivial⟩ ?_
      | refine Chk.mk ⟨rfl, rfl, trivial⟩ ?_
      | refine Chk.mk ⟨rfl, rfl, rfl, trivial⟩ ?_
      | refine Chk.mk ⟨rfl, rfl, rfl, rfl, trivial⟩ ?_
      | refine Chk.mk ⟨rfl, rfl, rfl, rfl, rfl, trivial⟩ ?_
      | refine Chk.mk ⟨rfl, rfl, rfl, rfl, rfl, rfl, trivial⟩ ?_)
    refine CodeF.sched [[], [0], [0, 1], [0, 1, 2], [0, 1, 2], [0, 1, 2, 3, 4], [0, 1, 2, 3, 4, 5], [0, 1, 2, 3, 4, 5, 6], [0, 1, 2, 3, 4, 5, 6, 7], [0, 1, 2, 3, 4, 5, 6, 7, 8], [0, 1, 2, 3, 4, 5, 6, 7], [0, 1, 2, 3, 4, 5, 6, 7, 10], [0, 1, 2, 3, 4, 5, 6, 7, 8, 9, 10, 11], [0, 1, 2, 3, 4, 5, 6, 7, 8, 9, 10, 11, 12], [0, 1, 2, 3, 4, 5, 6, 7, 8, 9, 10, 11, 12, 13], [0, 1, 2, 3, 4, 5, 6, 7, 8, 9, 10, 11, 12, 13, 14], [0, 1, 2, 3, 4, 5, 6, 7, 8, 9, 10, 11, 12, 13, 14, 15], [0, 1, 2, 3, 4, 5, 6, 7, 8, 9, 10, 11, 12, 13, 14, 15, 16], [0, 1, 2, 3, 4, 5, 6, 7, 8, 9, 10, 11, 12, 13, 14, 15, 16, 17], [0, 1, 2, 3, 4, 5, 6, 7, 8, 9, 10, 11, 12, 13, 14, 15, 16, 17, 18], [0, 1, 2, 3, 4, 5, 6, 7, 8, 9, 10, 11, 12, 13, 14, 15, 16, 17, 18, 19], [0, 1, 2, 3, 4, 5, 6, 7, 8, 9, 10, 11, 12, 13, 14, 15, 16, 17, 18, 19, 20], [0, 1, 2, 3, 4, 5, 6, 7, 8, 9, 10, 11, 12, 13, 14, 15, 16, 17, 18, 19], [0, 1, 2, 3, 4, 5, 6, 7, 8, 9, 10, 11, 12, 13, 14, 15, 16, 17, 18, 19, 22], [0, 1, 2, 3, 4, 5, 6, 7, 8, 9, 10, 11, 12, 13, 14, 15, 16, 17, 18, 19, 20, 21, 22, 23], [0, 1, 2, 3, 4, 5, 6, 7, 8, 9, 10, 11, 12, 13, 14, 15, 16, 17, 18, 19, 20, 21, 22, 23, 24], [0, 1, 2, 3, 4, 5, 6, 7, 8, 9, 10, 11, 12, 13, 14, 15, 16, 17, 18, 19, 20, 21, 22, 23, 24, 25], [0, 1, 2, 3, 4, 5, 6, 7, 8, 9, 10, 11, 12, 13, 14, 15, 16, 17, 18, 19, 20, 21, 22, 23, 24, 25, 26], [0, 1, 2, 3, 4, 5, 6, 7, 8, 9, 10, 11, 12, 13, 14, 15, 16, 17, 18, 19, 20, 21, 22, 23, 24, 25, 26, 27], [0, 1, 2, 3, 4, 5, 6, 7, 8, 9, 10, 11, 12, 13, 14, 15, 16, 17, 18, 19, 20, 21, 22, 23, 24, 25, 26, 27, 28], [0, 1, 2, 3, 4, 5, 6, 7, 8, 9, 10, 11, 12, 13, 14, 15, 16, 17, 18, 19, 20, 21, 22, 23, 24, 25, 26, 27, 28, 29], [0, 1, 2, 3, 4, 5, 6, 7, 8, 9, 10, 11, 12, 13, 14, 15, 16, 17, 18, 19, 20, 21, 22, 23, 24, 25, 26, 27, 28, 29, 30], [0, 1, 2, 3, 4, 5, 6, 7, 8, 9, 10, 11, 12, 13, 14, 15, 16, 17, 18, 19, 20, 21, 22, 23, 24, 25, 26, 27, 28, 29, 30, 31], [0, 1, 2, 3, 4, 5, 6, 7, 8, 9, 10, 11, 12, 13, 14, 15, 16, 17, 18, 19, 20, 21, 22, 23, 24, 25, 26, 27, 28, 29, 30, 31, 32], [0, 1, 2, 3, 4, 5, 6, 7, 8, 9, 10, 11, 12, 13, 14, 15, 16, 17, 18, 19, 20, 21, 22, 23, 24, 25, 26, 27, 28, 29, 30, 31, 32, 33], [0, 1, 2, 3, 4, 5, 6, 7, 8, 9, 10, 11, 12, 13, 14, 15, 16, 17, 18, 19, 20, 21, 22, 23, 24, 25, 26, 27, 28, 29, 30, 31, 32, 33, 34], [0, 1, 2, 3, 4, 5, 6, 7, 8, 9, 10, 11, 12, 13, 14, 15, 16, 17, 18, 19, 20, 21, 22, 23, 24, 25, 26, 27, 28, 29, 30, 31, 32, 33, 34, 35], [0, 1, 2, 3, 4, 5, 6, 7, 8, 9, 10, 11, 12, 13, 14, 15, 16, 17, 18, 19, 20, 21, 22, 23, 24, 25, 26, 27, 28, 29, 30, 31, 32, 33, 34, 35, 36], [0, 1, 2, 3, 4, 5, 6, 7, 8, 9, 10, 11, 12, 13, 14, 15, 16, 17, 18, 19, 20, 21, 22, 23, 24, 25, 26, 27, 28, 29, 30, 31, 32, 33, 34, 35, 36, 37], [0, 1, 2, 3, 4, 5, 6, 7, 8, 9, 10, 11, 12, 13, 14, 15, 16, 17, 18, 19, 20, 21, 22, 23, 24, 25, 26, 27, 28, 29, 30, 31, 32, 33, 34, 35, 36, 37, 38], [0, 1, 2, 3, 4, 5, 6, 7, 8, 9, 10, 11, 12, 13, 14, 15, 16, 17, 18, 19, 20, 21, 22, 23, 24, 25, 26, 27, 28, 29, 30, 31, 32, 33, 34, 35, 36, 37, 38, 39], [0, 1, 2, 3, 4, 5, 6, 7, 8, 9, 10, 11, 12, 13, 14, 15, 16, 17, 18, 19, 20, 21, 22, 23, 24, 25, 26, 27, 28, 29, 30, 31, 32, 33, 34, 35, 36, 37, 38, 39, 40], [0, 1, 2, 3, 4, 5, 6, 7, 8, 9, 10, 11, 12, 13, 14, 15, 16, 17, 18, 19, 20, 21, 22, 23, 24, 25, 26, 27, 28, 29, 30, 31, 32, 33, 34, 35, 36, 37, 38, 39, 40, 41], [0, 1, 2, 3, 4, 5, 6, 7, 8, 9, 10, 11, 12, 13, 14, 15, 16, 17, 18, 19, 20, 21, 22, 23, 24, 25, 26, 27, 28, 29, 30, 31, 32, 33, 34, 35, 36, 37, 38, 39, 40, 41, 42], [0, 1, 2, 3, 4, 5, 6, 7, 8, 9, 10, 11, 12, 13, 14, 15, 16, 17, 18, 19, 20, 21, 22, 23, 24, 25, 26, 27, 28, 29, 30, 31, 32, 33, 34, 35, 36, 37, 38, 39, 40, 41, 42, 43], [0, 1, 2, 3, 4, 5, 6, 7, 8, 9, 10, 11, 12, 13, 14, 15, 16, 17, 18, 19, 20, 21, 22, 23, 24, 25, 26, 27, 28, 29, 30, 31, 32, 33, 34, 35, 36, 37, 38, 39, 40, 41, 42, 43, 44]] [0, 1, 2, 3, 4, 5, 6, 7, 8, 9, 10, 11, 12, 13, 14, 15, 16, 17, 18, 19, 20, 21, 22, 23, 24, 25, 26, 27, 28, 29, 30, 31, 32, 33, 34, 35, 36, 37, 38, 39, 40, 41, 42, 43, 44, 45] (by kernel_rfl) ?_
    repeat (first
      | refine LoadD.own 0 rfl _ rfl rfl ?_
      | refine LoadD.own 1 rfl _ rfl rfl ?_
      | refine LoadD.own 2 rfl _ rfl rfl ?_
      | refine LoadD.own 3 rfl _ rfl rfl ?_
      | refine LoadP.at 0 rfl _ rfl rfl ?_
      | refine LoadP.at 1 rfl _ rfl rfl ?_
      | refine LoadP.at 2 rfl _ rfl rfl ?_
      | refine LoadP.at 3 rfl _ rfl rfl ?_
      | refine StoreD.st 0 rfl rfl rfl ?_
      | refine StoreD.st 1 rfl rfl rfl ?_
      | refine StoreD.st 2 rfl rfl rfl ?_
      | refine StoreD.st 3 rfl rfl rfl ?_
      | refine CmpD.yes rfl ?_
      | refine CmpD.yes (by decide) ?_
      | refine CmpD.no (by decide) ?_
      | refine Chk.mk ⟨rfl, trivial⟩ ?_
      | refine Chk.mk ⟨rfl, rfl, trivial⟩ ?_
      | refine Chk.mk ⟨rfl, rfl, rfl, trivial⟩ ?_
      | refine Chk.mk ⟨rfl, rfl, rfl, rfl, trivial⟩ ?_
      | refine Chk.mk ⟨rfl, rfl, rfl, rfl, rfl, trivial⟩ ?_
      | refine Chk.mk ⟨rfl, rfl, rfl, rfl, rfl, rfl, trivial⟩ ?_)
    exact Done.mk (badS _ _ (Drop.pick [0] _ rfl) (fun h => by have := h.1; omega))
  rw [layA, if_neg hb]
  have hL := layL_range (n := (n : Int)) (by omega)
  conv => whnf
  intro b9
  repeat (first
    | refine LoadD.own 0 rfl _ rfl rfl ?_
    | refine LoadD.own 1 rfl _ rfl rfl ?_
    | refine LoadD.own 2 rfl _ rfl rfl ?_
    | refine LoadD.own 3 rfl _ rfl rfl ?_
    | refine LoadP.at 0 rfl _ rfl rfl ?_
    | refine LoadP.at 1 rfl _ rfl rfl ?_
    | refine LoadP.at 2 rfl _ rfl rfl ?_
    | refine LoadP.at 3 rfl _ rfl rfl ?_
    | refine StoreD.st 0 rfl rfl rfl ?_
    | refine StoreD.st 1 rfl rfl rfl ?_
    | refine StoreD.st 2 rfl rfl rfl ?_
    | refine StoreD.st 3 rfl rfl rfl ?_
    | refine CmpD.yes rfl ?_
    | refine CmpD.yes (by decide) ?_
    | refine CmpD.no (by decide) ?_
    | refine Chk.mk ⟨rfl, trivial⟩ ?_
    | refine Chk.mk ⟨rfl, rfl, trivial⟩ ?_
    | refine Chk.mk ⟨rfl, rfl, rfl, trivial⟩ ?_
    | refine Chk.mk ⟨rfl, rfl, rfl, rfl, trivial⟩ ?_
    | refine Chk.mk ⟨rfl, rfl, rfl, rfl, rfl, trivial⟩ ?_
    | refine Chk.mk ⟨rfl, rfl, rfl, rfl, rfl, rfl, trivial⟩ ?_)
  refine CodeF.sched [[], [0], [0, 1], [0, 1, 2], [0, 1, 2], [0, 1, 2, 3, 4], [0, 1, 2, 3, 4, 5], [0, 1, 2, 3, 4, 5, 6], [0, 1, 2, 3, 4, 5, 6, 7], [0, 1, 2, 3, 4, 5, 6, 7, 8], [0, 1, 2, 3, 4, 5, 6, 7], [0, 1, 2, 3, 4, 5, 6, 7, 10], [0, 1, 2, 3, 4, 5, 6, 7, 8, 9, 10, 11], [0, 1, 2, 3, 4, 5, 6, 7, 8, 9, 10, 11, 12], [0, 1, 2, 3, 4, 5, 6, 7, 8, 9, 10, 11, 12, 13], [0, 1, 2, 3, 4, 5, 6, 7, 8, 9, 10, 11, 12, 13, 14], [0, 1, 2, 3, 4, 5, 6, 7, 8, 9, 10, 11, 12, 13, 14, 15], [0, 1, 2, 3, 4, 5, 6, 7, 8, 9, 10, 11, 12, 13, 14, 15, 16], [0, 1, 2, 3, 4, 5, 6, 7, 8, 9, 10, 11, 12, 13, 14, 15, 16, 17], [0, 1, 2, 3, 4, 5, 6, 7, 8, 9, 10, 11, 12, 13, 14, 15, 16, 17, 18], [0, 1, 2, 3, 4, 5, 6, 7, 8, 9, 10, 11, 12, 13, 14, 15, 16, 17, 18, 19], [0, 1, 2, 3, 4, 5, 6, 7, 8, 9, 10, 11, 12, 13, 14, 15, 16, 17, 18, 19, 20], [0, 1, 2, 3, 4, 5, 6, 7, 8, 9, 10, 11, 12, 13, 14, 15, 16, 17, 18, 19], [0, 1, 2, 3, 4, 5, 6, 7, 8, 9, 10, 11, 12, 13, 14, 15, 16, 17, 18, 19, 22], [0, 1, 2, 3, 4, 5, 6, 7, 8, 9, 10, 11, 12, 13, 14, 15, 16, 17, 18, 19, 20, 21, 22, 23], [0, 1, 2, 3, 4, 5, 6, 7, 8, 9, 10, 11, 12, 13, 14, 15, 16, 17, 18, 19, 20, 21, 22, 23, 24], [0, 1, 2, 3, 4, 5, 6, 7, 8, 9, 10, 11, 12, 13, 14, 15, 16, 17, 18, 19, 20, 21, 22, 23, 24, 25], [0, 1, 2, 3, 4, 5, 6, 7, 8, 9, 10, 11, 12, 13, 14, 15, 16, 17, 18, 19, 20, 21, 22, 23, 24, 25, 26], [0, 1, 2, 3, 4, 5, 6, 7, 8, 9, 10, 11, 12, 13, 14, 15, 16, 17, 18, 19, 20, 21, 22, 23, 24, 25, 26, 27], [0, 1, 2, 3, 4, 5, 6, 7, 8, 9, 10, 11, 12, 13, 14, 15, 16, 17, 18, 19, 20, 21, 22, 23, 24, 25, 26, 27, 28], [0, 1, 2, 3, 4, 5, 6, 7, 8, 9, 10, 11, 12, 13, 14, 15, 16, 17, 18, 19, 20, 21, 22, 23, 24, 25, 26, 27, 28, 29], [0, 1, 2, 3, 4, 5, 6, 7, 8, 9, 10, 11, 12, 13, 14, 15, 16, 17, 18, 19, 20, 21, 22, 23, 24, 25, 26, 27, 28, 29, 30], [0, 1, 2, 3, 4, 5, 6, 7, 8, 9, 10, 11, 12, 13, 14, 15, 16, 17, 18, 19, 20, 21, 22, 23, 24, 25, 26, 27, 28, 29, 30, 31], [0, 1, 2, 3, 4, 5, 6, 7, 8, 9, 10, 11, 12, 13, 14, 15, 16, 17, 18, 19, 20, 21, 22, 23, 24, 25, 26, 27, 28, 29, 30, 31, 32], [0, 1, 2, 3, 4, 5, 6, 7, 8, 9, 10, 11, 12, 13, 14, 15, 16, 17, 18, 19, 20, 21, 22, 23, 24, 25, 26, 27, 28, 29, 30, 31, 32, 33], [0, 1, 2, 3, 4, 5, 6, 7, 8, 9, 10, 11, 12, 13, 14, 15, 16, 17, 18, 19, 20, 21, 22, 23, 24, 25, 26, 27, 28, 29, 30, 31, 32, 33, 34], [0, 1, 2, 3, 4, 5, 6, 7, 8, 9, 10, 11, 12, 13, 14, 15, 16, 17, 18, 19, 20, 21, 22, 23, 24, 25, 26, 27, 28, 29, 30, 31, 32, 33, 34, 35], [0, 1, 2, 3, 4, 5, 6, 7, 8, 9, 10, 11, 12, 13, 14, 15, 16, 17, 18, 19, 20, 21, 22, 23, 24, 25, 26, 27, 28, 29, 30, 31, 32, 33, 34, 35, 36], [0, 1, 2, 3, 4, 5, 6, 7, 8, 9, 10, 11, 12, 13, 14, 15, 16, 17, 18, 19, 20, 21, 22, 23, 24, 25, 26, 27, 28, 29, 30, 31, 32, 33, 34, 35, 36, 37], [0, 1, 2, 3, 4, 5, 6, 7, 8, 9, 10, 11, 12, 13, 14, 15, 16, 17, 18, 19, 20, 21, 22, 23, 24, 25, 26, 27, 28, 29, 30, 31, 32, 33, 34, 35, 36, 37, 38], [0, 1, 2, 3, 4, 5, 6, 7, 8, 9, 10, 11, 12, 13, 14, 15, 16, 17, 18, 19, 20, 21, 22, 23, 24, 25, 26, 27, 28, 29, 30, 31, 32, 33, 34, 35, 36, 37, 38, 39], [0, 1, 2, 3, 4, 5, 6, 7, 8, 9, 10, 11, 12, 13, 14, 15, 16, 17, 18, 19, 20, 21, 22, 23, 24, 25, 26, 27, 28, 29, 30, 31, 32, 33, 34, 35, 36, 37, 38, 39, 40], [0, 1, 2, 3, 4, 5, 6, 7, 8, 9, 10, 11, 12, 13, 14, 15, 16, 17, 18, 19, 20, 21, 22, 23, 24, 25, 26, 27, 28, 29, 30, 31, 32, 33, 34, 35, 36, 37, 38, 39, 40, 41], [0, 1, 2, 3, 4, 5, 6, 7, 8, 9, 10, 11, 12, 13, 14, 15, 16, 17, 18, 19, 20, 21, 22, 23, 24, 25, 26, 27, 28, 29, 30, 31, 32, 33, 34, 35, 36, 37, 38, 39, 40, 41, 42], [0, 1, 2, 3, 4, 5, 6, 7, 8, 9, 10, 11, 12, 13, 14, 15, 16, 17, 18, 19, 20, 21, 22, 23, 24, 25, 26, 27, 28, 29, 30, 31, 32, 33, 34, 35, 36, 37, 38, 39, 40, 41, 42, 43], [0, 1, 2, 3, 4, 5, 6, 7, 8, 9, 10, 11, 12, 13, 14, 15, 16, 17, 18, 19, 20, 21, 22, 23, 24, 25, 26, 27, 28, 29, 30, 31, 32, 33, 34, 35, 36, 37, 38, 39, 40, 41, 42, 43, 44]] [0, 1, 2, 3, 4, 5, 6, 7, 8, 9, 10, 11, 12, 13, 14, 15, 16, 17, 18, 19, 20, 21, 22, 23, 24, 25, 26, 27, 28, 29, 30, 31, 32, 33, 34, 35, 36, 37, 38, 39, 40, 41, 42, 43, 44, 45] (by kernel_rfl) ?_
  repeat (first
    | refine LoadD.own 0 rfl _ rfl rfl ?_
    | refine LoadD.own 1 rfl _ rfl rfl ?_
    | refine LoadD.own 2 rfl _ rfl rfl ?_
    | refine LoadD.own 3 rfl _ rfl rfl ?_
    | refine LoadP.at 0 rfl _ rfl rfl ?_
    | refine LoadP.at 1 rfl _ rfl rfl ?_
    | refine LoadP.at 2 rfl _ rfl rfl ?_
    | refine LoadP.at 3 rfl _ rfl rfl ?_
    | refine StoreD.st 0 rfl rfl rfl ?_
    | refine StoreD.st 1 rfl rfl rfl ?_
    | refine StoreD.st 2 rfl rfl rfl ?_
    | refine StoreD.st 3 rfl rfl rfl ?_
    | refine CmpD.yes rfl ?_
    | refine CmpD.yes (by decide) ?_
    | refine CmpD.no (by decide) ?_
    | refine Chk.mk ⟨rfl, trivial⟩ ?_
    | refine Chk.mk ⟨rfl, rfl, trivial⟩ ?_
    | refine Chk.mk ⟨rfl, rfl, rfl, trivial⟩ ?_
    | refine Chk.mk ⟨rfl, rfl, rfl, rfl, trivial⟩ ?_
    | refine Chk.mk ⟨rfl, rfl, rfl, rfl, rfl, trivial⟩ ?_
    | refine Chk.mk ⟨rfl, rfl, rfl, rfl, rfl, rfl, trivial⟩ ?_)
  refine lay_cmp (layOf n) x rfl (.inr rfl) rfl rfl ?_
  refine CmpD.split (fun c1 => ?_) (fun c1 => ?_)
  rotate_left
  · repeat (first
      | refine LoadD.own 0 rfl _ rfl rfl ?_
      | refine LoadD.own 1 rfl _ rfl rfl ?_
      | refine LoadD.own 2 rfl _ rfl rfl ?_
      | refine LoadD.own 3 rfl _ rfl rfl ?_
      | refine LoadP.at 0 rfl _ rfl rfl ?_
      | refine LoadP.at 1 rfl _ rfl rfl ?_
      | refine LoadP.at 2 rfl _ rfl rfl ?_
      | refine LoadP.at 3 rfl _ rfl rfl ?_
      | refine StoreD.st 0 rfl rfl rfl ?_
      | refine StoreD.st 1 rfl rfl rfl ?_
      | refine StoreD.st 2 rfl rfl rfl ?_
      | refine StoreD.st 3 rfl rfl rfl ?_
      | refine CmpD.yes rfl ?_
      | refine CmpD.yes (by decide) ?_
      | refine CmpD.no (by decide) ?_
      | refine Chk.mk ⟨rfl, trivial⟩ ?_
      | refine Chk.mk ⟨rfl, rfl, trivial⟩ ?_
      | refine Chk.mk ⟨rfl, rfl, rfl, trivial⟩ ?_
      | refine Chk.mk ⟨rfl, rfl, rfl, rfl, trivial⟩ ?_
      | refine Chk.mk ⟨rfl, rfl, rfl, rfl, rfl, trivial⟩ ?_
      | refine Chk.mk ⟨rfl, rfl, rfl, rfl, rfl, rfl, trivial⟩ ?_)
    refine Done.mk (badS _ _ (Drop.pick [0] _ rfl) (fun h => c1 ?_))
    rw [← h.2.1]
  have hx : x = layOf n := by
    simp only [List.cons.injEq, and_true] at c1
    obtain ⟨q1, q2, q3, q4, q5, q6, q7⟩ := c1
    obtain ⟨x1, x2, x3, x4, x5, x6, x7⟩ := x
    dsimp only at q1 q2 q3 q4 q5 q6 q7 ⊢
    rw [Lay.mk.injEq]
    exact ⟨q1.symm, q2.symm, q3.symm, q4.symm, q5.symm, q6.symm, q7.symm⟩
  have hxl : x.lb = layL n := by rw [hx]; rfl
  repeat (first
    | refine LoadD.own 0 rfl _ rfl rfl ?_
    | refine LoadD.own 1 rfl _ rfl rfl ?_
    | refine LoadD.own 2 rfl _ rfl rfl ?_
    | refine LoadD.own 3 rfl _ rfl rfl ?_
    | refine LoadP.at 0 rfl _ rfl rfl ?_
    | refine LoadP.at 1 rfl _ rfl rfl ?_
    | refine LoadP.at 2 rfl _ rfl rfl ?_
    | refine LoadP.at 3 rfl _ rfl rfl ?_
    | refine StoreD.st 0 rfl rfl rfl ?_
    | refine StoreD.st 1 rfl rfl rfl ?_
    | refine StoreD.st 2 rfl rfl rfl ?_
    | refine StoreD.st 3 rfl rfl rfl ?_
    | refine CmpD.yes rfl ?_
    | refine CmpD.yes (by decide) ?_
    | refine CmpD.no (by decide) ?_
    | refine Chk.mk ⟨rfl, trivial⟩ ?_
    | refine Chk.mk ⟨rfl, rfl, trivial⟩ ?_
    | refine Chk.mk ⟨rfl, rfl, rfl, trivial⟩ ?_
    | refine Chk.mk ⟨rfl, rfl, rfl, rfl, trivial⟩ ?_
    | refine Chk.mk ⟨rfl, rfl, rfl, rfl, rfl, trivial⟩ ?_
    | refine Chk.mk ⟨rfl, rfl, rfl, rfl, rfl, rfl, trivial⟩ ?_)
  refine Tri.frame1 0 rfl (dk_Size hD) ?_
  rintro v J S' hJ ⟨rfl, rfl, rfl⟩
  refine ⟨_, rfl, ?_⟩
  rw [← hn]
  repeat (first
    | refine LoadD.own 0 rfl _ rfl rfl ?_
    | refine LoadD.own 1 rfl _ rfl rfl ?_
    | refine LoadD.own 2 rfl _ rfl rfl ?_
    | refine LoadD.own 3 rfl _ rfl rfl ?_
    | refine LoadP.at 0 rfl _ rfl rfl ?_
    | refine LoadP.at 1 rfl _ rfl rfl ?_
    | refine LoadP.at 2 rfl _ rfl rfl ?_
    | refine LoadP.at 3 rfl _ rfl rfl ?_
    | refine StoreD.st 0 rfl rfl rfl ?_
    | refine StoreD.st 1 rfl rfl rfl ?_
    | refine StoreD.st 2 rfl rfl rfl ?_
    | refine StoreD.st 3 rfl rfl rfl ?_
    | refine CmpD.yes rfl ?_
    | refine CmpD.yes (by decide) ?_
    | refine CmpD.no (by decide) ?_
    | refine Chk.mk ⟨rfl, trivial⟩ ?_
    | refine Chk.mk ⟨rfl, rfl, trivial⟩ ?_
    | refine Chk.mk ⟨rfl, rfl, rfl, trivial⟩ ?_
    | refine Chk.mk ⟨rfl, rfl, rfl, rfl, trivial⟩ ?_
    | refine Chk.mk ⟨rfl, rfl, rfl, rfl, rfl, trivial⟩ ?_
    | refine Chk.mk ⟨rfl, rfl, rfl, rfl, rfl, rfl, trivial⟩ ?_)
  refine CmpD.split (fun (c2 : s1 = (n : Int)) => ?_) (fun (c2 : ¬ (s1 = (n : Int))) => ?_)
  rotate_left
  · repeat (first
      | refine LoadD.own 0 rfl _ rfl rfl ?_
      | refine LoadD.own 1 rfl _ rfl rfl ?_
      | refine LoadD.own 2 rfl _ rfl rfl ?_
      | refine LoadD.own 3 rfl _ rfl rfl ?_
      | refine LoadP.at 0 rfl _ rfl rfl ?_
      | refine LoadP.at 1 rfl _ rfl rfl ?_
      | refine LoadP.at 2 rfl _ rfl rfl ?_
      | refine LoadP.at 3 rfl _ rfl rfl ?_
      | refine StoreD.st 0 rfl rfl rfl ?_
      | refine StoreD.st 1 rfl rfl rfl ?_
      | refine StoreD.st 2 rfl rfl rfl ?_
      | refine StoreD.st 3 rfl rfl rfl ?_
      | refine CmpD.yes rfl ?_
      | refine CmpD.yes (by decide) ?_
      | refine CmpD.no (by decide) ?_
      | refine Chk.mk ⟨rfl, trivial⟩ ?_
      | refine Chk.mk ⟨rfl, rfl, trivial⟩ ?_
      | refine Chk.mk ⟨rfl, rfl, rfl, trivial⟩ ?_
      | refine Chk.mk ⟨rfl, rfl, rfl, rfl, trivial⟩ ?_
      | refine Chk.mk ⟨rfl, rfl, rfl, rfl, rfl, trivial⟩ ?_
      | refine Chk.mk ⟨rfl, rfl, rfl, rfl, rfl, rfl, trivial⟩ ?_)
    exact Done.mk (badS _ _ (Drop.pick [0] _ rfl) (fun h => c2 h.2.2.1))
  repeat (first
    | refine LoadD.own 0 rfl _ rfl rfl ?_
    | refine LoadD.own 1 rfl _ rfl rfl ?_
    | refine LoadD.own 2 rfl _ rfl rfl ?_
    | refine LoadD.own 3 rfl _ rfl rfl ?_
    | refine LoadP.at 0 rfl _ rfl rfl ?_
    | refine LoadP.at 1 rfl _ rfl rfl ?_
    | refine LoadP.at 2 rfl _ rfl rfl ?_
    | refine LoadP.at 3 rfl _ rfl rfl ?_
    | refine StoreD.st 0 rfl rfl rfl ?_
    | refine StoreD.st 1 rfl rfl rfl ?_
    | refine StoreD.st 2 rfl rfl rfl ?_
    | refine StoreD.st 3 rfl rfl rfl ?_
    | refine CmpD.yes rfl ?_
    | refine CmpD.yes (by decide) ?_
    | refine CmpD.no (by decide) ?_
    | refine Chk.mk ⟨rfl, trivial⟩ ?_
    | refine Chk.mk ⟨rfl, rfl, trivial⟩ ?_
    | refine Chk.mk ⟨rfl, rfl, rfl, trivial⟩ ?_
    | refine Chk.mk ⟨rfl, rfl, rfl, rfl, trivial⟩ ?_
    | refine Chk.mk ⟨rfl, rfl, rfl, rfl, rfl, trivial⟩ ?_
    | refine Chk.mk ⟨rfl, rfl, rfl, rfl, rfl, rfl, trivial⟩ ?_)
  refine CmpD.split (fun (c3 : s4 < 0) => ?_) (fun (c3 : ¬ (s4 < 0)) => ?_)
  · repeat (first
      | refine LoadD.own 0 rfl _ rfl rfl ?_
      | refine LoadD.own 1 rfl _ rfl rfl ?_
      | refine LoadD.own 2 rfl _ rfl rfl ?_
      | refine LoadD.own 3 rfl _ rfl rfl ?_
      | refine LoadP.at 0 rfl _ rfl rfl ?_
      | refine LoadP.at 1 rfl _ rfl rfl ?_
      | refine LoadP.at 2 rfl _ rfl rfl ?_
      | refine LoadP.at 3 rfl _ rfl rfl ?_
      | refine StoreD.st 0 rfl rfl rfl ?_
      | refine StoreD.st 1 rfl rfl rfl ?_
      | refine StoreD.st 2 rfl rfl rfl ?_
      | refine StoreD.st 3 rfl rfl rfl ?_
      | refine CmpD.yes rfl ?_
      | refine CmpD.yes (by decide) ?_
      | refine CmpD.no (by decide) ?_
      | refine Chk.mk ⟨rfl, trivial⟩ ?_
      | refine Chk.mk ⟨rfl, rfl, trivial⟩ ?_
      | refine Chk.mk ⟨rfl, rfl, rfl, trivial⟩ ?_
      | refine Chk.mk ⟨rfl, rfl, rfl, rfl, trivial⟩ ?_
      | refine Chk.mk ⟨rfl, rfl, rfl, rfl, rfl, trivial⟩ ?_
      | refine Chk.mk ⟨rfl, rfl, rfl, rfl, rfl, rfl, trivial⟩ ?_)
    exact Done.mk (badS _ _ (Drop.pick [0] _ rfl) (fun h => by have : 0 ≤ s4 := h.2.2.2.1; omega))
  repeat (first
    | refine LoadD.own 0 rfl _ rfl rfl ?_
    | refine LoadD.own 1 rfl _ rfl rfl ?_
    | refine LoadD.own 2 rfl _ rfl rfl ?_
    | refine LoadD.own 3 rfl _ rfl rfl ?_
    | refine LoadP.at 0 rfl _ rfl rfl ?_
    | refine LoadP.at 1 rfl _ rfl rfl ?_
    | refine LoadP.at 2 rfl _ rfl rfl ?_
    | refine LoadP.at 3 rfl _ rfl rfl ?_
    | refine StoreD.st 0 rfl rfl rfl ?_
    | refine StoreD.st 1 rfl rfl rfl ?_
    | refine StoreD.st 2 rfl rfl rfl ?_
    | refine StoreD.st 3 rfl rfl rfl ?_
    | refine CmpD.yes rfl ?_
    | refine CmpD.yes (by decide) ?_
    | refine CmpD.no (by decide) ?_
    | refine Chk.mk ⟨rfl, trivial⟩ ?_
    | refine Chk.mk ⟨rfl, rfl, trivial⟩ ?_
    | refine Chk.mk ⟨rfl, rfl, rfl, trivial⟩ ?_
    | refine Chk.mk ⟨rfl, rfl, rfl, rfl, trivial⟩ ?_
    | refine Chk.mk ⟨rfl, rfl, rfl, rfl, rfl, trivial⟩ ?_
    | refine Chk.mk ⟨rfl, rfl, rfl, rfl, rfl, rfl, trivial⟩ ?_)
  refine CmpD.split (fun (c4 : x.lb ≤ s4) => ?_) (fun (c4 : ¬ (x.lb ≤ s4)) => ?_)
  · repeat (first
      | refine LoadD.own 0 rfl _ rfl rfl ?_
      | refine LoadD.own 1 rfl _ rfl rfl ?_
      | refine LoadD.own 2 rfl _ rfl rfl ?_
      | refine LoadD.own 3 rfl _ rfl rfl ?_
      | refine LoadP.at 0 rfl _ rfl rfl ?_
      | refine LoadP.at 1 rfl _ rfl rfl ?_
      | refine LoadP.at 2 rfl _ rfl rfl ?_
      | refine LoadP.at 3 rfl _ rfl rfl ?_
      | refine StoreD.st 0 rfl rfl rfl ?_
      | refine StoreD.st 1 rfl rfl rfl ?_
      | refine StoreD.st 2 rfl rfl rfl ?_
      | refine StoreD.st 3 rfl rfl rfl ?_
      | refine CmpD.yes rfl ?_
      | refine CmpD.yes (by decide) ?_
      | refine CmpD.no (by decide) ?_
      | refine Chk.mk ⟨rfl, trivial⟩ ?_
      | refine Chk.mk ⟨rfl, rfl, trivial⟩ ?_
      | refine Chk.mk ⟨rfl, rfl, rfl, trivial⟩ ?_
      | refine Chk.mk ⟨rfl, rfl, rfl, rfl, trivial⟩ ?_
      | refine Chk.mk ⟨rfl, rfl, rfl, rfl, rfl, trivial⟩ ?_
      | refine Chk.mk ⟨rfl, rfl, rfl, rfl, rfl, rfl, trivial⟩ ?_)
    exact Done.mk (badS _ _ (Drop.pick [0] _ rfl) (fun h => by have : s4 < layL n := h.2.2.2.2.1; omega))
  repeat (first
    | refine LoadD.own 0 rfl _ rfl rfl ?_
    | refine LoadD.own 1 rfl _ rfl rfl ?_
    | refine LoadD.own 2 rfl _ rfl rfl ?_
    | refine LoadD.own 3 rfl _ rfl rfl ?_
    | refine LoadP.at 0 rfl _ rfl rfl ?_
    | refine LoadP.at 1 rfl _ rfl rfl ?_
    | refine LoadP.at 2 rfl _ rfl rfl ?_
    | refine LoadP.at 3 rfl _ rfl rfl ?_
    | refine StoreD.st 0 rfl rfl rfl ?_
    | refine StoreD.st 1 rfl rfl rfl ?_
    | refine StoreD.st 2 rfl rfl rfl ?_
    | refine StoreD.st 3 rfl rfl rfl ?_
    | refine CmpD.yes rfl ?_
    | refine CmpD.yes (by decide) ?_
    | refine CmpD.no (by decide) ?_
    | refine Chk.mk ⟨rfl, trivial⟩ ?_
    | refine Chk.mk ⟨rfl, rfl, trivial⟩ ?_
    | refine Chk.mk ⟨rfl, rfl, rfl, trivial⟩ ?_
    | refine Chk.mk ⟨rfl, rfl, rfl, rfl, trivial⟩ ?_
    | refine Chk.mk ⟨rfl, rfl, rfl, rfl, rfl, trivial⟩ ?_
    | refine Chk.mk ⟨rfl, rfl, rfl, rfl, rfl, rfl, trivial⟩ ?_)
  refine CmpD.split (fun (c5 : s2 < 1) => ?_) (fun (c5 : ¬ (s2 < 1)) => ?_)
  · repeat (first
      | refine LoadD.own 0 rfl _ rfl rfl ?_
      | refine LoadD.own 1 rfl _ rfl rfl ?_
      | refine LoadD.own 2 rfl _ rfl rfl ?_
      | refine LoadD.own 3 rfl _ rfl rfl ?_
      | refine LoadP.at 0 rfl _ rfl rfl ?_
      | refine LoadP.at 1 rfl _ rfl rfl ?_
      | refine LoadP.at 2 rfl _ rfl rfl ?_
      | refine LoadP.at 3 rfl _ rfl rfl ?_
      | refine StoreD.st 0 rfl rfl rfl ?_
      | refine StoreD.st 1 rfl rfl rfl ?_
      | refine StoreD.st 2 rfl rfl rfl ?_
      | refine StoreD.st 3 rfl rfl rfl ?_
      | refine CmpD.yes rfl ?_
      | refine CmpD.yes (by decide) ?_
      | refine CmpD.no (by decide) ?_
      | refine Chk.mk ⟨rfl, trivial⟩ ?_
      | refine Chk.mk ⟨rfl, rfl, trivial⟩ ?_
      | refine Chk.mk ⟨rfl, rfl, rfl, trivial⟩ ?_
      | refine Chk.mk ⟨rfl, rfl, rfl, rfl, trivial⟩ ?_
      | refine Chk.mk ⟨rfl, rfl, rfl, rfl, rfl, trivial⟩ ?_
      | refine Chk.mk ⟨rfl, rfl, rfl, rfl, rfl, rfl, trivial⟩ ?_)
    exact Done.mk (badS _ _ (Drop.pick [0] _ rfl) (fun h => by have : 1 ≤ s2 := h.2.2.2.2.2.1; omega))
  repeat (first
    | refine LoadD.own 0 rfl _ rfl rfl ?_
    | refine LoadD.own 1 rfl _ rfl rfl ?_
    | refine LoadD.own 2 rfl _ rfl rfl ?_
    | refine LoadD.own 3 rfl _ rfl rfl ?_
    | refine LoadP.at 0 rfl _ rfl rfl ?_
    | refine LoadP.at 1 rfl _ rfl rfl ?_
    | refine LoadP.at 2 rfl _ rfl rfl ?_
    | refine LoadP.at 3 rfl _ rfl rfl ?_
    | refine StoreD.st 0 rfl rfl rfl ?_
    | refine StoreD.st 1 rfl rfl rfl ?_
    | refine StoreD.st 2 rfl rfl rfl ?_
    | refine StoreD.st 3 rfl rfl rfl ?_
    | refine CmpD.yes rfl ?_
    | refine CmpD.yes (by decide) ?_
    | refine CmpD.no (by decide) ?_
    | refine Chk.mk ⟨rfl, trivial⟩ ?_
    | refine Chk.mk ⟨rfl, rfl, trivial⟩ ?_
    | refine Chk.mk ⟨rfl, rfl, rfl, trivial⟩ ?_
    | refine Chk.mk ⟨rfl, rfl, rfl, rfl, trivial⟩ ?_
    | refine Chk.mk ⟨rfl, rfl, rfl, rfl, rfl, trivial⟩ ?_
    | refine Chk.mk ⟨rfl, rfl, rfl, rfl, rfl, rfl, trivial⟩ ?_)
  refine CmpD.split (fun (c6 : (8388608 : Int) < s2) => ?_) (fun (c6 : ¬ ((8388608 : Int) < s2)) => ?_)
  · repeat (first
      | refine LoadD.own 0 rfl _ rfl rfl ?_
      | refine LoadD.own 1 rfl _ rfl rfl ?_
      | refine LoadD.own 2 rfl _ rfl rfl ?_
      | refine LoadD.own 3 rfl _ rfl rfl ?_
      | refine LoadP.at 0 rfl _ rfl rfl ?_
      | refine LoadP.at 1 rfl _ rfl rfl ?_
      | refine LoadP.at 2 rfl _ rfl rfl ?_
      | refine LoadP.at 3 rfl _ rfl rfl ?_
      | refine StoreD.st 0 rfl rfl rfl ?_
      | refine StoreD.st 1 rfl rfl rfl ?_
      | refine StoreD.st 2 rfl rfl rfl ?_
      | refine StoreD.st 3 rfl rfl rfl ?_
      | refine CmpD.yes rfl ?_
      | refine CmpD.yes (by decide) ?_
      | refine CmpD.no (by decide) ?_
      | refine Chk.mk ⟨rfl, trivial⟩ ?_
      | refine Chk.mk ⟨rfl, rfl, trivial⟩ ?_
      | refine Chk.mk ⟨rfl, rfl, rfl, trivial⟩ ?_
      | refine Chk.mk ⟨rfl, rfl, rfl, rfl, trivial⟩ ?_
      | refine Chk.mk ⟨rfl, rfl, rfl, rfl, rfl, trivial⟩ ?_
      | refine Chk.mk ⟨rfl, rfl, rfl, rfl, rfl, rfl, trivial⟩ ?_)
    exact Done.mk (badS _ _ (Drop.pick [0] _ rfl) (fun h => by have : s2 ≤ 8388608 := h.2.2.2.2.2.2.1; omega))
  repeat (first
    | refine LoadD.own 0 rfl _ rfl rfl ?_
    | refine LoadD.own 1 rfl _ rfl rfl ?_
    | refine LoadD.own 2 rfl _ rfl rfl ?_
    | refine LoadD.own 3 rfl _ rfl rfl ?_
    | refine LoadP.at 0 rfl _ rfl rfl ?_
    | refine LoadP.at 1 rfl _ rfl rfl ?_
    | refine LoadP.at 2 rfl _ rfl rfl ?_
    | refine LoadP.at 3 rfl _ rfl rfl ?_
    | refine StoreD.st 0 rfl rfl rfl ?_
    | refine StoreD.st 1 rfl rfl rfl ?_
    | refine StoreD.st 2 rfl rfl rfl ?_
    | refine StoreD.st 3 rfl rfl rfl ?_
    | refine CmpD.yes rfl ?_
    | refine CmpD.yes (by decide) ?_
    | refine CmpD.no (by decide) ?_
    | refine Chk.mk ⟨rfl, trivial⟩ ?_
    | refine Chk.mk ⟨rfl, rfl, trivial⟩ ?_
    | refine Chk.mk ⟨rfl, rfl, rfl, trivial⟩ ?_
    | refine Chk.mk ⟨rfl, rfl, rfl, rfl, trivial⟩ ?_
    | refine Chk.mk ⟨rfl, rfl, rfl, rfl, rfl, trivial⟩ ?_
    | refine Chk.mk ⟨rfl, rfl, rfl, rfl, rfl, rfl, trivial⟩ ?_)
  refine CmpD.split (fun (c7 : s3 < 1) => ?_) (fun (c7 : ¬ (s3 < 1)) => ?_)
  · repeat (first
      | refine LoadD.own 0 rfl _ rfl rfl ?_
      | refine LoadD.own 1 rfl _ rfl rfl ?_
      | refine LoadD.own 2 rfl _ rfl rfl ?_
      | refine LoadD.own 3 rfl _ rfl rfl ?_
      | refine LoadP.at 0 rfl _ rfl rfl ?_
      | refine LoadP.at 1 rfl _ rfl rfl ?_
      | refine LoadP.at 2 rfl _ rfl rfl ?_
      | refine LoadP.at 3 rfl _ rfl rfl ?_
      | refine StoreD.st 0 rfl rfl rfl ?_
      | refine StoreD.st 1 rfl rfl rfl ?_
      | refine StoreD.st 2 rfl rfl rfl ?_
      | refine StoreD.st 3 rfl rfl rfl ?_
      | refine CmpD.yes rfl ?_
      | refine CmpD.yes (by decide) ?_
      | refine CmpD.no (by decide) ?_
      | refine Chk.mk ⟨rfl, trivial⟩ ?_
      | refine Chk.mk ⟨rfl, rfl, trivial⟩ ?_
      | refine Chk.mk ⟨rfl, rfl, rfl, trivial⟩ ?_
      | refine Chk.mk ⟨rfl, rfl, rfl, rfl, trivial⟩ ?_
      | refine Chk.mk ⟨rfl, rfl, rfl, rfl, rfl, trivial⟩ ?_
      | refine Chk.mk ⟨rfl, rfl, rfl, rfl, rfl, rfl, trivial⟩ ?_)
    exact Done.mk (badS _ _ (Drop.pick [0] _ rfl) (fun h => by have : 1 ≤ s3 := h.2.2.2.2.2.2.2.1; omega))
  repeat (first
    | refine LoadD.own 0 rfl _ rfl rfl ?_
    | refine LoadD.own 1 rfl _ rfl rfl ?_
    | refine LoadD.own 2 rfl _ rfl rfl ?_
    | refine LoadD.own 3 rfl _ rfl rfl ?_
    | refine LoadP.at 0 rfl _ rfl rfl ?_
    | refine LoadP.at 1 rfl _ rfl rfl ?_
    | refine LoadP.at 2 rfl _ rfl rfl ?_
    | refine LoadP.at 3 rfl _ rfl rfl ?_
    | refine StoreD.st 0 rfl rfl rfl ?_
    | refine StoreD.st 1 rfl rfl rfl ?_
    | refine StoreD.st 2 rfl rfl rfl ?_
    | refine StoreD.st 3 rfl rfl rfl ?_
    | refine CmpD.yes rfl ?_
    | refine CmpD.yes (by decide) ?_
    | refine CmpD.no (by decide) ?_
    | refine Chk.mk ⟨rfl, trivial⟩ ?_
    | refine Chk.mk ⟨rfl, rfl, trivial⟩ ?_
    | refine Chk.mk ⟨rfl, rfl, rfl, trivial⟩ ?_
    | refine Chk.mk ⟨rfl, rfl, rfl, rfl, trivial⟩ ?_
    | refine Chk.mk ⟨rfl, rfl, rfl, rfl, rfl, trivial⟩ ?_
    | refine Chk.mk ⟨rfl, rfl, rfl, rfl, rfl, rfl, trivial⟩ ?_)
  refine CmpD.split (fun (c8 : (549755813888 : Int) < s3) => ?_) (fun (c8 : ¬ ((549755813888 : Int) < s3)) => ?_)
  · repeat (first
      | refine LoadD.own 0 rfl _ rfl rfl ?_
      | refine LoadD.own 1 rfl _ rfl rfl ?_
      | refine LoadD.own 2 rfl _ rfl rfl ?_
      | refine LoadD.own 3 rfl _ rfl rfl ?_
      | refine LoadP.at 0 rfl _ rfl rfl ?_
      | refine LoadP.at 1 rfl _ rfl rfl ?_
      | refine LoadP.at 2 rfl _ rfl rfl ?_
      | refine LoadP.at 3 rfl _ rfl rfl ?_
      | refine StoreD.st 0 rfl rfl rfl ?_
      | refine StoreD.st 1 rfl rfl rfl ?_
      | refine StoreD.st 2 rfl rfl rfl ?_
      | refine StoreD.st 3 rfl rfl rfl ?_
      | refine CmpD.yes rfl ?_
      | refine CmpD.yes (by decide) ?_
      | refine CmpD.no (by decide) ?_
      | refine Chk.mk ⟨rfl, trivial⟩ ?_
      | refine Chk.mk ⟨rfl, rfl, trivial⟩ ?_
      | refine Chk.mk ⟨rfl, rfl, rfl, trivial⟩ ?_
      | refine Chk.mk ⟨rfl, rfl, rfl, rfl, trivial⟩ ?_
      | refine Chk.mk ⟨rfl, rfl, rfl, rfl, rfl, trivial⟩ ?_
      | refine Chk.mk ⟨rfl, rfl, rfl, rfl, rfl, rfl, trivial⟩ ?_)
    exact Done.mk (badS _ _ (Drop.pick [0] _ rfl) (fun h => by have : s3 ≤ 549755813888 := h.2.2.2.2.2.2.2.2; omega))
  have hok : ScanOk n x ⟨s1, s2, s3, s4⟩ := ⟨by omega, hx, c2, by show 0 ≤ s4; omega, by show s4 < _; omega, by show 1 ≤ s2; omega, by show s2 ≤ _; omega, by show 1 ≤ s3; omega, by show s3 ≤ _; omega⟩
  clear badS
  repeat (first
    | refine LoadD.own 0 rfl _ rfl rfl ?_
    | refine LoadD.own 1 rfl _ rfl rfl ?_
    | refine LoadD.own 2 rfl _ rfl rfl ?_
    | refine LoadD.own 3 rfl _ rfl rfl ?_
    | refine LoadP.at 0 rfl _ rfl rfl ?_
    | refine LoadP.at 1 rfl _ rfl rfl ?_
    | refine LoadP.at 2 rfl _ rfl rfl ?_
    | refine LoadP.at 3 rfl _ rfl rfl ?_
    | refine StoreD.st 0 rfl rfl rfl ?_
    | refine StoreD.st 1 rfl rfl rfl ?_
    | refine StoreD.st 2 rfl rfl rfl ?_
    | refine StoreD.st 3 rfl rfl rfl ?_
    | refine CmpD.yes rfl ?_
    | refine CmpD.yes (by decide) ?_
    | refine CmpD.no (by decide) ?_
    | refine Chk.mk ⟨rfl, trivial⟩ ?_
    | refine Chk.mk ⟨rfl, rfl, trivial⟩ ?_
    | refine Chk.mk ⟨rfl, rfl, rfl, trivial⟩ ?_
    | refine Chk.mk ⟨rfl, rfl, rfl, rfl, trivial⟩ ?_
    | refine Chk.mk ⟨rfl, rfl, rfl, rfl, rfl, trivial⟩ ?_
    | refine Chk.mk ⟨rfl, rfl, rfl, rfl, rfl, rfl, trivial⟩ ?_)
  conv => whnf
  intro bR
  repeat (first
    | refine LoadD.own 0 rfl _ rfl rfl ?_
    | refine LoadD.own 1 rfl _ rfl rfl ?_
    | refine LoadD.own 2 rfl _ rfl rfl ?_
    | refine LoadD.own 3 rfl _ rfl rfl ?_
    | refine LoadP.at 0 rfl _ rfl rfl ?_
    | refine LoadP.at 1 rfl _ rfl rfl ?_
    | refine LoadP.at 2 rfl _ rfl rfl ?_
    | refine LoadP.at 3 rfl _ rfl rfl ?_
    | refine StoreD.st 0 rfl rfl rfl ?_
    | refine StoreD.st 1 rfl rfl rfl ?_
    | refine StoreD.st 2 rfl rfl rfl ?_
    | refine StoreD.st 3 rfl rfl rfl ?_
    | refine CmpD.yes rfl ?_
    | refine CmpD.yes (by decide) ?_
    | refine CmpD.no (by decide) ?_
    | refine Chk.mk ⟨rfl, trivial⟩ ?_
    | refine Chk.mk ⟨rfl, rfl, trivial⟩ ?_
    | refine Chk.mk ⟨rfl, rfl, rfl, trivial⟩ ?_
    | refine Chk.mk ⟨rfl, rfl, rfl, rfl, trivial⟩ ?_
    | refine Chk.mk ⟨rfl, rfl, rfl, rfl, rfl, trivial⟩ ?_
    | refine Chk.mk ⟨rfl, rfl, rfl, rfl, rfl, rfl, trivial⟩ ?_)
  conv => whnf
  intro b12
  repeat (first
    | refine LoadD.own 0 rfl _ rfl rfl ?_
    | refine LoadD.own 1 rfl _ rfl rfl ?_
    | refine LoadD.own 2 rfl _ rfl rfl ?_
    | refine LoadD.own 3 rfl _ rfl rfl ?_
    | refine LoadP.at 0 rfl _ rfl rfl ?_
    | refine LoadP.at 1 rfl _ rfl rfl ?_
    | refine LoadP.at 2 rfl _ rfl rfl ?_
    | refine LoadP.at 3 rfl _ rfl rfl ?_
    | refine StoreD.st 0 rfl rfl rfl ?_
    | refine StoreD.st 1 rfl rfl rfl ?_
    | refine StoreD.st 2 rfl rfl rfl ?_
    | refine StoreD.st 3 rfl rfl rfl ?_
    | refine CmpD.yes rfl ?_
    | refine CmpD.yes (by decide) ?_
    | refine CmpD.no (by decide) ?_
    | refine Chk.mk ⟨rfl, trivial⟩ ?_
    | refine Chk.mk ⟨rfl, rfl, trivial⟩ ?_
    | refine Chk.mk ⟨rfl, rfl, rfl, trivial⟩ ?_
    | refine Chk.mk ⟨rfl, rfl, rfl, rfl, trivial⟩ ?_
    | refine Chk.mk ⟨rfl, rfl, rfl, rfl, rfl, trivial⟩ ?_
    | refine Chk.mk ⟨rfl, rfl, rfl, rfl, rfl, rfl, trivial⟩ ?_)
  conv => whnf
  intro b13
  repeat (first
    | refine LoadD.own 0 rfl _ rfl rfl ?_
    | refine LoadD.own 1 rfl _ rfl rfl ?_
    | refine LoadD.own 2 rfl _ rfl rfl ?_
    | refine LoadD.own 3 rfl _ rfl rfl ?_
    | refine LoadD.own 4 rfl _ rfl rfl ?_
    | refine LoadD.own 5 rfl _ rfl rfl ?_
    | refine LoadD.own 6 rfl _ rfl rfl ?_
    | refine LoadD.own 7 rfl _ rfl rfl ?_
    | refine LoadP.at 0 rfl _ rfl rfl ?_
    | refine LoadP.at 1 rfl _ rfl rfl ?_
    | refine LoadP.at 2 rfl _ rfl rfl ?_
    | refine LoadP.at 3 rfl _ rfl rfl ?_
    | refine LoadP.at 4 rfl _ rfl rfl ?_
    | refine LoadP.at 5 rfl _ rfl rfl ?_
    | refine LoadP.at 6 rfl _ rfl rfl ?_
    | refine LoadP.at 7 rfl _ rfl rfl ?_
    | refine StoreD.st 0 rfl rfl rfl ?_
    | refine StoreD.st 1 rfl rfl rfl ?_
    | refine StoreD.st 2 rfl rfl rfl ?_
    | refine StoreD.st 3 rfl rfl rfl ?_
    | refine StoreD.st 4 rfl rfl rfl ?_
    | refine StoreD.st 5 rfl rfl rfl ?_
    | refine StoreD.st 6 rfl rfl rfl ?_
    | refine StoreD.st 7 rfl rfl rfl ?_
    | refine CmpD.yes rfl ?_
    | refine CmpD.yes (by decide) ?_
    | refine CmpD.no (by decide) ?_
    | refine Chk.mk ⟨rfl, trivial⟩ ?_
    | refine Chk.mk ⟨rfl, rfl, trivial⟩ ?_
    | refine Chk.mk ⟨rfl, rfl, rfl, trivial⟩ ?_
    | refine Chk.mk ⟨rfl, rfl, rfl, rfl, trivial⟩ ?_
    | refine Chk.mk ⟨rfl, rfl, rfl, rfl, rfl, trivial⟩ ?_
    | refine Chk.mk ⟨rfl, rfl, rfl, rfl, rfl, rfl, trivial⟩ ?_)
  refine Tri.frame (ring_groups bR ⟨s1, s2, s3, s4⟩ I) [] rfl rfl ?_
  rintro v J A' hJ ⟨bS, bP, rfl, rfl, rfl⟩
  refine ⟨by simp, ?_⟩
  obtain ⟨tail, rfl⟩ : ∃ t : Nat, s4 = t := ⟨s4.toNat, by omega⟩
  obtain ⟨lb, hlb⟩ : ∃ lb : Nat, layL n = lb := ⟨(layL n).toNat, by omega⟩
  have hxlb : x.lb = lb := by rw [hxl, hlb]
  have hxl2 : x.l = (2 : Nat) := by rw [hx]; rfl
  have hfit : 2 + lb ≤ d.now.length := by rw [← hn]; unfold layL at hlb; split at hlb <;> omega
  cases hdn : d.down with
  | true =>
    refine CodeF.rangeJ rfl [[(b12, row [.slice none 0 0] 64)], [(b13, row [.int .i64 tail] 3)]] (scIt bS bP bR bD ⟨s1, s2, s3, tail⟩ x 0 chD) (Drop.pick [5, 6, 8, 7, 4, 0] _ rfl) (scan_down hD hdn x 2 lb hxl2 hxlb (by omega) hfit ⟨s1, s2, s3, tail⟩ tail rfl)
      (fun _ _ _ _ h => h.elim) (fun _ _ S' => S' = [[(b12, row [.slice none 0 0] 64)], [(b13, row [.int .i64 tail] 3)]]) (fun _ _ _ _ _ h => h) (fun _ _ _ => False) rfl ?round ?done ?stop
    case round => rintro _ _ _ _ _ _ h; exact h.elim
    case stop => rintro _ _ _ _ _ h; exact h.elim
    case done =>
      rintro _ J S' R hJ rfl rfl
      repeat (first
        | refine LoadD.own 0 rfl _ rfl rfl ?_
        | refine LoadD.own 1 rfl _ rfl rfl ?_
        | refine LoadD.own 2 rfl _ rfl rfl ?_
        | refine LoadD.own 3 rfl _ rfl rfl ?_
        | refine LoadD.own 4 rfl _ rfl rfl ?_
        | refine LoadD.own 5 rfl _ rfl rfl ?_
        | refine LoadP.at 0 rfl _ rfl rfl ?_
        | refine LoadP.at 1 rfl _ rfl rfl ?_
        | refine LoadP.at 2 rfl _ rfl rfl ?_
        | refine LoadP.at 3 rfl _ rfl rfl ?_
        | refine LoadP.at 4 rfl _ rfl rfl ?_
        | refine LoadP.at 5 rfl _ rfl rfl ?_
        | refine StoreD.st 0 rfl rfl rfl ?_
        | refine StoreD.st 1 rfl rfl rfl ?_
        | refine StoreD.st 2 rfl rfl rfl ?_
        | refine StoreD.st 3 rfl rfl rfl ?_
        | refine StoreD.st 4 rfl rfl rfl ?_
        | refine StoreD.st 5 rfl rfl rfl ?_
        | refine CmpD.yes rfl ?_
        | refine CmpD.yes (by decide) ?_
        | refine CmpD.no (by decide) ?_
        | refine Chk.mk ⟨rfl, trivial⟩ ?_
        | refine Chk.mk ⟨rfl, rfl, trivial⟩ ?_
        | refine Chk.mk ⟨rfl, rfl, rfl, trivial⟩ ?_
        | refine Chk.mk ⟨rfl, rfl, rfl, rfl, trivial⟩ ?_
        | refine Chk.mk ⟨rfl, rfl, rfl, rfl, rfl, trivial⟩ ?_
        | refine Chk.mk ⟨rfl, rfl, rfl, rfl, rfl, rfl, trivial⟩ ?_)
      refine CodeF.sched [[], [0], [0, 1], [0, 1, 2], [], [4], [0, 1, 2, 3, 4, 5]] [0, 1, 2, 3, 4, 5, 6] (by kernel_rfl) ?_
      repeat (first
        | refine LoadD.own 0 rfl _ rfl rfl ?_
        | refine LoadD.own 1 rfl _ rfl rfl ?_
        | refine LoadD.own 2 rfl _ rfl rfl ?_
        | refine LoadD.own 3 rfl _ rfl rfl ?_
        | refine LoadD.own 4 rfl _ rfl rfl ?_
        | refine LoadD.own 5 rfl _ rfl rfl ?_
        | refine LoadP.at 0 rfl _ rfl rfl ?_
        | refine LoadP.at 1 rfl _ rfl rfl ?_
        | refine LoadP.at 2 rfl _ rfl rfl ?_
        | refine LoadP.at 3 rfl _ rfl rfl ?_
        | refine LoadP.at 4 rfl _ rfl rfl ?_
        | refine LoadP.at 5 rfl _ rfl rfl ?_
        | refine StoreD.st 0 rfl rfl rfl ?_
        | refine StoreD.st 1 rfl rfl rfl ?_
        | refine StoreD.st 2 rfl rfl rfl ?_
        | refine StoreD.st 3 rfl rfl rfl ?_
        | refine StoreD.st 4 rfl rfl rfl ?_
        | refine StoreD.st 5 rfl rfl rfl ?_
        | refine CmpD.yes rfl ?_
        | refine CmpD.yes (by decide) ?_
        | refine CmpD.no (by decide) ?_
        | refine Chk.mk ⟨rfl, trivial⟩ ?_
        | refine Chk.mk ⟨rfl, rfl, trivial⟩ ?_
        | refine Chk.mk ⟨rfl, rfl, rfl, trivial⟩ ?_
        | refine Chk.mk ⟨rfl, rfl, rfl, rfl, trivial⟩ ?_
        | refine Chk.mk ⟨rfl, rfl, rfl, rfl, rfl, trivial⟩ ?_
        | refine Chk.mk ⟨rfl, rfl, rfl, rfl, rfl, rfl, trivial⟩ ?_)
      exact Done.mk ⟨[chD, []], Drop.and (Drop.pick [5] _ rfl), [], rfl, .inr (.inl ⟨hok, rfl, rfl⟩)⟩
  | false =>
    have hsc : scanL d ⟨s1, s2, s3, tail⟩ = scanK (rbP d 2 lb) s2 (lb + 1) tail s3 lb := by
      unfold scanL
      rw [← hn, hlb]; rfl
    have hlbn : (layL n).toNat = lb := by rw [hlb]; rfl
    obtain ⟨L, hLe⟩ : ∃ L, L = scanL d ⟨s1, s2, s3, tail⟩ := ⟨_, rfl⟩
    have hbd := scan_bound (rb := rbP d 2 lb) (ep := s2) (lb + 1) tail s3 lb
    rw [← hsc, ← hLe] at hbd
    refine CodeF.rangeJ rfl [[(b12, row [.slice none 0 0] 64)], [(b13, row [.int .i64 tail] 3)], []] (scIt bS bP bR bD ⟨s1, s2, s3, tail⟩ x 0 chD) ((Drop.pick [5, 6, 8, 7, 4, 0] _ rfl).trans (Drop.flat (by simp [St.at]; exact ⟨rfl, rfl⟩))) (scan_up hD hdn x 2 lb hxl2 hxlb (by omega) hfit ⟨s1, s2, s3, tail⟩ tail rfl (by omega) ⟨by show 1 ≤ s3; omega, by show s3 ≤ _; omega⟩)
      (fun _ _ _ _ ⟨_, _, _, _, _, _, _, _, _, _, h, _⟩ => by rw [h]; rfl)
      (fun a J' S' => ∃ (aO : Option Addr) (capO : Nat) (chO : List Blk) (gl : List Grp) (acc : List G3), S' = [[(b12, row [.slice aO gl.length capO] 64)], [(b13, row [.int .i64 (placeP lb tail acc : Nat)] 3)], chO] ∧ OwnC chO 3 aO gl.length capO (grpCells gl) ∧ GrpsOk J' gl acc ∧ acc ++ scanK (rbP d 2 lb) s2 a.f a.at' a.seq a.room = L ∧ a.at' = tail + (acc.map fun g => g.2.2.length + 1).sum)
      (fun a J1 J2 S' hJ ⟨aO, capO, chO, gl, acc, h1, h2, h3, h4⟩ => ⟨aO, capO, chO, gl, acc, h1, h2, h3.mono hJ, h4⟩) (fun _ _ _ => False)
      ⟨none, 0, [], [], [], by rw [show placeP lb tail [] = tail from by unfold placeP; exact Nat.mod_eq_of_lt (by simp; omega)]; rfl, OwnC.nil _ _, ⟨by simp, rfl⟩, by rw [hLe, hsc]; rfl, by simp⟩ ?round ?done ?stop
    case stop => rintro _ _ _ _ _ h; exact h.elim
    case round =>
      rintro ⟨f, at_, seq, room⟩ xs ⟨f', at', seq', room'⟩ J' S' hJ' ⟨e, sn, li, aI, capI, gs, hf, hg, he, hs, rfl, hgs, hgp, hat, hsq, hrm⟩ ⟨aO, capO, chO, gl, acc, rfl, hO, hok2, hacc, hatl⟩
      dsimp only at hf hg hs hat hsq hrm hacc hatl
      subst hf hat hsq hrm
      rw [scanK, hg] at hacc
      dsimp only at hacc
      rw [if_pos ⟨he, hs⟩] at hacc
      have hgl2 := hok2.len
      have hll : L.length = acc.length + ((scanK (rbP d 2 lb) s2 f' (at_ + (li.length + 1)) (seq + 1) (room - (li.length + 1))).length + 1) := by rw [← hacc, List.length_append, List.length_cons]
      conv => whnf
      intro b15
      repeat (first
        | refine LoadD.own 0 rfl _ rfl rfl ?_
        | refine LoadD.own 1 rfl _ rfl rfl ?_
        | refine LoadD.own 2 rfl _ rfl rfl ?_
        | refine LoadD.own 3 rfl _ rfl rfl ?_
        | refine LoadD.own 4 rfl _ rfl rfl ?_
        | refine LoadD.own 5 rfl _ rfl rfl ?_
        | refine LoadP.at 0 rfl _ rfl rfl ?_
        | refine LoadP.at 1 rfl _ rfl rfl ?_
        | refine LoadP.at 2 rfl _ rfl rfl ?_
        | refine LoadP.at 3 rfl _ rfl rfl ?_
        | refine LoadP.at 4 rfl _ rfl rfl ?_
        | refine LoadP.at 5 rfl _ rfl rfl ?_
        | refine StoreD.st 0 rfl rfl rfl ?_
        | refine StoreD.st 1 rfl rfl rfl ?_
        | refine StoreD.st 2 rfl rfl rfl ?_
        | refine StoreD.st 3 rfl rfl rfl ?_
        | refine StoreD.st 4 rfl rfl rfl ?_
        | refine StoreD.st 5 rfl rfl rfl ?_
        | refine CmpD.yes rfl ?_
        | refine CmpD.yes (by decide) ?_
        | refine CmpD.no (by decide) ?_
        | refine Chk.mk ⟨rfl, trivial⟩ ?_
        | refine Chk.mk ⟨rfl, rfl, trivial⟩ ?_
        | refine Chk.mk ⟨rfl, rfl, rfl, trivial⟩ ?_
        | refine Chk.mk ⟨rfl, rfl, rfl, rfl, trivial⟩ ?_
        | refine Chk.mk ⟨rfl, rfl, rfl, rfl, rfl, trivial⟩ ?_
        | refine Chk.mk ⟨rfl, rfl, rfl, rfl, rfl, rfl, trivial⟩ ?_)
      conv => whnf
      intro bN
      refine appendD tabOk rfl rfl rfl rfl rfl rfl rfl 2 rfl hO (SrcOk.slice (n := 1) (news := grpCells [⟨e, sn, aI, capI, gs⟩]) tabOk rfl ((OwnC.whole (len := 1) (size := 3) rfl).slC 4 rfl) (by intro v hv; simp [grpCells] at hv; rcases hv with rfl | rfl | rfl <;> rfl)) rfl (by show (gl.length + 1) * 40 ≤ _; omega) (by omega) ?_
      intro a2 cap2 ch2 hO2
      repeat (first
        | refine LoadD.own 0 rfl _ rfl rfl ?_
        | refine LoadD.own 1 rfl _ rfl rfl ?_
        | refine LoadD.own 2 rfl _ rfl rfl ?_
        | refine LoadD.own 3 rfl _ rfl rfl ?_
        | refine LoadD.own 4 rfl _ rfl rfl ?_
        | refine LoadD.own 5 rfl _ rfl rfl ?_
        | refine LoadP.at 0 rfl _ rfl rfl ?_
        | refine LoadP.at 1 rfl _ rfl rfl ?_
        | refine LoadP.at 2 rfl _ rfl rfl ?_
        | refine LoadP.at 3 rfl _ rfl rfl ?_
        | refine LoadP.at 4 rfl _ rfl rfl ?_
        | refine LoadP.at 5 rfl _ rfl rfl ?_
        | refine StoreD.st 0 rfl rfl rfl ?_
        | refine StoreD.st 1 rfl rfl rfl ?_
        | refine StoreD.st 2 rfl rfl rfl ?_
        | refine StoreD.st 3 rfl rfl rfl ?_
        | refine StoreD.st 4 rfl rfl rfl ?_
        | refine StoreD.st 5 rfl rfl rfl ?_
        | refine CmpD.yes rfl ?_
        | refine CmpD.yes (by decide) ?_
        | refine CmpD.no (by decide) ?_
        | refine Chk.mk ⟨rfl, trivial⟩ ?_
        | refine Chk.mk ⟨rfl, rfl, trivial⟩ ?_
        | refine Chk.mk ⟨rfl, rfl, rfl, trivial⟩ ?_
        | refine Chk.mk ⟨rfl, rfl, rfl, rfl, trivial⟩ ?_
        | refine Chk.mk ⟨rfl, rfl, rfl, rfl, rfl, trivial⟩ ?_
        | refine Chk.mk ⟨rfl, rfl, rfl, rfl, rfl, rfl, trivial⟩ ?_)
      have hll3 : (gl ++ [⟨e, sn, aI, capI, gs⟩] : List Grp).length = gl.length + 1 := by simp
      refine ⟨[[(b12, row [.slice a2 (gl.length + 1) cap2] 64)], [(b13, row [.int .i64 ((at_ + (li.length + 1)) % lb : Nat)] 3)], ch2], Drop.pick [0, 1, 2] _ rfl, a2, cap2, ch2, gl ++ [⟨e, sn, aI, capI, gs⟩], acc ++ [(e, sn, li)], ?_, ?_, ⟨?_, ?_⟩, ?_, ?_⟩
      · rw [hll3, placeP_snoc, ← hatl]
      · rw [hll3, grpCells_snoc]; exact hO2
      · intro g hg
        rcases List.mem_append.1 hg with hg | hg
        · exact hok2.each g hg
        · simp only [List.mem_singleton] at hg
          subst hg
          exact hgs
      · rw [List.map_append, List.map_append, hok2.g3, List.map_singleton, List.map_singleton]
        show _ ++ [((e : Int), (sn : Int), gs.map Img.pr)] = _
        rw [hgp]; rfl
      · rw [List.append_assoc]; exact hacc
      · show at_ + (li.length + 1) = _
        rw [List.map_append, List.sum_append, hatl]
        simp [Nat.add_assoc]
    case done =>
      rintro ⟨f, at_, seq, room⟩ J' S' R hJ' ⟨hfin, rfl⟩ ⟨aO, capO, chO, gl, acc, rfl, hO, hok2, hacc, hatl⟩
      rw [hfin, List.append_nil] at hacc
      subst hacc
      repeat (first
        | refine LoadD.own 0 rfl _ rfl rfl ?_
        | refine LoadD.own 1 rfl _ rfl rfl ?_
        | refine LoadD.own 2 rfl _ rfl rfl ?_
        | refine LoadD.own 3 rfl _ rfl rfl ?_
        | refine LoadD.own 4 rfl _ rfl rfl ?_
        | refine LoadD.own 5 rfl _ rfl rfl ?_
        | refine LoadP.at 0 rfl _ rfl rfl ?_
        | refine LoadP.at 1 rfl _ rfl rfl ?_
        | refine LoadP.at 2 rfl _ rfl rfl ?_
        | refine LoadP.at 3 rfl _ rfl rfl ?_
        | refine LoadP.at 4 rfl _ rfl rfl ?_
        | refine LoadP.at 5 rfl _ rfl rfl ?_
        | refine StoreD.st 0 rfl rfl rfl ?_
        | refine StoreD.st 1 rfl rfl rfl ?_
        | refine StoreD.st 2 rfl rfl rfl ?_
        | refine StoreD.st 3 rfl rfl rfl ?_
        | refine StoreD.st 4 rfl rfl rfl ?_
        | refine StoreD.st 5 rfl rfl rfl ?_
        | refine CmpD.yes rfl ?_
        | refine CmpD.yes (by decide) ?_
        | refine CmpD.no (by decide) ?_
        | refine Chk.mk ⟨rfl, trivial⟩ ?_
        | refine Chk.mk ⟨rfl, rfl, trivial⟩ ?_
        | refine Chk.mk ⟨rfl, rfl, rfl, trivial⟩ ?_
        | refine Chk.mk ⟨rfl, rfl, rfl, rfl, trivial⟩ ?_
        | refine Chk.mk ⟨rfl, rfl, rfl, rfl, rfl, trivial⟩ ?_
        | refine Chk.mk ⟨rfl, rfl, rfl, rfl, rfl, rfl, trivial⟩ ?_)
      refine CodeF.sched [[], [], [0], [0, 1, 2], [0, 1, 2, 3]] [0, 1, 2, 3, 4] (by kernel_rfl) ?_
      repeat (first
        | refine LoadD.own 0 rfl _ rfl rfl ?_
        | refine LoadD.own 1 rfl _ rfl rfl ?_
        | refine LoadD.own 2 rfl _ rfl rfl ?_
        | refine LoadD.own 3 rfl _ rfl rfl ?_
        | refine LoadD.own 4 rfl _ rfl rfl ?_
        | refine LoadD.own 5 rfl _ rfl rfl ?_
        | refine LoadP.at 0 rfl _ rfl rfl ?_
        | refine LoadP.at 1 rfl _ rfl rfl ?_
        | refine LoadP.at 2 rfl _ rfl rfl ?_
        | refine LoadP.at 3 rfl _ rfl rfl ?_
        | refine LoadP.at 4 rfl _ rfl rfl ?_
        | refine LoadP.at 5 rfl _ rfl rfl ?_
        | refine StoreD.st 0 rfl rfl rfl ?_
        | refine StoreD.st 1 rfl rfl rfl ?_
        | refine StoreD.st 2 rfl rfl rfl ?_
        | refine StoreD.st 3 rfl rfl rfl ?_
        | refine StoreD.st 4 rfl rfl rfl ?_
        | refine StoreD.st 5 rfl rfl rfl ?_
        | refine CmpD.yes rfl ?_
        | refine CmpD.yes (by decide) ?_
        | refine CmpD.no (by decide) ?_
        | refine Chk.mk ⟨rfl, trivial⟩ ?_
        | refine Chk.mk ⟨rfl, rfl, trivial⟩ ?_
        | refine Chk.mk ⟨rfl, rfl, rfl, trivial⟩ ?_
        | refine Chk.mk ⟨rfl, rfl, rfl, rfl, trivial⟩ ?_
        | refine Chk.mk ⟨rfl, rfl, rfl, rfl, rfl, trivial⟩ ?_
        | refine Chk.mk ⟨rfl, rfl, rfl, rfl, rfl, rfl, trivial⟩ ?_)
      refine Done.mk ⟨[chD, chO], Drop.pick [6, 2] _ rfl, chO, rfl, .inr (.inr ⟨hok, rfl, aO, capO, gl, ?_, hO, ?_⟩)⟩
      · rw [hlbn, ← hLe]; rfl
      · rw [← hLe]; exact hok2
end Go.Proofs.Ytbpdbgcndfcilaa
namespace Go.Proofs.Ytbpdbgcndfcilaa
open Go.RowKit Go.Sl
set_option maxRecDepth 20000

structure RDk (I : Imm) (v : Value) (d : DSt) : Prop where
  wf : d.Wf
  snd : ∀ i, i < d.safe.length → d.now[i]? = some (atP (d.safe.getD i []) d.writes i)
  ex : ∃ (s w : Hd) (bS : List Bk) (gs : List Img), v = rV s w d.count d.down (gv d.arm) (gv d.fault) ∧ Rds I s.a s.len (bS.map Bk.cell) ∧ (∀ b ∈ bS, BkOk I b) ∧ bS.map Bk.data = d.safe ∧ ImgsOk I w.a gs ∧ w.len = gs.length ∧ gs.map Img.pr = d.writes
theorem RDk.mono {I J : Imm} {v : Value} {d : DSt} (h : RDk I v d) (hJ : I.le J) : RDk J v d := by
  obtain ⟨s, w, bS, gs, e, h1, h2, h3, h4, h5, h6⟩ := h.ex
  exact ⟨h.wf, h.snd, s, w, bS, gs, e, h1.mono hJ, fun b hb => (h2 b hb).mono hJ, h3, h4.mono hJ, h5, h6⟩
theorem RDk.stop {I : Imm} {s w : Hd} {d : DSt} {bS : List Bk} {gs : List Img} (h : d.Wf) (hs : ∀ i, i < d.safe.length → d.now[i]? = some (atP (d.safe.getD i []) d.writes i)) (h1 : Rds I s.a s.len (bS.map Bk.cell)) (h2 : ∀ b ∈ bS, BkOk I b) (h3 : bS.map Bk.data = d.safe) (h4 : ImgsOk I w.a gs) (h5 : w.len = gs.length) (h6 : gs.map Img.pr = d.writes) :
    RDk I (rV s w d.count d.stop.1.down (gv d.stop.1.arm) (gv d.stop.1.fault)) d.stop.1 := by
  obtain ⟨e1, e2, e3, e4⟩ := d.stop_same
  exact ⟨h.stop, by rw [e1, e2, e3]; exact hs, s, w, bS, gs, by rw [e4], h1, h2, by rw [e1]; exact h3, h4, h5, by rw [e3]; exact h6⟩
end Go.Proofs.Ytbpdbgcndfcilaa
namespace Go.Proofs.Ytbpdbgcndfcilaa
open Go.RowKit Go.Sl
set_option maxRecDepth 20000

end Go.Proofs.Ytbpdbgcndfcilaa
namespace Go.Proofs.Ytbpdbgcndfcilaa
open Go.RowKit Go.Sl
set_option maxRecDepth 20000

end Go.Proofs.Ytbpdbgcndfcilaa
namespace Go.Proofs.Ytbpdbgcndfcilaa
open Go.RowKit Go.Sl
set_option maxRecDepth 20000

end Go.Proofs.Ytbpdbgcndfcilaa
namespace Go.Proofs.Ytbpdbgcndfcilaa
open Go.RowKit Go.Sl
set_option maxRecDepth 20000

end Go.Proofs.Ytbpdbgcndfcilaa
namespace Go.Proofs.Ytbpdbgcndfcilaa
open Go.RowKit Go.Sl
set_option maxRecDepth 20000

end Go.Proofs.Ytbpdbgcndfcilaa
namespace Go.Proofs.Ytbpdbgcndfcilaa
open Go.RowKit Go.Sl
set_option maxRecDepth 20000

end Go.Proofs.Ytbpdbgcndfcilaa
namespace Go.Proofs.Ytbpdbgcndfcilaa
open Go.RowKit Go.Sl
set_option maxRecDepth 20000

theorem fresh_calm (l : List Dat) : (DSt.of l).Calm := ⟨rfl, rfl, rfl⟩
theorem JSt.Wf.append {j : JSt} (hj : j.Wf) {d : DSt} {l : List PImg} {held : Bool} (h8 : j.groups.length ≤ 999999) : (j.appendB d l held).1.Wf := by
  have hr := hj.ring
  unfold JSt.appendB JSt.append
  split
  · exact hj
  split
  · exact hj
  rename_i hR
  have hR : RightP j.epoch j.next l := Decidable.of_not_not hR
  split
  · exact hj
  generalize hp : putS j.s j.t j.u j.h (l.length + 1) (if held then l.length + 1 else 0) = q
  obtain ⟨⟨s, t, u, h, e⟩, at_⟩ := q
  dsimp only
  split
  · exact hj
  rename_i he
  have he : e = 0 := Decidable.of_not_not he
  obtain ⟨e1, e2, h3, _, _⟩ := putS_mid hr hp he
  have hn := hj.next
  have hs := hj.synced
  have hl := hR.2.2.2.2.2.1
  have hs2 := hR.2.2.2.1
  generalize wrAll (fun i => j.lay.l + (at_ + i) % s) (putP j.epoch.toNat j.next.toNat l) 0 d = q
  obtain ⟨d', e'⟩ := q
  dsimp only
  split
  · exact ⟨hj.log, h3, hj.epoch, hj.next, hj.synced, hj.few, hj.groups⟩
  · refine ⟨hj.log, h3, hj.epoch, ?_, ?_, ?_, ?_⟩
    · show 1 ≤ j.next + 1 ∧ j.next + 1 ≤ _; omega
    · show 0 ≤ j.synced ∧ j.synced < j.next + 1; omega
    · show (j.groups ++ [_]).length ≤ _; simp; omega
    · intro g hg
      rcases List.mem_append.1 hg with hg | hg
      · exact hj.groups g hg
      · simp only [List.mem_singleton] at hg
        subst hg
        unfold In64; dsimp only; omega
theorem JSt.Wf.flush {j : JSt} (hj : j.Wf) (d : DSt) : (j.flush d).1.Wf := by
  have hn := hj.next
  unfold JSt.flush
  split
  · exact hj
  split
  · exact ⟨hj.log, hj.ring, hj.epoch, hj.next, hj.synced, hj.few, hj.groups⟩
  · refine ⟨hj.log, hj.ring, hj.epoch, hj.next, ?_, hj.few, hj.groups⟩
    show 0 ≤ j.next - 1 ∧ j.next - 1 < j.next; omega
/-- a group that fits is appended: what the journal is then -/
theorem JSt.append_next {j : JSt} (hj : j.Wf) (h8 : j.groups.length ≤ 999999) {d : DSt} {l : List PImg} {held : Bool} (hb : j.broken = false) (hR : RightP j.epoch j.next l) (hs : (l.length : Int) + 1 ≤ j.s) (hd : d.Calm) (hlen : j.s + 2 ≤ d.now.length)
    {t u h at_ : Int} (hp : putS j.s j.t j.u j.h (l.length + 1) (if held then l.length + 1 else 0) = ((j.s, t, u, h, 0), at_)) :
    ∃ j', j.appendB d l held = (j', wrD (fun i => 2 + (at_ + i) % j.s) (putP j.epoch.toNat j.next.toNat l) 0 d, j.next, 0) ∧ j'.lay = j.lay ∧ j'.s = j.s ∧ j'.t = t ∧ j'.u = u ∧ j'.h = h ∧ j'.epoch = j.epoch ∧ j'.next = j.next + 1 ∧ j'.synced = j.synced ∧ j'.groups = j.groups ++ [(j.next, (l.length + 1 : Int))] ∧ j'.broken = false ∧ j'.Wf := by
  have e := JSt.append_calm hb hR hs hj.log hd hlen hp
  have w := hj.append (d := d) (l := l) (held := held) h8
  rw [e] at w
  exact ⟨_, e, rfl, rfl, rfl, rfl, rfl, rfl, rfl, rfl, rfl, hb, w⟩
end Go.Proofs.Ytbpdbgcndfcilaa
namespace Go.Proofs.Ytbpdbgcndfcilaa
open Go.RowKit Go.Sl
set_option maxRecDepth 20000

end Go.Proofs.Ytbpdbgcndfcilaa
namespace Go.Proofs.Ytbpdbgcndfcilaa
open Go.RowKit Go.Sl

def pickS (n m : Int) : Int := if m ≤ 0 then 0 else n % m
theorem pickS_range {n m : Int} (h : 0 < m) : 0 ≤ pickS n m ∧ pickS n m < m := by
  unfold pickS
  rw [if_neg (by omega)]
  exact ⟨Int.emod_nonneg _ (by omega), Int.emod_lt_of_pos _ h⟩
theorem emod_of_tmod (n m : Int) (hm : 0 < m) : n % m = if n.tmod m < 0 then n.tmod m + m else n.tmod m := by
  have h1 : n = m * n.tdiv m + n.tmod m := (Int.mul_tdiv_add_tmod n m).symm
  have h2 := Int.tmod_lt_of_pos n hm
  have h3 : -m < n.tmod m := by
    have h4 := Int.tmod_lt_of_pos (-n) hm
    rw [Int.neg_tmod] at h4; omega
  split
  · have e : n = (n.tmod m + m) + m * (n.tdiv m - 1) := by
      conv => lhs; rw [h1]
      rw [Int.mul_sub]; omega
    conv => lhs; rw [e]
    rw [Int.add_mul_emod_self_left, Int.emod_eq_of_lt (by omega) (by omega)]
  · have e : n = n.tmod m + m * n.tdiv m := by omega
    conv => lhs; rw [e]
    rw [Int.add_mul_emod_self_left, Int.emod_eq_of_lt (by omega) (by omega)]
theorem low_Pick (n m : Int) (I : Imm) (_hn : In64 n) (hm : In64 m) : Tri Try.prog 35 #[.int .i64 n, .int .i64 m] I [] fun v J _ => v = .int .i64 (pickS n m) ∧ I = J := by
  unfold In64 at *
  refine Tri.of (args := [.int .i64 n, .int .i64 m]) tabOk Try.func35 rfl (by kernel_rfl) (by kernel_rfl) ?_
  refine CmpD.split (fun c => ?_) (fun c => ?_)
  · refine Done.mk ⟨?_, rfl⟩
    rw [pickS, if_pos c]; rfl
  have h2 := Int.tmod_lt_of_pos n (show 0 < m by omega)
  have h3 : -m < n.tmod m := by
    have h4 := Int.tmod_lt_of_pos (-n) (show 0 < m by omega)
    rw [Int.neg_tmod] at h4; omega
  have e := emod_of_tmod n m (by omega)
  refine Chk.mk (by omega) ?_
  refine ToD.to (n.tmod m) rfl ?_
  refine CmpD.split (fun c2 => ?_) (fun c2 => ?_)
  · refine ToD.i64 (by omega) (by omega) ?_
    refine Done.mk ⟨?_, rfl⟩
    rw [pickS, if_neg c, e, if_pos c2]; rfl
  · refine Done.mk ⟨?_, rfl⟩
    rw [pickS, if_neg c, e, if_neg c2]; rfl
end Go.Proofs.Ytbpdbgcndfcilaa
namespace Go.Proofs.Ytbpdbgcndfcilaa
open Go.RowKit Go.Sl
set_option maxRecDepth 20000

def im9 (n : Nat) (seed : Int) : List PImg := (List.range n).map fun (i : Nat) => (30 + (i : Int), madeL (IntKind.i64.wrap (seed + (i : Int))) 4096)
theorem im9_length (n : Nat) (seed : Int) : (im9 n seed).length = n := by simp [im9]
theorem im9_succ (n : Nat) (seed : Int) : im9 (n + 1) seed = im9 n seed ++ [(30 + (n : Int), madeL (IntKind.i64.wrap (seed + (n : Int))) 4096)] := by simp [im9, List.range_succ]
theorem im9_right {e s : Int} (h1 : 1 ≤ e ∧ e ≤ 8388608) (h2 : 1 ≤ s ∧ s ≤ 549755813888) (n : Nat) (hn : 1 ≤ n ∧ n ≤ 32) (seed : Int) : RightP e s (im9 n seed) := by
  refine ⟨h1.1, h1.2, h2.1, h2.2, by rw [im9_length]; omega, by rw [im9_length]; omega, ?_, ?_⟩
  · intro g hg
    unfold im9 at hg
    obtain ⟨i, hi, rfl⟩ := List.mem_map.1 hg
    have := List.mem_range.1 hi
    exact ⟨by show (0 : Int) ≤ 30 + (i : Int); omega, by show 30 + (i : Int) < 512; omega, madeL_length _ _⟩
  · unfold im9
    rw [List.map_map, List.nodup_iff_pairwise_ne, List.pairwise_map]
    refine List.Pairwise.imp ?_ List.nodup_range
    intro a b hab he
    have he : 30 + (a : Int) = 30 + (b : Int) := he
    exact hab (by omega)
theorem images9 (n : Nat) (hn : n ≤ 40) (seed : Int) (I : Imm) : Tri Try.prog 92 #[.int .i64 n, .int .i64 seed] I [] fun v J _ => ∃ a cap gs, v = .slice a gs.length cap ∧ ImgsOk J a gs ∧ gs.map Img.pr = im9 n seed := by
  refine Tri.fixed (Q := fun v J S' => ∃ (a : Option Addr) (cap : Nat) (ch : List Blk) (gs : List Img), v = .slice a gs.length cap ∧ OwnC ch 2 a gs.length cap (imgCells gs) ∧ (∀ g ∈ gs, ImgOk J g) ∧ gs.map Img.pr = im9 n seed ∧ S' = [ch]) ?_ ?_
  rotate_left
  · rintro v J S' hJ ⟨a, cap, ch, gs, rfl, hO, hok, hp, rfl⟩
    exact ⟨0, ch, rfl, fun J' hJ' hm => ⟨a, cap, gs, rfl, ⟨Rds.of_ownS hO hm, fun g hg => (hok g hg).mono hJ'⟩, hp⟩⟩
  refine Tri.of (args := [.int .i64 n, .int .i64 seed]) tabOk Try.func92 rfl (by kernel_rfl) (by kernel_rfl) ?_
  refine CodeF.loopD [0, 1, 5, 6] (fun vs J S' => ∃ (i : Nat) (a : Option Addr) (cap : Nat) (ch : List Blk) (gs : List Img), i ≤ n ∧ OwnC ch 2 a i cap (imgCells gs) ∧ gs.length = i ∧ gs.map Img.pr = im9 i seed ∧ (∀ g ∈ gs, ImgOk J g) ∧ I.le J ∧
      vs = [.int .i64 n, .int .i64 seed, .slice a i cap, .int .i64 i] ∧ S' = [ch])
    (fun vs _ _ => match vs with | [_, _, _, .int _ i] => ((n : Int) - i).toNat | _ => 0) ?_ ?_
  · exact ⟨_, Drop.and (Drop.refl _), 0, none, 0, [], [], by omega, OwnC.nil _ _, rfl, rfl, by simp, I.le_refl, rfl, rfl⟩
  rintro vs g J S' hJ ⟨i, a, cap, ch, gs, hi, hO, hgl, hgp, hok, hle, rfl, rfl⟩
  refine CmpD.split (fun c1 => ?_) (fun c1 => ?_)
  · refine ToD.i64 (by omega) (by omega) ?_
    refine ToD.keep ?_
    refine Tri.free (made (IntKind.i64.wrap (seed + (i : Int))) 4096 (by omega) J) ?_
    rintro v J1 _ hJ1 ⟨aD, rfl, hrD⟩
    conv => whnf
    intro bN
    refine appendD tabOk rfl rfl rfl rfl rfl rfl rfl 0 rfl hO (SrcOk.slice (n := 1) (news := imgCells [⟨30 + (i : Int), aD, 4096, 4096, madeL (IntKind.i64.wrap (seed + (i : Int))) 4096⟩]) tabOk rfl ((OwnC.whole (len := 1) (size := 2) rfl).slC 1 rfl) (by intro v hv; simp [imgCells] at hv; rcases hv with rfl | rfl <;> rfl)) rfl (by show (i + 1) * 32 ≤ _; omega) (by omega) ?_
    intro a2 cap2 ch2 hO2
    refine ToD.i64 (by omega) (by omega) ?_
    refine ⟨_, Drop.pick [0] _ rfl, ⟨i + 1, a2, cap2, ch2, gs ++ [⟨30 + (i : Int), aD, 4096, 4096, madeL (IntKind.i64.wrap (seed + (i : Int))) 4096⟩], by omega, by rw [imgCells_snoc]; exact hO2, by simp [hgl], by rw [List.map_append, hgp, im9_succ]; rfl, ?_, Imm.le_trans hle hJ1, rfl, rfl⟩, ?_⟩
    · intro y hy
      rcases List.mem_append.1 hy with hy | hy
      · exact (hok y hy).mono hJ1
      · simp only [List.mem_singleton] at hy
        subst hy
        exact ⟨by show In64 (30 + (i : Int)); unfold In64; omega, hrD⟩
    · show ((n : Int) - ((i : Int) + 1)).toNat < ((n : Int) - (i : Int)).toNat; omega
  · obtain rfl : i = n := by omega
    exact Done.mk ⟨a, cap, ch, gs, by rw [hgl]; rfl, by rw [hgl]; exact hO, hok, hgp, rfl⟩
theorem layout9 (I : Imm) : Tri Try.prog 37 #[] I [] fun v J _ => v = (layOf 64).v ∧ I = J := by
  refine Tri.of (args := []) tabOk Try.func37 rfl (by kernel_rfl) (by kernel_rfl) ?_
  conv => whnf
  intro b0
  refine Tri.free (ref_Of 64 I) ?_
  rintro v J _ hJ ⟨rfl, rfl⟩
  rw [layA, if_neg (by omega)]
  conv => whnf
  intro b1
  repeat (first
    | refine LoadD.own 0 rfl _ rfl rfl ?_
    | refine LoadD.own 1 rfl _ rfl rfl ?_
    | refine LoadD.own 2 rfl _ rfl rfl ?_
    | refine LoadP.at 0 rfl _ rfl rfl ?_
    | refine LoadP.at 1 rfl _ rfl rfl ?_
    | refine LoadP.at 2 rfl _ rfl rfl ?_
    | refine StoreD.st 0 rfl rfl rfl ?_
    | refine StoreD.st 1 rfl rfl rfl ?_
    | refine StoreD.st 2 rfl rfl rfl ?_
    | refine CmpD.yes rfl ?_
    | refine CmpD.yes (by decide) ?_
    | refine CmpD.no (by decide) ?_
    | refine Chk.mk ⟨rfl, trivial⟩ ?_
    | refine Chk.mk ⟨rfl, rfl, trivial⟩ ?_
    | refine Chk.mk ⟨rfl, rfl, rfl, trivial⟩ ?_
    | refine Chk.mk ⟨rfl, rfl, rfl, rfl, trivial⟩ ?_
    | refine Chk.mk ⟨rfl, rfl, rfl, rfl, rfl, trivial⟩ ?_
    | refine Chk.mk ⟨rfl, rfl, rfl, rfl, rfl, rfl, trivial⟩ ?_)
  exact Done.mk ⟨rfl, rfl⟩
/-! ### written -/
def wrtStep (j : JSt) (d : DSt) (all : List (List PImg)) (sz : Int) : JSt × DSt × List (List PImg) :=
  ((j.appendB d (im9 (1 + pickS sz 5).toNat sz) false).1, (j.appendB d (im9 (1 + pickS sz 5).toNat sz) false).2.1, if (j.appendB d (im9 (1 + pickS sz 5).toNat sz) false).2.2.2 = 0 then all ++ [im9 (1 + pickS sz 5).toNat sz] else all)
def wrtK (x : JSt × DSt × List (List PImg)) (l : List Int) : JSt × DSt × List (List PImg) := l.foldl (fun y z => wrtStep y.1 y.2.1 y.2.2 z) x
def wrt0 (epoch tail : Int) : JSt × DSt × List (List PImg) := (openJ 64 epoch 1 tail, DSt.of (List.replicate 64 noughts), [])
def wrtP (epoch tail : Int) (l : List Int) : JSt × DSt × List (List PImg) := wrtK (wrt0 epoch tail) (l.take 12)
/-- images, told as lists of lists -/
structure Ims where
  a : Option Addr
  cap : Nat
  gs : List Img
@[reducible] def Ims.cell (m : Ims) : Value := .slice m.a m.gs.length m.cap
def Ims.pr (m : Ims) : List PImg := m.gs.map Img.pr
end Go.Proofs.Ytbpdbgcndfcilaa
namespace Go.Proofs.Ytbpdbgcndfcilaa
open Go.RowKit Go.Sl
set_option maxRecDepth 20000

theorem JSt.Wf.turn {j : JSt} (hj : j.Wf) {r : R5} (hr : r.2.2.2.2 = 0 → Ok r.1 r.2.1 r.2.2.1 r.2.2.2.1) : (j.turn r).1.Wf := by
  obtain ⟨s, t, u, h, e⟩ := r
  unfold JSt.turn
  dsimp only at hr ⊢
  split
  · rename_i h0; exact ⟨hj.log, hr h0, hj.epoch, hj.next, hj.synced, hj.few, hj.groups⟩
  · exact hj
/-- a journal of the examples -/
structure JB (j : JSt) (t u h next synced : Int) (gs : List (Int × Int)) : Prop where
  s : j.s = 16
  t : j.t = t
  u : j.u = u
  h : j.h = h
  epoch : j.epoch = 1
  next : j.next = next
  synced : j.synced = synced
  groups : j.groups = gs
  broken : j.broken = false
  wf : j.Wf
/-- a disk of the examples -/
structure DB (d : DSt) (k : Nat) : Prop where
  calm : d.Calm
  len : d.now.length = 64
  few : d.Few k
/-- all of them -/
structure Numbers where
  jA : JSt
  jB : JSt
  jF : JSt
  jR : JSt
  jH : JSt
  jC : JSt
  jX : JSt
  dA : DSt
  dB : DSt
  dF : DSt
  dC : DSt
  dX : DSt
  dY : DSt
end Go.Proofs.Ytbpdbgcndfcilaa
namespace Go.Proofs.Ytbpdbgcndfcilaa
open Go.RowKit Go.Sl
set_option maxRecDepth 20000

/-! ### where writes go -/
theorem put_get {d : DSt} {p : Nat} {n : Nat} {b : Dat} (h : n ≠ p) : (d.put (n : Int) b).now[p]? = d.now[p]? := by
  show (d.now.set _ _)[p]? = _
  rw [Int.toNat_natCast, List.getElem?_set_ne h]
theorem put_hit {d : DSt} {p : Nat} {b : Dat} (h : p < d.now.length) : (d.put (p : Int) b).now[p]? = some b := by
  show (d.now.set _ _)[p]? = _
  rw [Int.toNat_natCast, List.getElem?_set_self h]
theorem wrD_miss (f : Nat → Nat) (p : Nat) : ∀ (bs : List Dat) (i : Nat) (d : DSt), (∀ k, k < bs.length → f (i + k) ≠ p) → (wrD (fun k => (f k : Int)) bs i d).now[p]? = d.now[p]?
  | [], _, _, _ => rfl
  | b :: bs, i, d, h => by
    rw [wrD, wrD_miss f p bs (i + 1) _ (fun k hk => by have := h (k + 1) (by simp; omega); rwa [show i + (k + 1) = i + 1 + k by omega] at this)]
    exact put_get (h 0 (by simp))
theorem wrD_hit (f : Nat → Nat) (p : Nat) : ∀ (bs : List Dat) (i : Nat) (d : DSt) (k : Nat), (hk : k < bs.length) → f (i + k) = p → (∀ k', k < k' → k' < bs.length → f (i + k') ≠ p) → p < d.now.length → (wrD (fun k => (f k : Int)) bs i d).now[p]? = some bs[k]
  | [], _, _, k, hk, _, _, _ => by simp at hk
  | b :: bs, i, d, 0, _, hf, hno, hp => by
    rw [wrD, wrD_miss f p bs (i + 1) _ (fun k' hk' => by have := hno (k' + 1) (by omega) (by simp; omega); rwa [show i + (k' + 1) = i + 1 + k' by omega] at this)]
    have hf : f i = p := hf
    show (d.put (f i : Int) b).now[p]? = _
    rw [hf, put_hit hp]; rfl
  | b :: bs, i, d, k + 1, hk, hf, hno, hp => by
    rw [wrD]
    have := wrD_hit f p bs (i + 1) (d.put (f i : Int) b) k (by simpa using hk) (by rw [show i + 1 + k = i + (k + 1) by omega]; exact hf) (fun k' h1 h2 => by have := hno (k' + 1) (by omega) (by simp; omega); rwa [show i + (k' + 1) = i + 1 + k' by omega] at this) (by rw [DSt.put_len]; exact hp)
    simpa using this
/-! ### the ring's blocks -/
def usedP (l : List (List PImg)) : Nat := (l.map fun g => g.length + 1).sum
def ringB (ep : Nat) : Nat → List (List PImg) → List Dat
  | _, [] => []
  | sq, g :: l => putP ep sq g ++ ringB ep (sq + 1) l
theorem ringB_length (ep : Nat) : ∀ (l : List (List PImg)) (sq : Nat), (ringB ep sq l).length = usedP l
  | [], _ => rfl
  | g :: l, sq => by rw [ringB, List.length_append, putP_length, ringB_length ep l]; simp [usedP]
theorem ringB_snoc (ep : Nat) : ∀ (l : List (List PImg)) (sq : Nat) (g : List PImg), ringB ep sq (l ++ [g]) = ringB ep sq l ++ putP ep (sq + l.length) g
  | [], sq, g => by simp [ringB]
  | x :: l, sq, g => by
    rw [List.cons_append, ringB, ringB_snoc ep l, ringB, List.append_assoc, List.length_cons, show sq + 1 + l.length = sq + (l.length + 1) by omega]
theorem usedP_snoc (l : List (List PImg)) (g : List PImg) : usedP (l ++ [g]) = usedP l + (g.length + 1) := by simp [usedP]
structure WI (ep tail : Nat) (z : Nat → Dat) (j : JSt) (d : DSt) (all : List (List PImg)) : Prop where
  s : j.s = 16
  t : j.t = tail
  u : j.u = (usedP all : Nat)
  h : j.h = 0
  epoch : j.epoch = ep
  next : j.next = (all.length + 1 : Nat)
  groups : j.groups.length = all.length
  broken : j.broken = false
  log : j.lay.l = 2
  wf : j.Wf
  calm : d.Calm
  dwf : d.Wf
  len : d.now.length = 64
  few : d.Few (usedP all)
  used : usedP all ≤ 16
  right : ∀ (i : Nat) (h : i < all.length), RightP ep ((i + 1 : Nat) : Int) all[i]
  ring : ∀ o, o < 16 → rbP d 2 16 (tail + o) = (ringB ep 1 all).getD o (z o)
theorem usedP_ge (l : List (List PImg)) : l.length ≤ usedP l := by
  unfold usedP
  induction l with
  | nil => simp
  | cons g l ih => simp; omega
theorem DSt.Wf.put {d : DSt} (h : d.Wf) (hc : d.Calm) {n : Int} {b : Dat} (hn : 0 ≤ n ∧ n < d.now.length) (hb : b.length = 4096) : (d.put n b).Wf := by
  have := h.write n b
  rwa [DSt.write_calm hc hn hb] at this
theorem wrD_wf (f : Nat → Int) : ∀ (bs : List Dat) (i : Nat) (d : DSt), d.Wf → d.Calm → (∀ b ∈ bs, b.length = 4096) → (∀ k, 0 ≤ f k ∧ f k < d.now.length) → (wrD f bs i d).Wf
  | [], _, _, h, _, _, _ => h
  | b :: bs, i, d, h, hc, hb, hf => wrD_wf f bs (i + 1) _ (h.put hc (hf i) (hb b (by simp))) (hc.put _ _) (fun x hx => hb x (by simp [hx])) (by rw [DSt.put_len]; exact hf)
/-- a group is appended, or there is no room -/
theorem WI.append {ep tail : Nat} {z : Nat → Dat} {j : JSt} {d : DSt} {all : List (List PImg)} (w : WI ep tail z j d all) {l : List PImg} (hR : RightP ep ((all.length + 1 : Nat) : Int) l) :
    (usedP all + (l.length + 1) ≤ 16 ∧ WI ep tail z (j.appendB d l false).1 (j.appendB d l false).2.1 (all ++ [l]) ∧ (j.appendB d l false).2.2.2 = 0) ∨
    (16 < usedP all + (l.length + 1) ∧ (j.appendB d l false).1 = j ∧ (j.appendB d l false).2.1 = d ∧ (j.appendB d l false).2.2.2 ≠ 0) := by
  have hge := usedP_ge all
  have hu := w.used
  have hll := hR.2.2.2.2.2.1
  have hR' : RightP j.epoch j.next l := by rw [w.epoch, w.next]; exact hR
  have hok := w.wf.ring
  have hokd : Ok 16 tail (usedP all : Nat) 0 := by have := hok; rw [w.s, w.t, w.u, w.h] at this; exact this
  have htl : (tail : Int) < 16 := hokd.2.2.2.1
  rcases Nat.lt_or_ge 16 (usedP all + (l.length + 1)) with hf | hf
  · right
    refine ⟨hf, ?_⟩
    unfold JSt.appendB JSt.append
    rw [if_neg (by rw [w.broken]; simp), if_neg (by simpa using hR')]
    by_cases hs : j.s < (l.length : Int) + 1
    · rw [if_pos hs]; exact ⟨rfl, rfl, by simp⟩
    rw [if_neg hs]
    have hp : putS j.s j.t j.u j.h ((l.length : Int) + 1) (if false = true then (l.length : Int) + 1 else 0) = ((0, 0, 0, 0, 5), 0) := by
      rw [w.s, w.t, w.u, w.h]
      unfold putS
      rw [if_neg (by simp only [Bool.false_eq_true, if_false]; rintro (h | h | h | h | h); exact h hokd; omega; omega; omega; omega), if_pos (by simp only [Bool.false_eq_true, if_false]; omega)]
    rw [hp]
    exact ⟨rfl, rfl, by simp⟩
  · left
    refine ⟨hf, ?_⟩
    have hp : putS j.s j.t j.u j.h ((l.length : Int) + 1) (if false = true then (l.length : Int) + 1 else 0) = ((j.s, (tail : Int), ((usedP all : Nat) : Int) + ((l.length : Int) + 1), 0, 0), ((tail : Int) + (usedP all : Nat)) % 16) := by
      rw [w.s, w.t, w.u, w.h]
      unfold putS
      rw [if_neg (by simp only [Bool.false_eq_true, if_false]; rintro (h | h | h | h | h); exact h hokd; omega; omega; omega; omega), if_neg (by simp only [Bool.false_eq_true, if_false]; omega)]
      simp only [Bool.false_eq_true, if_false, Int.sub_zero]
    have hlen16 : j.s + 2 ≤ d.now.length := by rw [w.s, w.len]; decide
    have hs1 : (l.length : Int) + 1 ≤ j.s := by rw [w.s]; omega
    obtain ⟨j', a, f1, f2, f3, f4, f5, f6, f7, f8, f9, f10, w'⟩ := JSt.append_next w.wf (by rw [w.groups]; omega) w.broken hR' hs1 w.calm hlen16 hp
    rw [a]
    have hB := putP_len (e := j.epoch.toNat) (s := j.next.toNat) hll hR.lens
    have hfl : ∀ k : Nat, (0 : Int) ≤ 2 + (((tail : Int) + (usedP all : Nat)) % 16 + k) % j.s ∧ 2 + (((tail : Int) + (usedP all : Nat)) % 16 + k) % j.s < d.now.length := by
      intro k
      rw [w.s, w.len]
      have := Int.emod_nonneg (((tail : Int) + (usedP all : Nat)) % 16 + k) (b := 16) (by decide)
      have := Int.emod_lt_of_pos (((tail : Int) + (usedP all : Nat)) % 16 + k) (b := 16) (by decide)
      omega
    have hff : (fun k : Nat => (2 : Int) + (((tail : Int) + (usedP all : Nat)) % 16 + k) % j.s) = fun k : Nat => ((2 + (tail + usedP all + k) % 16 : Nat) : Int) := by
      funext k
      rw [w.s]; omega
    refine ⟨⟨by rw [f2, w.s], f3, by rw [f4, usedP_snoc]; omega, f5, by rw [f6, w.epoch], by rw [f7, w.next, List.length_append]; rfl, by rw [f9]; simp [w.groups], f10, by rw [f1, w.log], w', wrD_calm _ _ _ _ w.calm, wrD_wf _ _ _ _ w.dwf w.calm hB hfl, by rw [wrD_len, w.len], ?_, by rw [usedP_snoc]; exact hf, ?_, ?_⟩, rfl⟩
    · have := wrD_few (fun i : Nat => (2 : Int) + (((tail : Int) + (usedP all : Nat)) % 16 + i) % j.s) (putP j.epoch.toNat j.next.toNat l) 0 d _ w.few
      rw [putP_length] at this
      rw [usedP_snoc]; exact this
    · intro i hi
      rw [List.getElem_append]
      split
      · rename_i h; exact w.right i h
      · rename_i h
        simp only [List.length_append, List.length_singleton] at hi
        obtain rfl : i = all.length := by omega
        simpa using hR
    · intro o ho
      rw [hff, ringB_snoc]
      have hrl := ringB_length ep all 1
      have he1 : j.epoch.toNat = ep := by rw [w.epoch]; rfl
      have he2 : j.next.toNat = 1 + all.length := by rw [w.next]; omega
      rw [he1, he2]
      have hpl := putP_length ep (1 + all.length) l
      obtain ⟨B, hBe⟩ : ∃ B, B = putP ep (1 + all.length) l := ⟨_, rfl⟩
      rw [← hBe] at hpl ⊢
      have hw := w.ring o ho
      unfold rbP at hw ⊢
      rw [List.getD_eq_getElem?_getD] at hw ⊢
      have inj : ∀ k, k < B.length → (2 + (tail + usedP all + k) % 16 = 2 + (tail + o) % 16 ↔ usedP all + k = o) := by
        intro k hk; omega
      by_cases hin : usedP all ≤ o ∧ o < usedP all + B.length
      · have := wrD_hit (fun k => 2 + (tail + usedP all + k) % 16) (2 + (tail + o) % 16) B 0 d (o - usedP all) (by omega) (by have := (inj (o - usedP all) (by omega)).2 (by omega); simpa using this)
          (fun k' h1 h2 h3 => by have := (inj k' h2).1 (by simpa using h3); omega) (by rw [w.len]; omega)
        rw [this, List.getD_eq_getElem?_getD, List.getElem?_append_right (by omega), hrl, List.getElem?_eq_getElem (by omega)]; rfl
      · have := wrD_miss (fun k => 2 + (tail + usedP all + k) % 16) (2 + (tail + o) % 16) B 0 d (fun k hk h3 => by have := (inj k hk).1 (by simpa using h3); omega)
        rw [this, hw]
        rw [List.getD_eq_getElem?_getD, List.getD_eq_getElem?_getD]
        rcases Nat.lt_or_ge o (usedP all) with g | g
        · rw [List.getElem?_append_left (by omega)]
        · rw [List.getElem?_eq_none (by omega), List.getElem?_eq_none (by rw [List.length_append]; omega)]
end Go.Proofs.Ytbpdbgcndfcilaa
namespace Go.Proofs.Ytbpdbgcndfcilaa
open Go.RowKit Go.Sl
set_option maxRecDepth 20000

def gsP (ep : Nat) : Nat → List (List PImg) → List G3
  | _, [] => []
  | sq, g :: l => (ep, sq, g) :: gsP ep (sq + 1) l
theorem gsP_length (ep : Nat) : ∀ (l : List (List PImg)) (sq : Nat), (gsP ep sq l).length = l.length
  | [], _ => rfl
  | _ :: l, sq => by rw [gsP, List.length_cons, gsP_length ep l, List.length_cons]
theorem gsP_sum (ep : Nat) : ∀ (l : List (List PImg)) (sq : Nat), ((gsP ep sq l).map fun g => g.2.2.length + 1).sum = usedP l
  | [], _ => rfl
  | g :: l, sq => by rw [gsP, List.map_cons, List.sum_cons, gsP_sum ep l]; simp [usedP]
theorem grpP_put {rb : Nat → Dat} {at_ room ep sq : Nat} {l : List PImg} (hR : RightP ep sq l) (hroom : l.length + 1 ≤ room) (hrb : ∀ (k : Nat) (h : k < (putP ep sq l).length), rb (at_ + k) = (putP ep sq l)[k]) : grpP rb at_ room = some (ep, sq, l) := by
  have h0 : rb at_ = hblk ep sq l := by have := hrb 0 (by rw [putP_length]; omega); simpa [putP_eq] using this
  unfold grpP
  rw [h0, hdP_put hR]
  dsimp only
  rw [List.length_map, if_pos hroom]
  have : ((List.range (l.length + 1)).map fun i => rb (at_ + i)) = putP ep sq l := by
    refine getElem_eq_of (by rw [putP_length]; simp) fun i h1 h2 => ?_
    simp only [List.getElem_map, List.getElem_range]
    exact hrb i h2
  rw [this, getP_put hR]
theorem scan_prefix (rb : Nat → Dat) (ep : Nat) : ∀ (all : List (List PImg)) (f at_ sq room : Nat), (∀ (i : Nat) (h : i < all.length), RightP ep ((sq + i : Nat) : Int) all[i]) → usedP all ≤ room → all.length ≤ f → (∀ (k : Nat) (h : k < (ringB ep sq all).length), rb (at_ + k) = (ringB ep sq all)[k]) →
    scanK rb ep f at_ sq room = gsP ep sq all ++ scanK rb ep (f - all.length) (at_ + usedP all) ((sq + all.length : Nat) : Int) (room - usedP all)
  | [], f, at_, sq, room, _, _, _, _ => by simp [gsP, usedP]
  | g :: l, 0, _, _, _, _, _, h, _ => by simp at h
  | g :: l, f + 1, at_, sq, room, hR, hu, hf, hrb => by
    have e : usedP (g :: l) = g.length + 1 + usedP l := by simp [usedP]
    have hg : grpP rb at_ room = some (ep, sq, g) := by
      refine grpP_put (hR 0 (by simp)) (by omega) fun k hk => ?_
      have := hrb k (by rw [ringB, List.length_append]; omega)
      simp only [ringB] at this
      rw [List.getElem_append_left hk] at this
      exact this
    rw [scanK, hg]
    dsimp only
    rw [if_pos ⟨rfl, rfl⟩, gsP, List.cons_append]
    congr 1
    have ih := scan_prefix rb ep l f (at_ + (g.length + 1)) (sq + 1) (room - (g.length + 1)) (fun i hi => by
        have := hR (i + 1) (by simpa using hi)
        rw [show sq + (i + 1) = sq + 1 + i by omega] at this
        simpa using this) (by omega) (by simpa using hf) (fun k hk => by
        have hpl := putP_length ep sq g
        have := hrb (g.length + 1 + k) (by rw [ringB, List.length_append, hpl]; omega)
        simp only [ringB] at this
        rw [List.getElem_append_right (by omega)] at this
        rw [show at_ + (g.length + 1) + k = at_ + (g.length + 1 + k) by omega, this]
        congr 1
        omega)
    rw [show ((sq : Nat) : Int) + 1 = ((sq + 1 : Nat) : Int) by omega, ih, List.length_cons]
    rw [show f + 1 - (l.length + 1) = f - l.length by omega, show at_ + (g.length + 1) + usedP l = at_ + usedP (g :: l) by omega, show sq + 1 + l.length = sq + (l.length + 1) by omega, show room - (g.length + 1) - usedP l = room - usedP (g :: l) by omega]
/-- where no group follows -/
theorem scan_stop {rb : Nat → Dat} {ep : Int} {f at_ room : Nat} {seq : Int} (h : ∀ e s l, grpP rb at_ room = some (e, s, l) → ¬ ((e : Int) = ep ∧ (s : Int) = seq)) : scanK rb ep f at_ seq room = [] := by
  cases f with
  | zero => rfl
  | succ f =>
    rw [scanK]
    cases hg : grpP rb at_ room with
    | none => rfl
    | some p =>
      obtain ⟨e, s, l⟩ := p
      dsimp only
      rw [if_neg (h e s l hg)]
theorem hd_noughts : hdP noughts = none := by
  have h0 : (numV noughts 0 8).1 = 0 := by
    unfold numV noughts
    rw [if_neg (by rw [List.length_replicate]; omega)]
    simp [nb]
  unfold hdP hbE
  rw [h0, if_neg (fun h => by have := h.1.1; simp at this)]
theorem grpP_none {rb : Nat → Dat} {at_ room : Nat} (h : hdP (rb at_) = none) : grpP rb at_ room = none := by unfold grpP; rw [h]
theorem grpP_zero {rb : Nat → Dat} {at_ : Nat} : grpP rb at_ 0 = none := by
  unfold grpP
  split
  · rfl
  · rw [if_neg (by omega)]
theorem layL64 : layL (64 : Int) = 16 := by decide
/-- a new ring that was written tells what was appended -/
theorem WI.scan {ep tail : Nat} {j : JSt} {d : DSt} {all : List (List PImg)} (w : WI ep tail (fun _ => noughts) j d all) (b : Int) : scanL d ⟨b, ep, 1, tail⟩ = gsP ep 1 all ∧ placeP 16 tail (scanL d ⟨b, ep, 1, tail⟩) = (tail + usedP all) % 16 := by
  have e : scanL d ⟨b, ep, 1, tail⟩ = gsP ep 1 all := by
    unfold scanL
    rw [w.len]
    show scanK (rbP d 2 (layL (64 : Int)).toNat) ep ((layL (64 : Int)).toNat + 1) ((tail : Nat) : Int).toNat 1 (layL (64 : Int)).toNat = _
    rw [layL64]
    show scanK (rbP d 2 16) ep 17 tail ((1 : Nat) : Int) 16 = _
    have hu := w.used
    have hge := usedP_ge all
    have hrl := ringB_length ep all 1
    rw [scan_prefix (rbP d 2 16) ep all 17 tail 1 16 (fun i hi => by have := w.right i hi; rwa [show 1 + i = i + 1 by omega]) hu (by omega) (fun k hk => by
      rw [w.ring k (by omega), List.getD_eq_getElem?_getD, List.getElem?_eq_getElem hk]; rfl)]
    rw [scan_stop, List.append_nil]
    intro e s l hg
    exfalso
    rcases Nat.lt_or_ge (usedP all) 16 with g | g
    · have := w.ring (usedP all) g
      rw [List.getD_eq_getElem?_getD, List.getElem?_eq_none (by omega)] at this
      have h2 : grpP (rbP d 2 16) (tail + usedP all) (16 - usedP all) = none := grpP_none (by rw [this]; exact hd_noughts)
      rw [h2] at hg; cases hg
    · rw [show 16 - usedP all = 0 by omega, grpP_zero] at hg; cases hg
  refine ⟨e, ?_⟩
  rw [e]
  unfold placeP
  rw [gsP_sum]
theorem WI.fresh {ep tail : Nat} (hep : 1 ≤ ep ∧ ep ≤ 8388608) (ht : tail < 16) : WI ep tail (fun _ => noughts) (openJ 64 ep 1 tail) (DSt.of (List.replicate 64 noughts)) [] := by
  have hlen : (List.replicate 64 noughts).length = 64 := List.length_replicate ..
  have hmem : ∀ b ∈ List.replicate 64 noughts, b.length = 4096 := fun b hb => by rw [(List.mem_replicate.1 hb).2]; exact noughts_length
  have hw : (DSt.of (List.replicate 64 noughts)).Wf := ⟨rfl, by show 1 ≤ (List.replicate 64 noughts).length ∧ (List.replicate 64 noughts).length ≤ 512; omega, hmem, hmem, fun w hw => (List.not_mem_nil hw).elim, fun h => (Bool.false_ne_true h).elim, fun h => (Bool.false_ne_true h).elim⟩
  refine ⟨layL_64', rfl, rfl, rfl, rfl, rfl, rfl, rfl, rfl, openJ_wf 64 (by omega) ⟨rfl, by omega, by omega, by omega, by omega, by omega, by rw [layL_64']; omega⟩, fresh_calm _, hw, hlen, DSt.of_few _, by simp [usedP], fun i h => by simp at h, ?_⟩
  intro o ho
  unfold rbP
  show (List.replicate 64 noughts).getD _ [] = _
  rw [List.getD_eq_getElem?_getD, List.getElem?_replicate, if_pos (by omega)]; rfl
theorem im9_pick {ep : Nat} (hep : 1 ≤ ep ∧ ep ≤ 8388608) (sz : Int) (k : Nat) (hk : k ≤ 16) : RightP ep ((k + 1 : Nat) : Int) (im9 (1 + pickS sz 5).toNat sz) := by
  have := pickS_range (n := sz) (m := 5) (by decide)
  exact im9_right ⟨by omega, by omega⟩ ⟨by omega, by omega⟩ _ (by omega) _
theorem WI.step {ep tail : Nat} {z : Nat → Dat} (hep : 1 ≤ ep ∧ ep ≤ 8388608) {j : JSt} {d : DSt} {all : List (List PImg)} (w : WI ep tail z j d all) (sz : Int) : WI ep tail z (wrtStep j d all sz).1 (wrtStep j d all sz).2.1 (wrtStep j d all sz).2.2 := by
  have hge := usedP_ge all
  have hu := w.used
  unfold wrtStep
  rcases w.append (im9_pick hep sz all.length (by omega)) with ⟨_, h1, h2⟩ | ⟨_, h1, h2, h3⟩
  · dsimp only; rw [if_pos h2]; exact h1
  · dsimp only; rw [if_neg h3, h1, h2]; exact w
theorem WI.all {ep tail : Nat} {z : Nat → Dat} (hep : 1 ≤ ep ∧ ep ≤ 8388608) : ∀ (l : List Int) (x : JSt × DSt × List (List PImg)), WI ep tail z x.1 x.2.1 x.2.2 → WI ep tail z (wrtK x l).1 (wrtK x l).2.1 (wrtK x l).2.2
  | [], _, h => h
  | s :: l, _, h => WI.all hep l _ (h.step hep s)
end Go.Proofs.Ytbpdbgcndfcilaa
namespace Go.Proofs.Ytbpdbgcndfcilaa
open Go.RowKit Go.Sl
set_option maxRecDepth 20000

structure ImsAt (J : Imm) (aS : Option Addr) (ms : List Ims) (all : List (List PImg)) : Prop where
  rd : Rds J aS ms.length (ms.map Ims.cell)
  each : ∀ m ∈ ms, ImgsOk J m.a m.gs
  pr : ms.map Ims.pr = all
theorem ImsAt.mono {I J : Imm} {aS : Option Addr} {ms : List Ims} {all : List (List PImg)} (h : ImsAt I aS ms all) (hJ : I.le J) : ImsAt J aS ms all := ⟨h.rd.mono hJ, fun m hm => (h.each m hm).mono hJ, h.pr⟩
theorem wrtP_wi {ep tail : Nat} (hep : 1 ≤ ep ∧ ep ≤ 8388608) (ht : tail < 16) (l : List Int) : WI ep tail (fun _ => noughts) (wrtP ep tail l).1 (wrtP ep tail l).2.1 (wrtP ep tail l).2.2 := WI.all hep _ _ (WI.fresh hep ht)
set_option maxHeartbeats 4000000 in
theorem written9 (I : Imm) (ep tail : Nat) (hep : 1 ≤ ep ∧ ep ≤ 8388608) (ht : tail < 16) (aZ : Option Addr) (n capZ : Nat) (z : List Int) (hz : z.length = n) (hz2 : ∀ x ∈ z, In64 x) (hZ : Rds I aZ n (ints z)) :
    Tri Try.prog 32 #[.int .i64 ep, .int .i64 tail, .slice aZ n capZ] I [] fun v J S' => ∃ bD chD aS capS, ∃ ms : List Ims, v = .tuple #[.pointer (some ⟨bD, 0, none⟩), .slice aS ms.length capS, .bool true] ∧ Dk J bD (wrtP ep tail z).2.1 chD ∧ ImsAt J aS ms (wrtP ep tail z).2.2 ∧ ms.length ≤ capS ∧ S' = [chD] := by
  refine Tri.drop (Tri.fixed (Q := fun v J S' => ∃ bD chD aS capS chS, ∃ ms : List Ims, v = .tuple #[.pointer (some ⟨bD, 0, none⟩), .slice aS ms.length capS, .bool true] ∧ Dk J bD (wrtP ep tail z).2.1 chD ∧ OwnC chS 1 aS ms.length capS (ms.map Ims.cell) ∧ (∀ m ∈ ms, ImgsOk J m.a m.gs) ∧ ms.map Ims.pr = (wrtP ep tail z).2.2 ∧ S' = [chD, chS]) ?_
    (K := fun v J S' => ∃ bD chD aS capS, ∃ ms : List Ims, v = .tuple #[.pointer (some ⟨bD, 0, none⟩), .slice aS ms.length capS, .bool true] ∧ Dk J bD (wrtP ep tail z).2.1 chD ∧ ImsAt J aS ms (wrtP ep tail z).2.2 ∧ ms.length ≤ capS ∧ S' = [chD, []]) ?_) ?_
  rotate_left
  · rintro v J S' hJ ⟨bD, chD, aS, capS, chS, ms, rfl, hD, hS, hms, hp, rfl⟩
    exact ⟨1, chS, rfl, fun J' hJ' hm => ⟨bD, chD, aS, capS, ms, rfl, hD.mono hJ', ⟨Rds.of_own hS hm, fun m hm => (hms m hm).mono hJ', hp⟩, hS.le, rfl⟩⟩
  · rintro v J S' hJ ⟨bD, chD, aS, capS, ms, rfl, hD, hms, hle, rfl⟩
    exact ⟨[chD], Drop.pick [0] _ rfl, bD, chD, aS, capS, ms, rfl, hD, hms, hle, rfl⟩
  refine Tri.drop ?_ (fun _ _ _ _ h => h)
  refine Tri.of (args := [.int .i64 ep, .int .i64 tail, .slice aZ n capZ]) tabOk Try.func32 rfl (by kernel_rfl) (by kernel_rfl) ?_
  refine Tri.frameX (dk_New I 64 (by omega)) [] rfl rfl ?_
  rintro v J1 A' hJ1 ⟨bD, chD, rfl, hD, rfl⟩
  refine Tri.free (ref_Of 64 J1) ?_
  rintro v J2 _ hJ2 ⟨rfl, rfl⟩
  rw [layA, if_neg (by omega)]
  conv => whnf
  intro b11
  repeat (first
    | refine LoadD.own 0 rfl _ rfl rfl ?_
    | refine LoadD.own 1 rfl _ rfl rfl ?_
    | refine LoadD.own 2 rfl _ rfl rfl ?_
    | refine LoadP.at 0 rfl _ rfl rfl ?_
    | refine LoadP.at 1 rfl _ rfl rfl ?_
    | refine LoadP.at 2 rfl _ rfl rfl ?_
    | refine StoreD.st 0 rfl rfl rfl ?_
    | refine StoreD.st 1 rfl rfl rfl ?_
    | refine StoreD.st 2 rfl rfl rfl ?_
    | refine CmpD.yes rfl ?_
    | refine CmpD.yes (by decide) ?_
    | refine CmpD.no (by decide) ?_
    | refine Chk.mk ⟨rfl, trivial⟩ ?_
    | refine Chk.mk ⟨rfl, rfl, trivial⟩ ?_
    | refine Chk.mk ⟨rfl, rfl, rfl, trivial⟩ ?_
    | refine Chk.mk ⟨rfl, rfl, rfl, rfl, trivial⟩ ?_
    | refine Chk.mk ⟨rfl, rfl, rfl, rfl, rfl, trivial⟩ ?_
    | refine Chk.mk ⟨rfl, rfl, rfl, rfl, rfl, rfl, trivial⟩ ?_)
  refine Tri.frame (jk_Open hD 64 List.length_replicate (by omega) (layOf 64) ep 1 tail (by unfold In64; omega)) [0] rfl rfl ?_
  have hok : OpenOk 64 (layOf 64) ep 1 tail := ⟨rfl, by omega, by omega, by omega, by omega, by omega, by rw [layL_64']; omega⟩
  rintro v J3 A' hJ3 (⟨hno, _⟩ | ⟨_, rfl, bJ, chJ, rfl, hJk, rfl⟩)
  · exact absurd hok hno
  refine ⟨by simp, ?_⟩
  repeat (first
    | refine LoadD.own 0 rfl _ rfl rfl ?_
    | refine LoadD.own 1 rfl _ rfl rfl ?_
    | refine LoadD.own 2 rfl _ rfl rfl ?_
    | refine LoadP.at 0 rfl _ rfl rfl ?_
    | refine LoadP.at 1 rfl _ rfl rfl ?_
    | refine LoadP.at 2 rfl _ rfl rfl ?_
    | refine StoreD.st 0 rfl rfl rfl ?_
    | refine StoreD.st 1 rfl rfl rfl ?_
    | refine StoreD.st 2 rfl rfl rfl ?_
    | refine CmpD.yes rfl ?_
    | refine CmpD.yes (by decide) ?_
    | refine CmpD.no (by decide) ?_
    | refine Chk.mk ⟨rfl, trivial⟩ ?_
    | refine Chk.mk ⟨rfl, rfl, trivial⟩ ?_
    | refine Chk.mk ⟨rfl, rfl, rfl, trivial⟩ ?_
    | refine Chk.mk ⟨rfl, rfl, rfl, rfl, trivial⟩ ?_
    | refine Chk.mk ⟨rfl, rfl, rfl, rfl, rfl, trivial⟩ ?_
    | refine Chk.mk ⟨rfl, rfl, rfl, rfl, rfl, rfl, trivial⟩ ?_)
  have hw0 := WI.fresh hep ht
  refine CodeF.loopD [2, 9, 13, 15, 16] (fun vs J' S' => ∃ (i : Nat) (x : JSt × DSt × List (List PImg)) (chD chJ chS : List Blk) (aS : Option Addr) (capS : Nat) (ms : List Ims), i ≤ z.length ∧ i ≤ 12 ∧ x = wrtK (wrt0 ep tail) (z.take i) ∧ Dk J' bD x.2.1 chD ∧ Jk bJ bD x.1 chJ ∧ OwnC chS 1 aS ms.length capS (ms.map Ims.cell) ∧ (∀ m ∈ ms, ImgsOk J' m.a m.gs) ∧ ms.map Ims.pr = x.2.2 ∧ J1.le J' ∧
      vs = [.slice aZ n capZ, .pointer (some ⟨bD, 0, none⟩), .pointer (some ⟨bJ, 0, none⟩), .slice aS ms.length capS, .int .i64 i] ∧ S' = [chD, chJ, chS])
    (fun vs _ _ => match vs with | [_, _, _, _, .int _ i] => ((n : Int) - i).toNat | _ => 0) ?_ ?_
  · exact ⟨_, Drop.and (Drop.pick [0, 2] _ rfl), 0, _, chD, chJ, [], none, 0, [], by omega, by omega, rfl, hD, hJk, OwnC.nil _ _, by simp, rfl, Imm.le_refl _, rfl, rfl⟩
  rintro vs gE J' S' hJ' ⟨i, ⟨j, d, all⟩, chD, chJ, chS, aS, capS, ms, hi, hi12, hx, hD, hJk, hS, hms, hmp, hle, rfl, rfl⟩
  have hw : WI ep tail (fun _ => noughts) j d all := by have := WI.all hep (z.take i) (wrt0 ep tail) hw0; rw [← hx] at this; exact this
  have hge := usedP_ge all
  have hu := hw.used
  dsimp only at hD hJk hmp
  have hml : ms.length = all.length := by rw [← hmp, List.length_map]
  have stop : z.take i = z.take 12 → ∃ S'', Drop [chD, chJ, chS] S'' ∧ ∃ bD' chD' aS' capS' chS', ∃ ms' : List Ims, Value.tuple #[.pointer (some ⟨bD, 0, none⟩), .slice aS ms.length capS, .bool true] = .tuple #[.pointer (some ⟨bD', 0, none⟩), .slice aS' ms'.length capS', .bool true] ∧ Dk J' bD' (wrtP ep tail z).2.1 chD' ∧ OwnC chS' 1 aS' ms'.length capS' (ms'.map Ims.cell) ∧ (∀ m ∈ ms', ImgsOk J' m.a m.gs) ∧ ms'.map Ims.pr = (wrtP ep tail z).2.2 ∧ S'' = [chD', chS'] := by
    intro h
    have e : wrtP ep tail z = (j, d, all) := by unfold wrtP; rw [← h, ← hx]
    rw [e]
    exact ⟨[chD, chS], Drop.pick [0, 2] _ rfl, bD, chD, aS, capS, chS, ms, rfl, hD, hS, hms, hmp, rfl⟩
  refine CmpD.split (fun c1 => ?_) (fun c1 => ?_)
  rotate_left
  · repeat (first
      | refine LoadD.own 0 rfl _ rfl rfl ?_
      | refine LoadD.own 1 rfl _ rfl rfl ?_
      | refine LoadD.own 2 rfl _ rfl rfl ?_
      | refine LoadP.at 0 rfl _ rfl rfl ?_
      | refine LoadP.at 1 rfl _ rfl rfl ?_
      | refine LoadP.at 2 rfl _ rfl rfl ?_
      | refine StoreD.st 0 rfl rfl rfl ?_
      | refine StoreD.st 1 rfl rfl rfl ?_
      | refine StoreD.st 2 rfl rfl rfl ?_
      | refine CmpD.yes rfl ?_
      | refine CmpD.yes (by decide) ?_
      | refine CmpD.no (by decide) ?_
      | refine Chk.mk ⟨rfl, trivial⟩ ?_
      | refine Chk.mk ⟨rfl, rfl, trivial⟩ ?_
      | refine Chk.mk ⟨rfl, rfl, rfl, trivial⟩ ?_
      | refine Chk.mk ⟨rfl, rfl, rfl, rfl, trivial⟩ ?_
      | refine Chk.mk ⟨rfl, rfl, rfl, rfl, rfl, trivial⟩ ?_
      | refine Chk.mk ⟨rfl, rfl, rfl, rfl, rfl, rfl, trivial⟩ ?_)
    exact Done.mk (stop (by rw [List.take_of_length_le (by omega), List.take_of_length_le (by omega)]))
  repeat (first
    | refine LoadD.own 0 rfl _ rfl rfl ?_
    | refine LoadD.own 1 rfl _ rfl rfl ?_
    | refine LoadD.own 2 rfl _ rfl rfl ?_
    | refine LoadP.at 0 rfl _ rfl rfl ?_
    | refine LoadP.at 1 rfl _ rfl rfl ?_
    | refine LoadP.at 2 rfl _ rfl rfl ?_
    | refine StoreD.st 0 rfl rfl rfl ?_
    | refine StoreD.st 1 rfl rfl rfl ?_
    | refine StoreD.st 2 rfl rfl rfl ?_
    | refine CmpD.yes rfl ?_
    | refine CmpD.yes (by decide) ?_
    | refine CmpD.no (by decide) ?_
    | refine Chk.mk ⟨rfl, trivial⟩ ?_
    | refine Chk.mk ⟨rfl, rfl, trivial⟩ ?_
    | refine Chk.mk ⟨rfl, rfl, rfl, trivial⟩ ?_
    | refine Chk.mk ⟨rfl, rfl, rfl, rfl, trivial⟩ ?_
    | refine Chk.mk ⟨rfl, rfl, rfl, rfl, rfl, trivial⟩ ?_
    | refine Chk.mk ⟨rfl, rfl, rfl, rfl, rfl, rfl, trivial⟩ ?_)
  refine CmpD.split (fun c2 => ?_) (fun c2 => ?_)
  rotate_left
  · repeat (first
      | refine LoadD.own 0 rfl _ rfl rfl ?_
      | refine LoadD.own 1 rfl _ rfl rfl ?_
      | refine LoadD.own 2 rfl _ rfl rfl ?_
      | refine LoadP.at 0 rfl _ rfl rfl ?_
      | refine LoadP.at 1 rfl _ rfl rfl ?_
      | refine LoadP.at 2 rfl _ rfl rfl ?_
      | refine StoreD.st 0 rfl rfl rfl ?_
      | refine StoreD.st 1 rfl rfl rfl ?_
      | refine StoreD.st 2 rfl rfl rfl ?_
      | refine CmpD.yes rfl ?_
      | refine CmpD.yes (by decide) ?_
      | refine CmpD.no (by decide) ?_
      | refine Chk.mk ⟨rfl, trivial⟩ ?_
      | refine Chk.mk ⟨rfl, rfl, trivial⟩ ?_
      | refine Chk.mk ⟨rfl, rfl, rfl, trivial⟩ ?_
      | refine Chk.mk ⟨rfl, rfl, rfl, rfl, trivial⟩ ?_
      | refine Chk.mk ⟨rfl, rfl, rfl, rfl, rfl, trivial⟩ ?_
      | refine Chk.mk ⟨rfl, rfl, rfl, rfl, rfl, rfl, trivial⟩ ?_)
    exact Done.mk (stop (by rw [show i = 12 by omega]))
  have hlt : i < z.length := by omega
  have htk : z.take (i + 1) = z.take i ++ [z[i]] := by rw [List.take_add_one, List.getElem?_eq_getElem hlt]; rfl
  have hz64 := hz2 _ (List.getElem_mem hlt)
  have hcell : (ints z)[i]? = some (.int .i64 z[i]) := ints_get (List.getElem?_eq_getElem hlt)
  have hpk := pickS_range (n := z[i]) (m := 5) (by decide)
  have hR := im9_pick hep z[i] all.length (by omega)
  have hxi : wrtK (wrt0 ep tail) (z.take (i + 1)) = wrtStep j d all z[i] := by rw [htk]; unfold wrtK at hx ⊢; rw [List.foldl_append, ← hx]; rfl
  rcases hZ.mem with q0 | ⟨bZ, oZ, cZ, TZ, fZ, rfl, hIZ, hcZ⟩
  · omega
  have hIZ2 := (Imm.le_trans hJ1 hle) _ _ hIZ
  generalize z[i] = sz at *
  obtain ⟨ln, hln⟩ : ∃ ln : Nat, 1 + pickS sz 5 = ln := ⟨(1 + pickS sz 5).toNat, by omega⟩
  have hln2 : (1 + pickS sz 5).toNat = ln := by omega
  repeat (first
    | refine LoadD.own 0 rfl _ rfl rfl ?_
    | refine LoadD.own 1 rfl _ rfl rfl ?_
    | refine LoadD.own 2 rfl _ rfl rfl ?_
    | refine LoadP.at 0 rfl _ rfl rfl ?_
    | refine LoadP.at 1 rfl _ rfl rfl ?_
    | refine LoadP.at 2 rfl _ rfl rfl ?_
    | refine StoreD.st 0 rfl rfl rfl ?_
    | refine StoreD.st 1 rfl rfl rfl ?_
    | refine StoreD.st 2 rfl rfl rfl ?_
    | refine CmpD.yes rfl ?_
    | refine CmpD.yes (by decide) ?_
    | refine CmpD.no (by decide) ?_
    | refine Chk.mk ⟨rfl, trivial⟩ ?_
    | refine Chk.mk ⟨rfl, rfl, trivial⟩ ?_
    | refine Chk.mk ⟨rfl, rfl, rfl, trivial⟩ ?_
    | refine Chk.mk ⟨rfl, rfl, rfl, rfl, trivial⟩ ?_
    | refine Chk.mk ⟨rfl, rfl, rfl, rfl, rfl, trivial⟩ ?_
    | refine Chk.mk ⟨rfl, rfl, rfl, rfl, rfl, rfl, trivial⟩ ?_)
  refine CodeF.sched [[], [], [0, 1], [0, 1, 2], [0, 1, 2, 3], [0, 1, 2, 3, 4], [], [], [6, 7], [6, 7, 8], [0, 1, 2, 3, 4, 5, 6, 7, 8, 9], [0, 1, 2, 3, 4, 5, 6, 7, 8, 9, 10]] [0, 1, 2, 3, 6, 7, 8, 9, 4, 5, 10, 11] (by kernel_rfl) ?_
  refine Chk.mk (by omega) ?_
  refine LoadP.imm [.int .i64 sz] ⟨cZ, TZ, fZ, .imm hIZ2, take_get hcZ hcell, rfl⟩ ?_
  refine Chk.mk (by omega) ?_
  refine LoadP.imm [.int .i64 sz] ⟨cZ, TZ, fZ, .imm hIZ2, take_get hcZ hcell, rfl⟩ ?_
  refine Tri.free (low_Pick sz 5 J' hz64 (by unfold In64; omega)) ?_
  rintro v _ _ hJ4 ⟨rfl, rfl⟩
  repeat (first
    | refine LoadD.own 0 rfl _ rfl rfl ?_
    | refine LoadD.own 1 rfl _ rfl rfl ?_
    | refine LoadD.own 2 rfl _ rfl rfl ?_
    | refine LoadP.at 0 rfl _ rfl rfl ?_
    | refine LoadP.at 1 rfl _ rfl rfl ?_
    | refine LoadP.at 2 rfl _ rfl rfl ?_
    | refine StoreD.st 0 rfl rfl rfl ?_
    | refine StoreD.st 1 rfl rfl rfl ?_
    | refine StoreD.st 2 rfl rfl rfl ?_
    | refine CmpD.yes rfl ?_
    | refine CmpD.yes (by decide) ?_
    | refine CmpD.no (by decide) ?_
    | refine Chk.mk ⟨rfl, trivial⟩ ?_
    | refine Chk.mk ⟨rfl, rfl, trivial⟩ ?_
    | refine Chk.mk ⟨rfl, rfl, rfl, trivial⟩ ?_
    | refine Chk.mk ⟨rfl, rfl, rfl, rfl, trivial⟩ ?_
    | refine Chk.mk ⟨rfl, rfl, rfl, rfl, rfl, trivial⟩ ?_
    | refine Chk.mk ⟨rfl, rfl, rfl, rfl, rfl, rfl, trivial⟩ ?_)
  refine ToD.to (ln : Int) (by rw [wrap_i64 (by omega) (by omega)]; exact hln) ?_
  refine Tri.free (images9 ln (by omega) sz J') ?_
  rintro v J5 _ hJ5 ⟨aI, capI, gs, rfl, hgs, hgp⟩
  have hgl : gs.length = ln := by have := congrArg List.length hgp; simpa [im9_length] using this
  repeat (first
    | refine LoadD.own 0 rfl _ rfl rfl ?_
    | refine LoadD.own 1 rfl _ rfl rfl ?_
    | refine LoadD.own 2 rfl _ rfl rfl ?_
    | refine LoadP.at 0 rfl _ rfl rfl ?_
    | refine LoadP.at 1 rfl _ rfl rfl ?_
    | refine LoadP.at 2 rfl _ rfl rfl ?_
    | refine StoreD.st 0 rfl rfl rfl ?_
    | refine StoreD.st 1 rfl rfl rfl ?_
    | refine StoreD.st 2 rfl rfl rfl ?_
    | refine CmpD.yes rfl ?_
    | refine CmpD.yes (by decide) ?_
    | refine CmpD.no (by decide) ?_
    | refine Chk.mk ⟨rfl, trivial⟩ ?_
    | refine Chk.mk ⟨rfl, rfl, trivial⟩ ?_
    | refine Chk.mk ⟨rfl, rfl, rfl, trivial⟩ ?_
    | refine Chk.mk ⟨rfl, rfl, rfl, rfl, trivial⟩ ?_
    | refine Chk.mk ⟨rfl, rfl, rfl, rfl, rfl, trivial⟩ ?_
    | refine Chk.mk ⟨rfl, rfl, rfl, rfl, rfl, rfl, trivial⟩ ?_)
  refine Tri.frame (jk_Append hJk hw.wf (hD.mono hJ5) (hw.few.mono (by omega)) (by rw [hw.groups]; omega) aI capI gs hgs (by omega) false) [1, 0] rfl rfl ?_
  rw [hgp]
  rw [← hln2] at hgp ⊢
  have hxi1 := congrArg (·.1) hxi
  have hxi2 := congrArg (·.2.1) hxi
  have hxi3 := congrArg (·.2.2) hxi
  unfold wrtStep at hxi1 hxi2 hxi3
  dsimp only at hxi1 hxi2 hxi3
  generalize j.appendB d (im9 (1 + pickS sz 5).toNat sz) false = ap at *
  obtain ⟨j2, d2, sq2, e2⟩ := ap
  dsimp only at hxi1 hxi2 hxi3 ⊢
  rintro v J6 A' hJ6 ⟨rfl, chJ2, chD2, hJ2, hD2, rfl⟩
  refine ⟨Nat.le_refl _, ?_⟩
  have hle6 := Imm.le_trans hle (Imm.le_trans hJ5 hJ6)
  have hms6 : ∀ m ∈ ms, ImgsOk J6 m.a m.gs := fun m hm => (hms m hm).mono (Imm.le_trans hJ5 hJ6)
  repeat (first
    | refine LoadD.own 0 rfl _ rfl rfl ?_
    | refine LoadD.own 1 rfl _ rfl rfl ?_
    | refine LoadD.own 2 rfl _ rfl rfl ?_
    | refine LoadP.at 0 rfl _ rfl rfl ?_
    | refine LoadP.at 1 rfl _ rfl rfl ?_
    | refine LoadP.at 2 rfl _ rfl rfl ?_
    | refine StoreD.st 0 rfl rfl rfl ?_
    | refine StoreD.st 1 rfl rfl rfl ?_
    | refine StoreD.st 2 rfl rfl rfl ?_
    | refine CmpD.yes rfl ?_
    | refine CmpD.yes (by decide) ?_
    | refine CmpD.no (by decide) ?_
    | refine Chk.mk ⟨rfl, trivial⟩ ?_
    | refine Chk.mk ⟨rfl, rfl, trivial⟩ ?_
    | refine Chk.mk ⟨rfl, rfl, rfl, trivial⟩ ?_
    | refine Chk.mk ⟨rfl, rfl, rfl, rfl, trivial⟩ ?_
    | refine Chk.mk ⟨rfl, rfl, rfl, rfl, rfl, trivial⟩ ?_
    | refine Chk.mk ⟨rfl, rfl, rfl, rfl, rfl, rfl, trivial⟩ ?_)
  refine CmpD.split (fun c3 => ?_) (fun c3 => ?_)
  · repeat (first
      | refine LoadD.own 0 rfl _ rfl rfl ?_
      | refine LoadD.own 1 rfl _ rfl rfl ?_
      | refine LoadD.own 2 rfl _ rfl rfl ?_
      | refine LoadP.at 0 rfl _ rfl rfl ?_
      | refine LoadP.at 1 rfl _ rfl rfl ?_
      | refine LoadP.at 2 rfl _ rfl rfl ?_
      | refine StoreD.st 0 rfl rfl rfl ?_
      | refine StoreD.st 1 rfl rfl rfl ?_
      | refine StoreD.st 2 rfl rfl rfl ?_
      | refine CmpD.yes rfl ?_
      | refine CmpD.yes (by decide) ?_
      | refine CmpD.no (by decide) ?_
      | refine Chk.mk ⟨rfl, trivial⟩ ?_
      | refine Chk.mk ⟨rfl, rfl, trivial⟩ ?_
      | refine Chk.mk ⟨rfl, rfl, rfl, trivial⟩ ?_
      | refine Chk.mk ⟨rfl, rfl, rfl, rfl, trivial⟩ ?_
      | refine Chk.mk ⟨rfl, rfl, rfl, rfl, rfl, trivial⟩ ?_
      | refine Chk.mk ⟨rfl, rfl, rfl, rfl, rfl, rfl, trivial⟩ ?_)
    conv => whnf
    intro bN
    refine appendD tabOk rfl rfl rfl rfl rfl rfl rfl 2 rfl hS (SrcOk.slice (n := 1) (news := [Ims.cell ⟨aI, capI, gs⟩]) tabOk rfl ((OwnC.whole (len := 1) (size := 1) rfl).slC 3 rfl) (by intro v hv; simp only [List.mem_singleton] at hv; subst hv; rfl)) rfl (by show (ms.length + 1) * 24 ≤ _; omega) (by omega) ?_
    intro a2 cap2 ch2 hO2
    refine ToD.i64 (by omega) (by omega) ?_
    have hml3 : (ms ++ [⟨aI, capI, gs⟩] : List Ims).length = ms.length + 1 := by simp
    refine ⟨_, Drop.pick [0, 1, 2] _ rfl, ⟨i + 1, _, chD2, chJ2, ch2, a2, cap2, ms ++ [⟨aI, capI, gs⟩], by omega, by omega, rfl, by rw [hxi2]; exact hD2, by rw [hxi1]; exact hJ2, by rw [hml3, List.map_append]; exact hO2, ?_, ?_, hle6, by rw [hml3]; rfl, rfl⟩, ?_⟩
    · intro m hm
      rcases List.mem_append.1 hm with hm | hm
      · exact hms6 m hm
      · simp only [List.mem_singleton] at hm
        subst hm
        exact hgs.mono hJ6
    · rw [hxi3, if_pos c3, List.map_append, hmp]
      show _ ++ [gs.map Img.pr] = _
      rw [hgp]
    · show ((n : Int) - ((i : Int) + 1)).toNat < ((n : Int) - (i : Int)).toNat; omega
  · repeat (first
      | refine LoadD.own 0 rfl _ rfl rfl ?_
      | refine LoadD.own 1 rfl _ rfl rfl ?_
      | refine LoadD.own 2 rfl _ rfl rfl ?_
      | refine LoadP.at 0 rfl _ rfl rfl ?_
      | refine LoadP.at 1 rfl _ rfl rfl ?_
      | refine LoadP.at 2 rfl _ rfl rfl ?_
      | refine StoreD.st 0 rfl rfl rfl ?_
      | refine StoreD.st 1 rfl rfl rfl ?_
      | refine StoreD.st 2 rfl rfl rfl ?_
      | refine CmpD.yes rfl ?_
      | refine CmpD.yes (by decide) ?_
      | refine CmpD.no (by decide) ?_
      | refine Chk.mk ⟨rfl, trivial⟩ ?_
      | refine Chk.mk ⟨rfl, rfl, trivial⟩ ?_
      | refine Chk.mk ⟨rfl, rfl, rfl, trivial⟩ ?_
      | refine Chk.mk ⟨rfl, rfl, rfl, rfl, trivial⟩ ?_
      | refine Chk.mk ⟨rfl, rfl, rfl, rfl, rfl, trivial⟩ ?_
      | refine Chk.mk ⟨rfl, rfl, rfl, rfl, rfl, rfl, trivial⟩ ?_)
    refine ToD.i64 (by omega) (by omega) ?_
    refine ⟨_, Drop.pick [0, 1, 2] _ rfl, ⟨i + 1, _, chD2, chJ2, chS, aS, capS, ms, by omega, by omega, rfl, by rw [hxi2]; exact hD2, by rw [hxi1]; exact hJ2, hS, hms6, by rw [hxi3, if_neg c3]; exact hmp, hle6, rfl, rfl⟩, ?_⟩
    show ((n : Int) - ((i : Int) + 1)).toNat < ((n : Int) - (i : Int)).toNat; omega
end Go.Proofs.Ytbpdbgcndfcilaa
namespace Go.Proofs.Ytbpdbgcndfcilaa
open Go.RowKit Go.Sl
set_option maxRecDepth 20000

end Go.Proofs.Ytbpdbgcndfcilaa
namespace Go.Proofs.Ytbpdbgcndfcilaa
open Go.RowKit Go.Sl
set_option maxRecDepth 20000

def DoOk (d : DSt) (l : List PImg) : Prop := ∀ g ∈ l, 2 ≤ g.1 ∧ g.1 < d.now.length ∧ g.2.length = 4096
instance (d : DSt) (l : List PImg) : Decidable (DoOk d l) := by unfold DoOk; infer_instance
end Go.Proofs.Ytbpdbgcndfcilaa
namespace Go.Proofs.Ytbpdbgcndfcilaa
open Go.RowKit Go.Sl
set_option maxRecDepth 20000

@[reducible] def rBox (b : Nat) (s w : Hd) (count : Int) (down : Bool) (arm fault : Int) : List Blk := [(b, row [s.v, w.v, .int .i64 count, .bool down, .int .i64 arm, .int .i64 fault] 79)]
@[reducible] def sBox (b : Nat) (s : Sup) : List Blk := [(b, row [.int .i64 s.blocks, .int .i64 s.epoch, .int .i64 s.seq, .int .i64 s.tail] 56)]
end Go.Proofs.Ytbpdbgcndfcilaa
namespace Go.Proofs.Ytbpdbgcndfcilaa
open Go.RowKit Go.Sl
set_option maxRecDepth 20000

end Go.Proofs.Ytbpdbgcndfcilaa
namespace Go.Proofs.Ytbpdbgcndfcilaa
open Go.RowKit Go.Sl
set_option maxRecDepth 20000

end Go.Proofs.Ytbpdbgcndfcilaa
namespace Go.Proofs.Ytbpdbgcndfcilaa
open Go.RowKit Go.Sl
set_option maxRecDepth 20000

end Go.Proofs.Ytbpdbgcndfcilaa
namespace Go.Proofs.Ytbpdbgcndfcilaa
open Go.RowKit Go.Sl
set_option maxRecDepth 20000

theorem disk_none0 (I : Imm) (S : St) : Tri Try.prog 90 #[.pointer none] I S fun v J S' => v = .bool true ∧ I = J ∧ S' = S := by
  refine Tri.of (args := [.pointer none]) tabOk Try.func90 rfl (by kernel_rfl) (by kernel_rfl) ?_
  exact Done.mk ⟨rfl, rfl, rfl⟩
theorem disk_Size0 (I : Imm) (S : St) : Tri Try.prog 88 #[.pointer none] I S fun v J S' => v = .int .i64 0 ∧ I = J ∧ S' = S := by
  refine Tri.of (args := [.pointer none]) tabOk Try.func88 rfl (by kernel_rfl) (by kernel_rfl) ?_
  refine Tri.mono (disk_none0 I S) ?_
  rintro v J S' hJ ⟨rfl, rfl, rfl⟩
  exact Done.mk ⟨rfl, rfl, rfl⟩
end Go.Proofs.Ytbpdbgcndfcilaa
namespace Go.Proofs.Ytbpdbgcndfcilaa
open Go.RowKit Go.Sl
set_option maxRecDepth 20000

end Go.Proofs.Ytbpdbgcndfcilaa
namespace Go.Proofs.Ytbpdbgcndfcilaa
open Go.RowKit Go.Sl
set_option maxRecDepth 20000

theorem imgsR_of {I : Imm} {S : St} {a : Option Addr} {gs : List Img} (h : ImgsOk I a gs) : ImgsR I S a gs := ⟨h.1.slC, fun g hg => ⟨(h.2 g hg).2.slC⟩⟩
end Go.Proofs.Ytbpdbgcndfcilaa
namespace Go.Proofs.Ytbpdbgcndfcilaa
open Go.RowKit Go.Sl
set_option maxRecDepth 20000

theorem gsP_get (ep : Nat) : ∀ (l : List (List PImg)) (sq i : Nat) (h : i < l.length) (h' : i < (gsP ep sq l).length), (gsP ep sq l)[i] = (ep, sq + i, l[i])
  | [], _, i, h, _ => by simp at h
  | g :: l, sq, 0, _, _ => rfl
  | g :: l, sq, i + 1, h, h' => by
    simp only [gsP, List.getElem_cons_succ]
    rw [gsP_get ep l (sq + 1) i (by simpa using h), show sq + 1 + i = sq + (i + 1) by omega]
theorem grpCells_0 {l : List Grp} {i : Nat} (h : i < l.length) : (grpCells l)[i * 3]? = some (.int .i64 l[i].e) := by
  have := congrArg (·[0]?) (grpCells_at h)
  simpa using this
theorem grpCells_1 {l : List Grp} {i : Nat} (h : i < l.length) : (grpCells l)[i * 3 + 1]? = some (.int .i64 l[i].s) := by
  have := congrArg (·[1]?) (grpCells_at h)
  simpa using this
theorem grpCells_2 {l : List Grp} {i : Nat} (h : i < l.length) : (grpCells l)[i * 3 + 2]? = some (.slice l[i].a l[i].gs.length l[i].cap) := by
  have := congrArg (·[2]?) (grpCells_at h)
  simpa using this
set_option maxHeartbeats 1000000 in
theorem same9 (I : Imm) (aO : Option Addr) (capO : Nat) (gl : List Grp) (L : List G3) (hO : Rds I aO (gl.length * 3) (grpCells gl)) (hg : GrpsOk I gl L) (aS : Option Addr) (capS : Nat) (ms : List Ims) (all : List (List PImg)) (hms : ImsAt I aS ms all) (ep : Nat) (hL : L = gsP ep 1 all) (hfew : all.length ≤ 1000 ∧ ∀ g ∈ all, g.length ≤ 1000) :
    Tri Try.prog 41 #[.slice aO gl.length capO, .slice aS ms.length capS, .int .i64 ep] I [] fun v _ _ => v = .bool true := by
  have hl1 := hg.len
  have hl2 : ms.length = all.length := by rw [← hms.pr, List.length_map]
  rw [hL, gsP_length] at hl1
  refine Tri.of (args := [.slice aO gl.length capO, .slice aS ms.length capS, .int .i64 ep]) tabOk Try.func41 rfl (by kernel_rfl) (by kernel_rfl) ?_
  refine CmpD.yes (by omega) ?_
  refine CodeF.loopD [0, 1, 2, 7] (fun vs J' S' => ∃ i : Nat, i ≤ gl.length ∧ vs = [.slice aO gl.length capO, .slice aS ms.length capS, .int .i64 ep, .int .i64 i] ∧ I = J' ∧ S' = [])
    (fun vs _ _ => match vs with | [_, _, _, .int _ i] => ((gl.length : Int) - i).toNat | _ => 0) ?_ ?_
  · exact ⟨_, Drop.refl _, 0, by omega, rfl, rfl, rfl⟩
  rintro vs gE J' S' hJ' ⟨i, hi, rfl, rfl, rfl⟩
  refine CmpD.split (fun c1 => ?_) (fun c1 => ?_)
  · have hlt : i < gl.length := by omega
    have hlt2 : i < ms.length := by omega
    have k0 := grpCells_0 hlt
    have k1 := grpCells_1 hlt
    have k2 := grpCells_2 hlt
    have hm : (ms.map Ims.cell)[i]? = some ms[i].cell := by rw [List.getElem?_map, List.getElem?_eq_getElem hlt2]; rfl
    have hmo := hms.each _ (List.getElem_mem hlt2)
    have hgo := hg.each _ (List.getElem_mem hlt)
    have hmp : ms[i].gs.map Img.pr = all[i]'(by omega) := by
      have : (ms.map Ims.pr)[i]'(by rw [List.length_map]; exact hlt2) = all[i]'(by omega) := by simp only [hms.pr]
      rw [List.getElem_map] at this; exact this
    have hfi := hfew.2 _ (List.getElem_mem (by omega : i < all.length))
    have hg3 : gl[i].g3 = up3 (ep, 1 + i, all[i]'(by omega)) := by
      have h3 := hg.g3
      have : (gl.map Grp.g3)[i]'(by rw [List.length_map]; exact hlt) = (L.map up3)[i]'(by rw [← h3, List.length_map]; exact hlt) := by simp only [h3]
      rw [List.getElem_map, List.getElem_map] at this
      rw [this]
      congr 1
      have h4 : L[i]'(by rw [hL, gsP_length]; omega) = (gsP ep 1 all)[i]'(by rw [gsP_length]; omega) := by simp only [hL]
      rw [h4, gsP_get ep all 1 i (by omega)]
    rcases hO.mem with q0 | ⟨bO, oO, cO, TO, fO, rfl, hIO, hcO⟩
    · omega
    rcases hms.rd.mem with q0 | ⟨bS, oS, cS, TS, fS, rfl, hIS, hcS⟩
    · omega
    generalize gl[i] = g at *
    generalize ms[i] = m at *
    generalize all[i]'(by omega) = al at *
    unfold Grp.g3 up3 at hg3
    simp only [Prod.mk.injEq] at hg3
    obtain ⟨g1, g2, g3⟩ := hg3
    have hml : m.gs.length = al.length := by rw [← hmp, List.length_map]
    have hgl : g.gs.length = al.length := by rw [← g3, List.length_map]
    have t0 : (cO.drop (oO + i * 3)).take 1 = [.int .i64 g.e] := take_get hcO k0
    have t1 : (cO.drop (oO + (i * 3 + 1))).take 1 = [.int .i64 g.s] := take_get hcO k1
    have t2 : (cO.drop (oO + (i * 3 + 2))).take 1 = [.slice g.a g.gs.length g.cap] := take_get hcO k2
    refine CodeF.sched [[], [], [0, 1], [0, 1, 2], [0, 1, 2, 3], [], [0, 1, 2, 3, 4, 5], [0, 1, 2, 3, 4, 5, 6], [0, 1, 2, 3, 4, 5, 6, 7], [0, 1, 2, 3, 4, 5, 6, 7], [0, 1, 2, 3, 4, 5, 6, 7, 8, 9], [0, 1, 2, 3, 4, 5, 6, 7, 8, 9, 10], [0, 1, 2, 3, 4, 5, 6, 7, 8, 9, 10, 11], [0, 1, 2, 3, 4, 5, 6, 7], [0, 1, 2, 3, 4, 5, 6, 7, 13], [0, 1, 2, 3, 4, 5, 6, 7, 8, 9, 10, 11, 12, 13, 14], [0, 1, 2, 3, 4, 5, 6, 7, 8, 9, 10, 11, 12, 13, 14, 15], [0, 1, 2, 3, 4, 5, 6, 7, 8, 9, 10, 11, 12, 13, 14, 15, 16], [0, 1, 2, 3, 4, 5, 6, 7, 8, 9, 10, 11, 12, 13, 14, 15, 16, 17], [0, 1, 2, 3, 4, 5, 6, 7, 8, 9, 10, 11, 12, 13, 14, 15, 16, 17], [0, 1, 2, 3, 4, 5, 6, 7, 8, 9, 10, 11, 12, 13, 14, 15, 16, 17, 18, 19], [0, 1, 2, 3, 4, 5, 6, 7, 8, 9, 10, 11, 12, 13, 14, 15, 16, 17, 18, 19, 20], [0, 1, 2, 3, 4, 5, 6, 7, 8, 9, 10, 11, 12, 13, 14, 15, 16, 17, 18, 19, 20, 21], [0, 1, 2, 3, 4, 5, 6, 7, 8, 9, 10, 11, 12, 13, 14, 15, 16, 17], [0, 1, 2, 3, 4, 5, 6, 7, 8, 9, 10, 11, 12, 13, 14, 15, 16, 17], [0, 1, 2, 3, 4, 5, 6, 7, 8, 9, 10, 11, 12, 13, 14, 15, 16, 17, 23, 24], [0, 1, 2, 3, 4, 5, 6, 7, 8, 9, 10, 11, 12, 13, 14, 15, 16, 17, 23, 24, 25], [0, 1, 2, 3, 4, 5, 6, 7, 8, 9, 10, 11, 12, 13, 14, 15, 16, 17, 18, 19, 20, 21, 22, 23, 24, 25, 26], [0, 1, 2, 3, 4, 5, 6, 7, 8, 9, 10, 11, 12, 13, 14, 15, 16, 17, 18, 19, 20, 21, 22, 23, 24, 25, 26, 27], [0, 1, 2, 3, 4, 5, 6, 7, 8, 9, 10, 11, 12, 13, 14, 15, 16, 17, 18, 19, 20, 21, 22, 23, 24, 25, 26, 27, 28]] [0, 1, 2, 3, 4, 5, 6, 7, 8, 9, 10, 11, 12, 13, 14, 15, 16, 17, 18, 19, 20, 21, 22, 23, 24, 25, 26, 27, 28, 29] (by kernel_rfl) ?_
    refine Chk.mk (by omega) ?_
    refine LoadP.imm [.int .i64 g.e] ⟨cO, TO, fO, .imm hIO, t0, rfl⟩ ?_
    refine CmpD.yes g1 ?_
    refine Chk.mk (by omega) ?_
    refine LoadP.imm [.int .i64 g.s] ⟨cO, TO, fO, .imm hIO, t1, rfl⟩ ?_
    refine ToD.i64 (by omega) (by omega) ?_
    refine CmpD.yes (by rw [g2]; omega) ?_
    refine Chk.mk (by omega) ?_
    refine LoadP.imm [.slice g.a g.gs.length g.cap] ⟨cO, TO, fO, .imm hIO, t2, rfl⟩ ?_
    refine Chk.mk (by omega) ?_
    refine LoadP.imm [m.cell] ⟨cS, TS, fS, .imm hIS, take_get hcS hm, rfl⟩ ?_
    refine Tri.free (same_imgs (S := []) (imgsR_of hgo) (imgsR_of hmo) (by omega)) ?_
    rintro v _ _ _ ⟨rfl, rfl, rfl⟩
    rw [decide_eq_true (g3.trans hmp.symm)]
    repeat (first
      | refine LoadD.own 0 rfl _ rfl rfl ?_
      | refine LoadP.at 0 rfl _ rfl rfl ?_
      | refine StoreD.st 0 rfl rfl rfl ?_
      | refine CmpD.yes rfl ?_
      | refine CmpD.yes (by decide) ?_
      | refine CmpD.no (by decide) ?_
      | refine Chk.mk ⟨rfl, trivial⟩ ?_
      | refine Chk.mk ⟨rfl, rfl, trivial⟩ ?_
      | refine Chk.mk ⟨rfl, rfl, rfl, trivial⟩ ?_
      | refine Chk.mk ⟨rfl, rfl, rfl, rfl, trivial⟩ ?_
      | refine Chk.mk ⟨rfl, rfl, rfl, rfl, rfl, trivial⟩ ?_
      | refine Chk.mk ⟨rfl, rfl, rfl, rfl, rfl, rfl, trivial⟩ ?_)
    refine ToD.i64 (by omega) (by omega) ?_
    refine ⟨_, Drop.refl _, ⟨i + 1, by omega, rfl, rfl, rfl⟩, ?_⟩
    show ((gl.length : Int) - ((i : Int) + 1)).toNat < ((gl.length : Int) - (i : Int)).toNat
    omega
  · exact Done.mk rfl
theorem WI.fewA {ep tail : Nat} {z : Nat → Dat} {j : JSt} {d : DSt} {all : List (List PImg)} (w : WI ep tail z j d all) : all.length ≤ 1000 ∧ ∀ g ∈ all, g.length ≤ 1000 := by
  have := usedP_ge all
  have := w.used
  refine ⟨by omega, fun g hg => ?_⟩
  obtain ⟨i, hi, rfl⟩ := List.mem_iff_getElem.1 hg
  have := (w.right i hi).2.2.2.2.2.1
  omega
theorem scanOk64 {b ep sq tail : Int} (hb : b = 64) (h1 : 1 ≤ ep ∧ ep ≤ 8388608) (h2 : 1 ≤ sq ∧ sq ≤ 549755813888) (h3 : 0 ≤ tail ∧ tail < 16) : ScanOk 64 (layOf 64) ⟨b, ep, sq, tail⟩ :=
  ⟨by omega, rfl, hb, h3.1, by show tail < layL ((64 : Nat) : Int); rw [layL_64']; exact h3.2, h1.1, h1.2, h2.1, h2.2⟩
def addK (all : List (List PImg)) (sz : Int) : List (List PImg) := if usedP all + ((1 + pickS sz 5).toNat + 1) ≤ 16 then all ++ [im9 (1 + pickS sz 5).toNat sz] else all
theorem WI.addK {ep tail : Nat} {z : Nat → Dat} (hep : 1 ≤ ep ∧ ep ≤ 8388608) {j : JSt} {d : DSt} {all : List (List PImg)} (w : WI ep tail z j d all) (sz : Int) : (wrtStep j d all sz).2.2 = addK all sz := by
  have hge := usedP_ge all
  have hu := w.used
  unfold wrtStep Go.Proofs.Ytbpdbgcndfcilaa.addK
  rcases w.append (im9_pick hep sz all.length (by omega)) with ⟨h0, _, h2⟩ | ⟨h0, _, _, h3⟩
  · rw [im9_length] at h0
    dsimp only; rw [if_pos h2, if_pos h0]
  · rw [im9_length] at h0
    dsimp only; rw [if_neg h3, if_neg (by omega)]
theorem WI.adds {ep tail : Nat} {z : Nat → Dat} (hep : 1 ≤ ep ∧ ep ≤ 8388608) : ∀ (l : List Int) (x : JSt × DSt × List (List PImg)), WI ep tail z x.1 x.2.1 x.2.2 → (wrtK x l).2.2 = l.foldl Go.Proofs.Ytbpdbgcndfcilaa.addK x.2.2
  | [], _, _ => rfl
  | s :: l, x, h => by
    have := WI.adds hep l (wrtStep x.1 x.2.1 x.2.2 s) (h.step hep s)
    rw [h.addK hep s] at this
    exact this
theorem wrt_all {ep tail : Nat} (hep : 1 ≤ ep ∧ ep ≤ 8388608) (ht : tail < 16) (l : List Int) : (wrtP ep tail l).2.2 = (l.take 12).foldl addK [] := WI.adds hep _ _ (WI.fresh hep ht)
theorem addK_yes {all : List (List PImg)} {sz : Int} {n u : Nat} (hn : (1 + pickS sz 5).toNat = n) (hu : usedP all = u) (h : u + (n + 1) ≤ 16) : addK all sz = all ++ [im9 n sz] := by unfold addK; rw [hn, hu, if_pos h]
/-- the examples of chapter 9 -/
theorem adds01 : [0, 1].foldl addK [] = [im9 1 0, im9 2 1] := by
  show addK (addK [] 0) 1 = _
  have h0 : addK [] 0 = [im9 1 0] := addK_yes (n := 1) (u := 0) (by decide) rfl (by decide)
  rw [h0, addK_yes (n := 2) (u := 2) (by decide) (by simp [usedP, im9_length]) (by decide)]; rfl
theorem awk9 : (wrtP ((1 : Nat) : Int) ((14 : Nat) : Int) [0, 1]).2.2 = [im9 1 0, im9 2 1] := by
  rw [wrt_all (by decide) (by decide)]; exact adds01
set_option maxHeartbeats 1000000 in
theorem awake09 (I : Imm) (S : St) : Tri Try.prog 38 #[] I S fun v _ _ => v = .bool true := by
  refine Tri.free (Q := fun v _ _ => v = .bool true) ?_ (fun v J _ _ h => h)
  refine Tri.of (args := []) tabOk Try.func38 rfl (by kernel_rfl) (by kernel_rfl) ?_
  conv => whnf
  intro bZ
  refine Tri.fix 0 rfl fun I1 hI1 hm => ?_
  have hZ : Rds I1 (some ⟨bZ, 0, none⟩) 2 (ints [0, 1]) := Rds.of_own (cap := 2) (OwnC.whole rfl) hm
  refine Tri.frameX (written9 I1 1 14 (by decide) (by decide) _ 2 2 [0, 1] rfl (by intro x hx; simp at hx; unfold In64; omega) hZ) [] rfl rfl ?_
  rintro v J1 A' hJ1 ⟨bD, chD, aS, capS, ms, rfl, hD, hms, hle, rfl⟩
  have w := wrtP_wi (ep := 1) (tail := 14) (by decide) (by decide) [0, 1]
  have hsc := w.scan 64
  have hfew := w.fewA
  have hcalm := w.calm
  have hlen := w.len
  rw [awk9] at hsc hms hfew
  have hml : ms.length = 2 := by have := congrArg List.length hms.pr; simpa using this
  generalize (wrtP 1 14 [0, 1]).2.1 = d at *
  rw [show usedP [im9 1 0, im9 2 1] = 5 from by simp [usedP, im9_length]] at hsc
  repeat (first
    | refine LoadD.own 0 rfl _ rfl rfl ?_
    | refine LoadD.own 1 rfl _ rfl rfl ?_
    | refine LoadD.own 2 rfl _ rfl rfl ?_
    | refine LoadP.at 0 rfl _ rfl rfl ?_
    | refine LoadP.at 1 rfl _ rfl rfl ?_
    | refine LoadP.at 2 rfl _ rfl rfl ?_
    | refine StoreD.st 0 rfl rfl rfl ?_
    | refine StoreD.st 1 rfl rfl rfl ?_
    | refine StoreD.st 2 rfl rfl rfl ?_
    | refine CmpD.yes rfl ?_
    | refine CmpD.yes (by decide) ?_
    | refine CmpD.no (by decide) ?_
    | refine Chk.mk ⟨rfl, trivial⟩ ?_
    | refine Chk.mk ⟨rfl, rfl, trivial⟩ ?_
    | refine Chk.mk ⟨rfl, rfl, rfl, trivial⟩ ?_
    | refine Chk.mk ⟨rfl, rfl, rfl, rfl, trivial⟩ ?_
    | refine Chk.mk ⟨rfl, rfl, rfl, rfl, rfl, trivial⟩ ?_
    | refine Chk.mk ⟨rfl, rfl, rfl, rfl, rfl, rfl, trivial⟩ ?_)
  refine CmpD.yes (by omega) ?_
  repeat (first
    | refine LoadD.own 0 rfl _ rfl rfl ?_
    | refine LoadD.own 1 rfl _ rfl rfl ?_
    | refine LoadD.own 2 rfl _ rfl rfl ?_
    | refine LoadP.at 0 rfl _ rfl rfl ?_
    | refine LoadP.at 1 rfl _ rfl rfl ?_
    | refine LoadP.at 2 rfl _ rfl rfl ?_
    | refine StoreD.st 0 rfl rfl rfl ?_
    | refine StoreD.st 1 rfl rfl rfl ?_
    | refine StoreD.st 2 rfl rfl rfl ?_
    | refine CmpD.yes rfl ?_
    | refine CmpD.yes (by decide) ?_
    | refine CmpD.no (by decide) ?_
    | refine Chk.mk ⟨rfl, trivial⟩ ?_
    | refine Chk.mk ⟨rfl, rfl, trivial⟩ ?_
    | refine Chk.mk ⟨rfl, rfl, rfl, trivial⟩ ?_
    | refine Chk.mk ⟨rfl, rfl, rfl, rfl, trivial⟩ ?_
    | refine Chk.mk ⟨rfl, rfl, rfl, rfl, rfl, trivial⟩ ?_
    | refine Chk.mk ⟨rfl, rfl, rfl, rfl, rfl, rfl, trivial⟩ ?_)
  refine Tri.free (layout9 J1) ?_
  rintro v _ _ _ ⟨rfl, rfl⟩
  repeat (first
    | refine LoadD.own 0 rfl _ rfl rfl ?_
    | refine LoadD.own 1 rfl _ rfl rfl ?_
    | refine LoadD.own 2 rfl _ rfl rfl ?_
    | refine LoadP.at 0 rfl _ rfl rfl ?_
    | refine LoadP.at 1 rfl _ rfl rfl ?_
    | refine LoadP.at 2 rfl _ rfl rfl ?_
    | refine StoreD.st 0 rfl rfl rfl ?_
    | refine StoreD.st 1 rfl rfl rfl ?_
    | refine StoreD.st 2 rfl rfl rfl ?_
    | refine CmpD.yes rfl ?_
    | refine CmpD.yes (by decide) ?_
    | refine CmpD.no (by decide) ?_
    | refine Chk.mk ⟨rfl, trivial⟩ ?_
    | refine Chk.mk ⟨rfl, rfl, trivial⟩ ?_
    | refine Chk.mk ⟨rfl, rfl, rfl, trivial⟩ ?_
    | refine Chk.mk ⟨rfl, rfl, rfl, rfl, trivial⟩ ?_
    | refine Chk.mk ⟨rfl, rfl, rfl, rfl, rfl, trivial⟩ ?_
    | refine Chk.mk ⟨rfl, rfl, rfl, rfl, rfl, rfl, trivial⟩ ?_)
  refine Tri.frame1 1 rfl (scan_Groups hD (layOf 64) ⟨64, 1, 1, 14⟩) ?_
  have hok : ScanOk d.now.length (layOf 64) ⟨64, 1, 1, 14⟩ := by rw [hlen]; exact scanOk64 rfl (by decide) (by decide) (by decide)
  rintro v J2 A' hJ2 ⟨rfl, ⟨h, _⟩ | ⟨_, h, _⟩ | ⟨_, _, aO, capO, gl, rfl, hO, hg⟩⟩
  · exact absurd hok h
  · rw [hcalm.1] at h; cases h
  refine ⟨_, rfl, ?_⟩
  have hpl : placeP (layL d.now.length).toNat ((14 : Int)).toNat (scanL d ⟨64, 1, 1, 14⟩) = 3 := by
    rw [hlen]
    show placeP (layL (64 : Int)).toNat 14 (scanL d ⟨64, ((1 : Nat) : Int), 1, ((14 : Nat) : Int)⟩) = 3
    rw [layL64]
    exact hsc.2
  rw [hpl]
  repeat (first
    | refine LoadD.own 0 rfl _ rfl rfl ?_
    | refine LoadD.own 1 rfl _ rfl rfl ?_
    | refine LoadD.own 2 rfl _ rfl rfl ?_
    | refine LoadP.at 0 rfl _ rfl rfl ?_
    | refine LoadP.at 1 rfl _ rfl rfl ?_
    | refine LoadP.at 2 rfl _ rfl rfl ?_
    | refine StoreD.st 0 rfl rfl rfl ?_
    | refine StoreD.st 1 rfl rfl rfl ?_
    | refine StoreD.st 2 rfl rfl rfl ?_
    | refine CmpD.yes rfl ?_
    | refine CmpD.yes (by decide) ?_
    | refine CmpD.no (by decide) ?_
    | refine Chk.mk ⟨rfl, trivial⟩ ?_
    | refine Chk.mk ⟨rfl, rfl, trivial⟩ ?_
    | refine Chk.mk ⟨rfl, rfl, rfl, trivial⟩ ?_
    | refine Chk.mk ⟨rfl, rfl, rfl, rfl, trivial⟩ ?_
    | refine Chk.mk ⟨rfl, rfl, rfl, rfl, rfl, trivial⟩ ?_
    | refine Chk.mk ⟨rfl, rfl, rfl, rfl, rfl, rfl, trivial⟩ ?_)
  refine Tri.free (same9 J2 aO capO gl _ hO hg aS capS ms _ (hms.mono hJ2) 1 hsc.1 hfew) ?_
  rintro v _ _ _ rfl
  repeat (first
    | refine LoadD.own 0 rfl _ rfl rfl ?_
    | refine LoadD.own 1 rfl _ rfl rfl ?_
    | refine LoadD.own 2 rfl _ rfl rfl ?_
    | refine LoadP.at 0 rfl _ rfl rfl ?_
    | refine LoadP.at 1 rfl _ rfl rfl ?_
    | refine LoadP.at 2 rfl _ rfl rfl ?_
    | refine StoreD.st 0 rfl rfl rfl ?_
    | refine StoreD.st 1 rfl rfl rfl ?_
    | refine StoreD.st 2 rfl rfl rfl ?_
    | refine CmpD.yes rfl ?_
    | refine CmpD.yes (by decide) ?_
    | refine CmpD.no (by decide) ?_
    | refine Chk.mk ⟨rfl, trivial⟩ ?_
    | refine Chk.mk ⟨rfl, rfl, trivial⟩ ?_
    | refine Chk.mk ⟨rfl, rfl, rfl, trivial⟩ ?_
    | refine Chk.mk ⟨rfl, rfl, rfl, rfl, trivial⟩ ?_
    | refine Chk.mk ⟨rfl, rfl, rfl, rfl, rfl, trivial⟩ ?_
    | refine Chk.mk ⟨rfl, rfl, rfl, rfl, rfl, rfl, trivial⟩ ?_)
  exact Done.mk rfl
end Go.Proofs.Ytbpdbgcndfcilaa
namespace Go.Proofs.Ytbpdbgcndfcilaa
open Go.RowKit Go.Sl
set_option maxRecDepth 20000

/-- bytes, as they lie -/
structure Bs where
  a : Option Addr
  len : Nat
  cap : Nat
  data : Dat
@[reducible] def Bs.cell (b : Bs) : Value := .slice b.a b.len b.cap
theorem GrpsOk.at' {J : Imm} {gl : List Grp} {L : List G3} (h : GrpsOk J gl L) (i : Nat) (hi : i < gl.length) : ∃ hl : i < L.length, gl[i].e = (L[i].1 : Int) ∧ gl[i].s = (L[i].2.1 : Int) ∧ gl[i].gs.map Img.pr = L[i].2.2 := by
  have hl : i < L.length := by rw [← h.len]; exact hi
  refine ⟨hl, ?_⟩
  have h3 := h.g3
  have : (gl.map Grp.g3)[i]'(by rw [List.length_map]; exact hi) = (L.map up3)[i]'(by rw [List.length_map]; exact hl) := by simp only [h3]
  rw [List.getElem_map, List.getElem_map] at this
  unfold Grp.g3 up3 at this
  simp only [Prod.mk.injEq] at this
  exact this
end Go.Proofs.Ytbpdbgcndfcilaa
namespace Go.Proofs.Ytbpdbgcndfcilaa
open Go.RowKit Go.Sl
set_option maxRecDepth 20000

/-- what a call of 'Groups' tells -/
def Told (J : Imm) (v : Value) (L : List G3) (at_ er : Int) : Prop := ∃ aO capO gl, v = .tuple #[.slice aO gl.length capO, .int .i64 at_, .int .i64 er] ∧ Rds J aO (gl.length * 3) (grpCells gl) ∧ GrpsOk J gl L
end Go.Proofs.Ytbpdbgcndfcilaa
namespace Go.Proofs.Ytbpdbgcndfcilaa
open Go.RowKit Go.Sl
set_option maxRecDepth 20000

theorem rbP_add (d : DSt) (l lb a : Nat) : rbP d l lb (a + lb) = rbP d l lb a := by unfold rbP; rw [Nat.add_mod_right]
theorem scanL64 {d : DSt} (hlen : d.now.length = 64) (s : Sup) : scanL d s = scanK (rbP d 2 16) s.epoch 17 s.tail.toNat s.seq 16 := by
  unfold scanL
  rw [hlen]
  show scanK (rbP d 2 (layL (64 : Int)).toNat) s.epoch ((layL (64 : Int)).toNat + 1) s.tail.toNat s.seq (layL (64 : Int)).toNat = _
  rw [layL64]; rfl
@[reducible] def nA : List PImg := im9 1 0
@[reducible] def nB : List PImg := im9 2 1
theorem nA_right : RightP ((1 : Nat) : Int) ((1 : Nat) : Int) nA := im9_right (by decide) (by decide) 1 (by decide) 0
theorem nB_right : RightP ((1 : Nat) : Int) ((2 : Nat) : Int) nB := im9_right (by decide) (by decide) 2 (by decide) 1
theorem nA_len : nA.length = 1 := im9_length _ _
theorem nB_len : nB.length = 2 := im9_length _ _
structure Two (rb : Nat → Dat) : Prop where
  a : ∀ (k : Nat) (h : k < (putP 1 1 nA).length), rb (14 + k) = (putP 1 1 nA)[k]
  b : ∀ (k : Nat) (h : k < (putP 1 2 nB).length), rb (0 + k) = (putP 1 2 nB)[k]
  n : rb 3 = noughts
theorem WI.two {j : JSt} {d : DSt} (w : WI 1 14 (fun _ => noughts) j d [nA, nB]) : Two (rbP d 2 16) := by
  have hA := putP_length 1 1 nA
  have hB := putP_length 1 2 nB
  rw [nA_len] at hA
  rw [nB_len] at hB
  have hr := w.ring
  have e : ringB 1 1 [nA, nB] = putP 1 1 nA ++ putP 1 2 nB := by simp [ringB]
  rw [e] at hr
  refine ⟨fun k hk => ?_, fun k hk => ?_, ?_⟩
  · have := hr k (by omega)
    rw [this, List.getD_eq_getElem?_getD, List.getElem?_append_left hk, List.getElem?_eq_getElem hk]; rfl
  · have := hr (2 + k) (by omega)
    rw [show 14 + (2 + k) = 0 + k + 16 by omega, rbP_add] at this
    rw [this, List.getD_eq_getElem?_getD, List.getElem?_append_right (by omega), show 2 + k - (putP 1 1 nA).length = k by omega, List.getElem?_eq_getElem hk]; rfl
  · have := hr 5 (by omega)
    rw [show 14 + 5 = 3 + 16 by omega, rbP_add] at this
    rw [this, List.getD_eq_getElem?_getD, List.getElem?_eq_none (by rw [List.length_append]; omega)]; rfl
theorem usedA : usedP [nA] = 2 := by simp [usedP, im9_length]
theorem usedB : usedP [nB] = 3 := by simp [usedP, im9_length]
theorem Two.grpA {rb : Nat → Dat} (h : Two rb) : grpP rb 14 16 = some (1, 1, nA) := grpP_put nA_right (by rw [nA_len]; omega) h.a
theorem Two.grpB {rb : Nat → Dat} (h : Two rb) : grpP rb 0 16 = some (1, 2, nB) := grpP_put nB_right (by rw [nB_len]; omega) h.b
theorem Two.m {d : DSt} (h : Two (rbP d 2 16)) (hlen : d.now.length = 64) : scanL d ⟨64, 1, 2, 0⟩ = [(1, 2, nB)] := by
  rw [scanL64 hlen]
  show scanK (rbP d 2 16) ((1 : Nat) : Int) 17 0 ((2 : Nat) : Int) 16 = _
  have e : ringB 1 2 [nB] = putP 1 2 nB := by simp [ringB]
  rw [scan_prefix (rbP d 2 16) 1 [nB] 17 0 2 16 (fun i hi => by
      have : i = 0 := by simpa using hi
      subst this; exact nB_right) (by rw [usedB]; omega) (by simp) (fun k hk => by
      have := h.b k (by rw [← e]; exact hk)
      rw [this]; simp only [e])]
  rw [scan_stop, List.append_nil]; · rfl
  intro e s l hg
  rw [usedB, grpP_none (by rw [show 0 + 3 = 3 from rfl, h.n]; exact hd_noughts)] at hg
  cases hg
theorem Two.no {d : DSt} (h : Two (rbP d 2 16)) (hlen : d.now.length = 64) : scanL d ⟨64, 1, 2, 14⟩ = [] := by
  rw [scanL64 hlen]
  refine scan_stop fun e s l hg h' => ?_
  have hg : grpP (rbP d 2 16) 14 16 = some (e, s, l) := hg
  rw [h.grpA] at hg
  cases hg
  have : ((1 : Nat) : Int) = 2 := h'.2
  omega
theorem Two.other {d : DSt} (h : Two (rbP d 2 16)) (hlen : d.now.length = 64) : scanL d ⟨64, 2, 1, 14⟩ = [] := by
  rw [scanL64 hlen]
  refine scan_stop fun e s l hg h' => ?_
  have hg : grpP (rbP d 2 16) 14 16 = some (e, s, l) := hg
  rw [h.grpA] at hg
  cases hg
  have : ((1 : Nat) : Int) = 2 := h'.1
  omega
theorem Two.late {d : DSt} (h : Two (rbP d 2 16)) (hlen : d.now.length = 64) : scanL d ⟨64, 1, 1, 0⟩ = [] := by
  rw [scanL64 hlen]
  refine scan_stop fun e s l hg h' => ?_
  have hg : grpP (rbP d 2 16) 0 16 = some (e, s, l) := hg
  rw [h.grpB] at hg
  cases hg
  have : ((2 : Nat) : Int) = 1 := h'.2
  omega
theorem rb_put3 {d : DSt} (hlen : d.now.length = 64) (b : Dat) (a : Nat) : rbP (d.put 3 b) 2 16 a = if a % 16 = 1 then b else rbP d 2 16 a := by
  unfold rbP
  show (d.now.set (3 : Int).toNat b).getD (2 + a % 16) [] = _
  rw [show (3 : Int).toNat = 3 from rfl, List.getD_eq_getElem?_getD, List.getD_eq_getElem?_getD]
  by_cases h : a % 16 = 1
  · rw [if_pos h, h, List.getElem?_set_self (by omega)]; rfl
  · rw [if_neg h, List.getElem?_set_ne (by omega)]
theorem Two.turned {d : DSt} (h : Two (rbP d 2 16)) (hlen : d.now.length = 64) {b bd : Dat} {v : UInt8} (hbd : bd = rbP d 2 16 1) (hb : b = bd.set 512 v) (hv : v ≠ bd.getD 512 0) : scanL (d.put 3 b) ⟨64, 1, 1, 14⟩ = [(1, 1, nA)] := by
  have hA := putP_length 1 1 nA
  have hB := putP_length 1 2 nB
  rw [nA_len] at hA
  rw [nB_len] at hB
  rw [scanL64 (by rw [DSt.put_len]; exact hlen)]
  show scanK (rbP (d.put 3 b) 2 16) ((1 : Nat) : Int) 17 14 ((1 : Nat) : Int) 16 = _
  have e : ringB 1 1 [nA] = putP 1 1 nA := by simp [ringB]
  rw [scan_prefix (rbP (d.put 3 b) 2 16) 1 [nA] 17 14 1 16 (fun i hi => by
      have : i = 0 := by simpa using hi
      subst this; exact nA_right) (by rw [usedA]; omega) (by simp) (fun k hk => by
      rw [e] at hk
      have := h.a k hk
      rw [rb_put3 hlen, if_neg (by omega), this]; simp only [e])]
  rw [scan_stop, List.append_nil]; · rfl
  intro e2 s l hg
  rw [usedA] at hg
  exfalso
  have r0 : rbP (d.put 3 b) 2 16 16 = hblk 1 2 nB := by
    rw [rb_put3 hlen, if_neg (by omega), show (16 : Nat) = 0 + 16 by omega, rbP_add]
    have := h.b 0 (by omega)
    rw [Nat.add_zero] at this
    rw [this]; rfl
  have r1 : rbP (d.put 3 b) 2 16 17 = b := by rw [rb_put3 hlen, if_pos (by omega)]
  have hb1 : bd = markK (stampB 1 2) (madeL (IntKind.i64.wrap (1 + ((0 : Nat) : Int))) 4096) 8 := by
    have := h.b 1 (by omega)
    rw [hbd, show (1 : Nat) = 0 + 1 from rfl, this]
    simp [putP, nB, im9, List.range_succ]
  have hml : (madeL (IntKind.i64.wrap (1 + ((0 : Nat) : Int))) 4096).length = 4096 := madeL_length _ _
  have hbl : bd.length = 4096 := by rw [hb1, markK_length (stampB_length _ _) 8 (by omega) (by omega)]; exact hml
  have hbe : Bears (stampB 1 2) bd := by rw [hb1]; exact mark_bears (stampB_length _ _) hml
  have hno : ¬ Bears (stampB 1 2) b := by
    intro h2
    have q1 := (bears_at (stampB_length _ _) hbl).1 hbe 512 (by omega) (by omega)
    have q2 := (bears_at (stampB_length _ _) (by rw [hb, List.length_set]; exact hbl)).1 h2 512 (by omega) (by omega)
    rw [← q1, hb, List.getElem?_set_self (by omega), getD_get (l := bd) (by omega)] at q2
    exact hv (Option.some.inj q2)
  have hd := hdP_put nB_right
  unfold grpP at hg
  rw [show 14 + 2 = 16 from rfl, r0, hd] at hg
  dsimp only at hg
  split at hg
  · rw [List.length_map, nB_len] at hg
    have e3 : ((List.range (2 + 1)).map fun i => rbP (d.put 3 b) 2 16 (16 + i)) = hblk 1 2 nB :: [b, rbP (d.put 3 b) 2 16 18] := by
      simp only [List.range_succ, List.range_zero, List.map_cons, List.map_nil, List.nil_append, List.cons_append, Nat.add_zero]
      rw [r0, r1]
    rw [e3, getP_bad hd (fun h' => hno (h'.2 b (by simp)).2)] at hg
    cases hg
  · cases hg
theorem big_none {d : DSt} (hlen : d.now.length = 64) (h0 : rbP d 2 16 0 = hblk 1 1 (im9 16 3)) : scanL d ⟨64, 1, 1, 0⟩ = [] := by
  rw [scanL64 hlen]
  refine scan_stop fun e s l hg h' => ?_
  have hg : grpP (rbP d 2 16) 0 16 = some (e, s, l) := hg
  unfold grpP at hg
  rw [h0, hdP_put (im9_right (by decide) (by decide) 16 (by decide) 3)] at hg
  dsimp only at hg
  rw [List.length_map, im9_length, if_neg (by omega)] at hg
  cases hg
theorem adds2222 : [2, 2, 2, 2].foldl addK [] = [im9 3 2, im9 3 2, im9 3 2, im9 3 2] := by
  show addK (addK (addK (addK [] 2) 2) 2) 2 = _
  have h0 : addK [] 2 = [im9 3 2] := addK_yes (n := 3) (u := 0) (by decide) rfl (by decide)
  have h1 : addK [im9 3 2] 2 = [im9 3 2, im9 3 2] := addK_yes (n := 3) (u := 4) (by decide) (by simp [usedP, im9_length]) (by decide)
  have h2 : addK [im9 3 2, im9 3 2] 2 = [im9 3 2, im9 3 2, im9 3 2] := addK_yes (n := 3) (u := 8) (by decide) (by simp [usedP, im9_length]) (by decide)
  have h3 : addK [im9 3 2, im9 3 2, im9 3 2] 2 = [im9 3 2, im9 3 2, im9 3 2, im9 3 2] := addK_yes (n := 3) (u := 12) (by decide) (by simp [usedP, im9_length]) (by decide)
  rw [h0, h1, h2, h3]
theorem wrt2222 : (wrtP ((3 : Nat) : Int) ((5 : Nat) : Int) [2, 2, 2, 2]).2.2 = [im9 3 2, im9 3 2, im9 3 2, im9 3 2] := by
  rw [wrt_all (by decide) (by decide)]; exact adds2222
/-- a call of 'Groups' of the right form -/
theorem scan9 {I : Imm} {bD : Nat} {d : DSt} {chD : List Blk} (hD : Dk I bD d chD) (hdn : d.down = false) (hlen : d.now.length = 64) (s : Sup) (hok : ScanOk 64 (layOf 64) s) {L : List G3} {pl : Nat} (hL : scanL d s = L) (hpl : placeP 16 s.tail.toNat L = pl) :
    Tri Try.prog 36 #[.pointer (some ⟨bD, 0, none⟩), (layOf 64).v, s.v] I [chD] fun v J S' => S' = [chD] ∧ Told J v L pl 0 := by
  refine Tri.mono (scan_Groups hD (layOf 64) s) ?_
  rintro v J S' hJ ⟨rfl, ⟨h, _⟩ | ⟨_, h, _⟩ | ⟨_, _, aO, capO, gl, rfl, hO, hg⟩⟩
  · exact absurd (by rw [hlen]; exact hok) h
  · rw [hdn] at h; cases h
  · refine ⟨rfl, aO, capO, gl, ?_, hO, by rw [← hL]; exact hg⟩
    rw [hlen, hL]
    show Value.tuple #[_, .int .i64 (placeP (layL (64 : Int)).toNat s.tail.toNat L : Nat), _] = _
    rw [layL64]
    show Value.tuple #[_, .int .i64 (placeP 16 s.tail.toNat L : Nat), _] = _
    rw [hpl]
theorem scan9_bad {I : Imm} {bD : Nat} {d : DSt} {chD : List Blk} (hD : Dk I bD d chD) (hlen : d.now.length = 64) (s : Sup) (hno : ¬ ScanOk 64 (layOf 64) s) :
    Tri Try.prog 36 #[.pointer (some ⟨bD, 0, none⟩), (layOf 64).v, s.v] I [chD] fun v _ S' => S' = [chD] ∧ v = .tuple #[.slice none 0 0, .int .i64 0, .int .i64 2] := by
  refine Tri.mono (scan_Groups hD (layOf 64) s) ?_
  rintro v J S' hJ ⟨rfl, ⟨_, h⟩ | ⟨h, _⟩ | ⟨h, _⟩⟩
  · exact ⟨rfl, h⟩
  · exact absurd (by rw [hlen] at h; exact h) hno
  · exact absurd (by rw [hlen] at h; exact h) hno
theorem scan9_down {I : Imm} {bD : Nat} {d : DSt} {chD : List Blk} (hD : Dk I bD d chD) (hdn : d.down = true) (hlen : d.now.length = 64) (s : Sup) (hok : ScanOk 64 (layOf 64) s) :
    Tri Try.prog 36 #[.pointer (some ⟨bD, 0, none⟩), (layOf 64).v, s.v] I [chD] fun v _ S' => S' = [chD] ∧ v = .tuple #[.slice none 0 0, .int .i64 0, .int .i64 6] := by
  refine Tri.mono (scan_Groups hD (layOf 64) s) ?_
  rintro v J S' hJ ⟨rfl, ⟨h, _⟩ | ⟨_, _, h⟩ | ⟨_, h, _⟩⟩
  · exact absurd (by rw [hlen]; exact hok) h
  · exact ⟨rfl, h⟩
  · rw [hdn] at h; cases h
end Go.Proofs.Ytbpdbgcndfcilaa
namespace Go.Proofs.Ytbpdbgcndfcilaa
open Go.RowKit Go.Sl
set_option maxRecDepth 20000

theorem images9c (n : Nat) (hn : n ≤ 40) (seed : Int) (I : Imm) : Tri Try.prog 92 #[.int .i64 n, .int .i64 seed] I [] fun v J _ => ∃ a cap gs, v = .slice a gs.length cap ∧ ImgsOk J a gs ∧ (∀ g ∈ gs, g.len ≤ g.cap) ∧ gs.map Img.pr = im9 n seed := by
  refine Tri.fixed (Q := fun v J S' => ∃ (a : Option Addr) (cap : Nat) (ch : List Blk) (gs : List Img), v = .slice a gs.length cap ∧ OwnC ch 2 a gs.length cap (imgCells gs) ∧ (∀ g ∈ gs, ImgOk J g ∧ g.len ≤ g.cap) ∧ gs.map Img.pr = im9 n seed ∧ S' = [ch]) ?_ ?_
  rotate_left
  · rintro v J S' hJ ⟨a, cap, ch, gs, rfl, hO, hok, hp, rfl⟩
    exact ⟨0, ch, rfl, fun J' hJ' hm => ⟨a, cap, gs, rfl, ⟨Rds.of_ownS hO hm, fun g hg => (hok g hg).1.mono hJ'⟩, fun g hg => (hok g hg).2, hp⟩⟩
  refine Tri.of (args := [.int .i64 n, .int .i64 seed]) tabOk Try.func92 rfl (by kernel_rfl) (by kernel_rfl) ?_
  refine CodeF.loopD [0, 1, 5, 6] (fun vs J S' => ∃ (i : Nat) (a : Option Addr) (cap : Nat) (ch : List Blk) (gs : List Img), i ≤ n ∧ OwnC ch 2 a i cap (imgCells gs) ∧ gs.length = i ∧ gs.map Img.pr = im9 i seed ∧ (∀ g ∈ gs, ImgOk J g ∧ g.len ≤ g.cap) ∧ I.le J ∧
      vs = [.int .i64 n, .int .i64 seed, .slice a i cap, .int .i64 i] ∧ S' = [ch])
    (fun vs _ _ => match vs with | [_, _, _, .int _ i] => ((n : Int) - i).toNat | _ => 0) ?_ ?_
  · exact ⟨_, Drop.and (Drop.refl _), 0, none, 0, [], [], by omega, OwnC.nil _ _, rfl, rfl, by simp, I.le_refl, rfl, rfl⟩
  rintro vs g J S' hJ ⟨i, a, cap, ch, gs, hi, hO, hgl, hgp, hok, hle, rfl, rfl⟩
  refine CmpD.split (fun c1 => ?_) (fun c1 => ?_)
  · refine ToD.i64 (by omega) (by omega) ?_
    refine ToD.keep ?_
    refine Tri.free (made (IntKind.i64.wrap (seed + (i : Int))) 4096 (by omega) J) ?_
    rintro v J1 _ hJ1 ⟨aD, rfl, hrD⟩
    conv => whnf
    intro bN
    refine appendD tabOk rfl rfl rfl rfl rfl rfl rfl 0 rfl hO (SrcOk.slice (n := 1) (news := imgCells [⟨30 + (i : Int), aD, 4096, 4096, madeL (IntKind.i64.wrap (seed + (i : Int))) 4096⟩]) tabOk rfl ((OwnC.whole (len := 1) (size := 2) rfl).slC 1 rfl) (by intro v hv; simp [imgCells] at hv; rcases hv with rfl | rfl <;> rfl)) rfl (by show (i + 1) * 32 ≤ _; omega) (by omega) ?_
    intro a2 cap2 ch2 hO2
    refine ToD.i64 (by omega) (by omega) ?_
    refine ⟨_, Drop.pick [0] _ rfl, ⟨i + 1, a2, cap2, ch2, gs ++ [⟨30 + (i : Int), aD, 4096, 4096, madeL (IntKind.i64.wrap (seed + (i : Int))) 4096⟩], by omega, by rw [imgCells_snoc]; exact hO2, by simp [hgl], by rw [List.map_append, hgp, im9_succ]; rfl, ?_, Imm.le_trans hle hJ1, rfl, rfl⟩, ?_⟩
    · intro y hy
      rcases List.mem_append.1 hy with hy | hy
      · exact ⟨(hok y hy).1.mono hJ1, (hok y hy).2⟩
      · simp only [List.mem_singleton] at hy
        subst hy
        exact ⟨⟨by show In64 (30 + (i : Int)); unfold In64; omega, hrD⟩, Nat.le_refl _⟩
    · show ((n : Int) - ((i : Int) + 1)).toNat < ((n : Int) - (i : Int)).toNat; omega
  · obtain rfl : i = n := by omega
    exact Done.mk ⟨a, cap, ch, gs, by rw [hgl]; rfl, by rw [hgl]; exact hO, hok, hgp, rfl⟩
theorem wrt01 (I : Imm) {aZ : Option Addr} (hZ : Rds I aZ 2 (ints [0, 1])) :
    Tri Try.prog 32 #[.int .i64 1, .int .i64 14, .slice aZ 2 2] I [] fun v J S' => ∃ bD chD d aS capS, ∃ ms : List Ims, v = .tuple #[.pointer (some ⟨bD, 0, none⟩), .slice aS ms.length capS, .bool true] ∧ Dk J bD d chD ∧ d.Calm ∧ d.now.length = 64 ∧ d.Few 16 ∧ Two (rbP d 2 16) ∧ ImsAt J aS ms [nA, nB] ∧ ms.length ≤ capS ∧ S' = [chD] := by
  refine Tri.mono (written9 I 1 14 (by decide) (by decide) aZ 2 2 [0, 1] rfl (by intro x hx; simp at hx; unfold In64; omega) hZ) ?_
  rintro v J1 A' hJ1 ⟨bD, chD, aS, capS, ms, rfl, hD, hms, hle, rfl⟩
  have w := wrtP_wi (ep := 1) (tail := 14) (by decide) (by decide) [0, 1]
  have hcalm := w.calm
  have hlen := w.len
  have hfew := w.few.mono (m := 16) w.used
  rw [awk9] at hms w
  exact ⟨bD, chD, _, aS, capS, ms, rfl, hD, hcalm, hlen, hfew, w.two, hms, hle, rfl⟩
set_option maxHeartbeats 4000000 in
theorem others9 (I : Imm) (S : St) : Tri Try.prog 43 #[] I S fun v _ _ => v = .bool true := by
  refine Tri.free (Q := fun v _ _ => v = .bool true) ?_ (fun v J _ _ h => h)
  refine Tri.of (args := []) tabOk Try.func43 rfl (by kernel_rfl) (by kernel_rfl) ?_
  conv => whnf
  intro bZ
  refine Tri.fix 0 rfl fun I1 hI1 hm => ?_
  have hZ : Rds I1 (some ⟨bZ, 0, none⟩) 2 (ints [0, 1]) := Rds.of_own (cap := 2) (OwnC.whole rfl) hm
  refine Tri.frameX (wrt01 I1 hZ) [] rfl rfl ?_
  rintro v J1 A' hJ1 ⟨bD, chD, d, aS, capS, ms, rfl, hD, hcalm, hlen, hfew, h2, hms, hle, rfl⟩
  repeat (first
    | refine LoadD.own 0 rfl _ rfl rfl ?_
    | refine LoadD.own 1 rfl _ rfl rfl ?_
    | refine LoadD.own 2 rfl _ rfl rfl ?_
    | refine LoadP.at 0 rfl _ rfl rfl ?_
    | refine LoadP.at 1 rfl _ rfl rfl ?_
    | refine LoadP.at 2 rfl _ rfl rfl ?_
    | refine StoreD.st 0 rfl rfl rfl ?_
    | refine StoreD.st 1 rfl rfl rfl ?_
    | refine StoreD.st 2 rfl rfl rfl ?_
    | refine CmpD.yes rfl ?_
    | refine CmpD.yes (by decide) ?_
    | refine CmpD.no (by decide) ?_
    | refine Chk.mk ⟨rfl, trivial⟩ ?_
    | refine Chk.mk ⟨rfl, rfl, trivial⟩ ?_
    | refine Chk.mk ⟨rfl, rfl, rfl, trivial⟩ ?_
    | refine Chk.mk ⟨rfl, rfl, rfl, rfl, trivial⟩ ?_
    | refine Chk.mk ⟨rfl, rfl, rfl, rfl, rfl, trivial⟩ ?_
    | refine Chk.mk ⟨rfl, rfl, rfl, rfl, rfl, rfl, trivial⟩ ?_)
  refine Tri.free (layout9 J1) ?_
  rintro v _ _ _ ⟨rfl, rfl⟩
  refine Tri.frame1 1 rfl (scan9 hD hcalm.1 hlen ⟨64, 1, 1, 0⟩ (scanOk64 rfl (by decide) (by decide) (by decide)) (h2.late hlen) (pl := 0) rfl) ?_
  rintro v J2 A' hJ2 ⟨rfl, aX, capX, gX, rfl, hX, hXg⟩
  refine ⟨_, rfl, ?_⟩
  have hXl := hXg.len
  have hXl : gX.length = 0 := hXl
  refine Tri.frameX (dk_New J2 64 (by omega)) [] rfl rfl ?_
  rintro v J3 A' hJ3 ⟨bY, chY, rfl, hY, rfl⟩
  refine Tri.free (images9c 16 (by omega) 3 J3) ?_
  rintro v J4 _ hJ4 ⟨aG, capG, gs, rfl, hgs, hgc, hgp⟩
  have hR : RightP ((1 : Nat) : Int) ((1 : Nat) : Int) (gs.map Img.pr) := by rw [hgp]; exact im9_right (by decide) (by decide) 16 (by decide) 3
  have hgl : gs.length = 16 := by have := congrArg List.length hgp; rwa [List.length_map, im9_length] at this
  refine Tri.nf (r6_Put 1 1 (imgsR_of hgs) hgc hR) ?_
  rintro v J5 S' hJ5 ⟨aO, capO, chO, bs, rfl, hO, hbd, hbok, rfl⟩
  have hbl : bs.length = gs.length + 1 := by have := hO.n; rw [List.length_map] at this; omega
  rw [hgp] at hbd
  have hlen0 : (DSt.of (List.replicate 64 noughts)).now.length = 64 := List.length_replicate ..
  have hcalm0 : (DSt.of (List.replicate 64 noughts)).Calm := fresh_calm _
  have hY5 := hY.mono (Imm.le_trans hJ4 hJ5)
  refine CodeF.fixD 3 (ch := chO) rfl fun I6 hI6 hOm => ?_
  have hOR : Rds I6 aO (gs.length + 1) (bs.map Bk.cell) := Rds.of_own hO hOm
  have hY6 := hY5.mono hI6
  have hfew0 : (DSt.of (List.replicate 64 noughts)).Few 0 := DSt.of_few _
  generalize DSt.of (List.replicate 64 noughts) = dY at *
  rcases hOR.mem with q0 | ⟨bO, oO, cO, TO, fO, rfl, hIO, hcO⟩
  · omega
  refine CodeF.loopD [4, 5, 6, 7, 8, 9, 10, 11] (fun vs J' S' => ∃ (i : Nat) (d : DSt) (chY : List Blk), i ≤ 16 ∧ Dk J' bY d chY ∧ d.Calm ∧ d.now.length = 64 ∧ d.Few i ∧ (1 ≤ i → rbP d 2 16 0 = hblk 1 1 (im9 16 3)) ∧ I6.le J' ∧
      vs = [.slice aX gX.length capX, .int .i64 (0 : Nat), .int .i64 0, .pointer (some ⟨bY, 0, none⟩), .int .i64 0, .slice (some ⟨bO, oO, none⟩) (gs.length + 1) capO, .int .i64 0, .int .i64 i] ∧ S' = [[], chD, chY, []])
    (fun vs _ _ => match vs with | [_, _, _, _, _, _, _, .int _ i] => ((16 : Int) - i).toNat | _ => 0) ?_ ?_
  · exact ⟨_, Drop.pick [0, 1, 2, 3] _ rfl, 0, dY, chY, by omega, hY6, hcalm0, hlen0, hfew0, fun h => by omega, Imm.le_refl _, rfl, rfl⟩
  clear hY hY5 hY6 hlen0 hcalm0 hfew0
  rintro vs gE J' S' hJ' ⟨i, dY, chY, hi, hY, hcalmY, hlenY, hfewY, h0, hle6, rfl, rfl⟩
  refine CmpD.split (fun c1 => ?_) (fun c1 => ?_)
  rotate_left
  · exfalso
    have c1 : ¬ (i : Int) < ((gs.length + 1 : Nat) : Int) := c1
    omega
  refine CmpD.split (fun (c2 : (i : Int) < 16) => ?_) (fun (c2 : ¬ (i : Int) < 16) => ?_)
  · have hlt : i < bs.length := by omega
    have hcell : (bs.map Bk.cell)[i]? = some bs[i].cell := by rw [List.getElem?_map, List.getElem?_eq_getElem hlt]; rfl
    have hbo := hbok _ (List.getElem_mem hlt)
    have hb4 : (bs[i].data).length = 4096 := by have := hbo.len; rwa [bts_length] at this
    have hb0 : i = 0 → bs[i].data = hblk 1 1 (im9 16 3) := by
      intro h
      subst h
      have := congrArg (·[0]?) hbd
      simp only [List.getElem?_map, List.getElem?_eq_getElem hlt, Option.map_some] at this
      rw [putP_eq] at this
      exact Option.some.inj this
    generalize bs[i] = bk at *
    refine ToD.to ((2 + i : Nat) : Int) (by rw [wrap_i64 (by omega) (by omega)]; omega) ?_
    refine Chk.mk (by omega) ?_
    refine LoadD.imm (hle6 _ _ hIO) [bk.cell] (take_get hcO hcell) rfl ?_
    refine Tri.frame1 2 rfl (dk_Write hY (hfewY.mono (by omega)) ((2 + i : Nat) : Int) bk.a 4096 bk.cap bk.data (Rds.mono hbo (Imm.le_trans hI6 hle6))) ?_
    rw [DSt.write_calm hcalmY (n := ((2 + i : Nat) : Int)) (by omega) hb4]
    rintro v J7 A' hJ7 ⟨rfl, chY7, hY7, rfl⟩
    refine ⟨_, rfl, ?_⟩
    refine ToD.i64 (by omega) (by omega) ?_
    refine ⟨_, Drop.refl _, ⟨i + 1, _, chY7, by omega, hY7, hcalmY, by rw [DSt.put_len]; exact hlenY, ?_, ?_, Imm.le_trans hle6 hJ7, rfl, rfl⟩, ?_⟩
    · obtain ⟨q1, q2, q3⟩ := hfewY
      exact ⟨by show (dY.writes ++ [_]).length ≤ _; simp; omega, by show 0 ≤ dY.count + 1; omega, by show dY.count + 1 ≤ _; omega⟩
    · intro _
      unfold rbP
      show (dY.now.set (((2 + i : Nat) : Int)).toNat bk.data).getD (2 + 0 % 16) [] = _
      rw [Int.toNat_natCast, List.getD_eq_getElem?_getD]
      by_cases hi0 : i = 0
      · rw [hb0 hi0]
        subst hi0
        rw [List.getElem?_set_self (by omega)]; rfl
      · rw [List.getElem?_set_ne (by omega)]
        have := h0 (by omega)
        unfold rbP at this
        rw [List.getD_eq_getElem?_getD] at this
        exact this
    · show ((16 : Int) - ((i : Int) + 1)).toNat < ((16 : Int) - (i : Int)).toNat; omega
  obtain rfl : i = 16 := by omega
  refine Tri.free (layout9 J') ?_
  rintro v _ _ _ ⟨rfl, rfl⟩
  refine Tri.frame1 2 rfl (scan9 hY hcalmY.1 hlenY ⟨64, 1, 1, 0⟩ (scanOk64 rfl (by decide) (by decide) (by decide)) (big_none hlenY (h0 (by omega))) (pl := 0) rfl) ?_
  rintro v J8 A' hJ8 ⟨rfl, aM, capM, gM, rfl, hM, hMg⟩
  refine ⟨_, rfl, ?_⟩
  have hMl : gM.length = 0 := hMg.len
  rw [hXl, hMl]
  repeat (first
    | refine LoadD.own 0 rfl _ rfl rfl ?_
    | refine LoadP.at 0 rfl _ rfl rfl ?_
    | refine StoreD.st 0 rfl rfl rfl ?_
    | refine CmpD.yes rfl ?_
    | refine CmpD.yes (by decide) ?_
    | refine CmpD.no (by decide) ?_
    | refine Chk.mk ⟨rfl, trivial⟩ ?_
    | refine Chk.mk ⟨rfl, rfl, trivial⟩ ?_
    | refine Chk.mk ⟨rfl, rfl, rfl, trivial⟩ ?_
    | refine Chk.mk ⟨rfl, rfl, rfl, rfl, trivial⟩ ?_
    | refine Chk.mk ⟨rfl, rfl, rfl, rfl, rfl, trivial⟩ ?_
    | refine Chk.mk ⟨rfl, rfl, rfl, rfl, rfl, rfl, trivial⟩ ?_
    | refine ToD.i64 (by omega) (by omega) ?_
    | refine Chk.mk (by omega) ?_
    | refine CmpD.yes (by omega) ?_
    | refine CmpD.no (by omega) ?_)
  exact Done.mk rfl
end Go.Proofs.Ytbpdbgcndfcilaa
namespace Go.Proofs.Ytbpdbgcndfcilaa
open Go.RowKit Go.Sl
set_option maxRecDepth 20000

theorem scan_nil (I : Imm) (S : St) (x : Lay) (s : Sup) : Tri Try.prog 36 #[.pointer none, x.v, s.v] I S fun v _ S' => v = .tuple #[.slice none 0 0, .int .i64 0, .int .i64 1] ∧ S' = S := by
  refine Tri.pack (Tri.mono (Q := fun v _ S' => v = .tuple #[.slice none 0 0, .int .i64 0, .int .i64 1] ∧ S' = [S.flatten]) ?_ ?_)
  · refine Tri.drop ?_ (fun _ _ _ _ h => h)
    obtain ⟨s1, s2, s3, s4⟩ := s
    obtain ⟨x1, x2, x3, x4, x5, x6, x7⟩ := x
    refine Tri.of (args := [.pointer none, (⟨x1, x2, x3, x4, x5, x6, x7⟩ : Lay).v, (⟨s1, s2, s3, s4⟩ : Sup).v]) tabOk Try.func36 rfl (by kernel_rfl) (by kernel_rfl) ?_
    conv => whnf
    intro b4
    conv => whnf
    intro b5
    refine Tri.nf (disk_Size0 I _) ?_
    rintro v J S' hJ ⟨rfl, rfl, rfl⟩
    repeat (first
      | refine LoadD.own 0 rfl _ rfl rfl ?_
      | refine LoadP.at 0 rfl _ rfl rfl ?_
      | refine StoreD.st 0 rfl rfl rfl ?_
      | refine CmpD.yes rfl ?_
      | refine CmpD.yes (by decide) ?_
      | refine CmpD.no (by decide) ?_
      | refine Chk.mk ⟨rfl, trivial⟩ ?_
      | refine Chk.mk ⟨rfl, rfl, trivial⟩ ?_
      | refine Chk.mk ⟨rfl, rfl, rfl, trivial⟩ ?_
      | refine Chk.mk ⟨rfl, rfl, rfl, rfl, trivial⟩ ?_
      | refine Chk.mk ⟨rfl, rfl, rfl, rfl, rfl, trivial⟩ ?_
      | refine Chk.mk ⟨rfl, rfl, rfl, rfl, rfl, rfl, trivial⟩ ?_)
    exact Done.mk ⟨_, Drop.pick [0] _ rfl, rfl, rfl⟩
  · rintro v J S' hJ ⟨rfl, rfl⟩
    exact ⟨[], rfl, rfl, by simp⟩
def badL : List Sup := [⟨65, 1, 1, 0⟩, ⟨64, 0, 1, 0⟩, ⟨64, 1, 0, 0⟩, ⟨64, 1, 1, 16⟩, ⟨64, 1, 1, -1⟩, ⟨64, 8388609, 1, 0⟩, ⟨64, 1, 549755813889, 0⟩]
def supsV (l : List Sup) : List Value := l.flatMap fun s => [.int .i64 s.blocks, .int .i64 s.epoch, .int .i64 s.seq, .int .i64 s.tail]
theorem badL_no : ∀ s ∈ badL, ¬ ScanOk 64 (layOf 64) s := by
  intro s hs h
  obtain ⟨_, _, h1, h2, h3, h4, h5, h6, h7⟩ := h
  have h3 : s.tail < 16 := by have : layL ((64 : Nat) : Int) = 16 := by decide
                              rw [this] at h3; exact h3
  simp only [badL, List.mem_cons, List.not_mem_nil, or_false] at hs
  rcases hs with rfl | rfl | rfl | rfl | rfl | rfl | rfl <;> simp at h1 h2 h3 h4 h5 h6 h7
theorem badL_at (i : Nat) (h : i < 7) : ∃ s, s ∈ badL ∧ ((supsV badL).drop (i * 4)).take 4 = [.int .i64 s.blocks, .int .i64 s.epoch, .int .i64 s.seq, .int .i64 s.tail] := by
  match i, h with
  | 0, _ => exact ⟨⟨65, 1, 1, 0⟩, by simp [badL], rfl⟩
  | 1, _ => exact ⟨⟨64, 0, 1, 0⟩, by simp [badL], rfl⟩
  | 2, _ => exact ⟨⟨64, 1, 0, 0⟩, by simp [badL], rfl⟩
  | 3, _ => exact ⟨⟨64, 1, 1, 16⟩, by simp [badL], rfl⟩
  | 4, _ => exact ⟨⟨64, 1, 1, -1⟩, by simp [badL], rfl⟩
  | 5, _ => exact ⟨⟨64, 8388609, 1, 0⟩, by simp [badL], rfl⟩
  | 6, _ => exact ⟨⟨64, 1, 549755813889, 0⟩, by simp [badL], rfl⟩
theorem Rds_sub {I : Imm} {a : Option Addr} {n cap : Nat} {vs : List Value} (h : Rds I a n vs) (lo m : Nat) (hm : 0 < m) (hle : lo + m ≤ n) (hc : n ≤ cap) : Rds I (slAddr a lo cap 1) m ((vs.drop lo).take m) := (slC_part (h.slC (S := [])) lo m hm hle hc).rds
set_option maxHeartbeats 8000000 in
theorem scanNumbers_walk {I : Imm} : Tri Try.prog 6 #[] I [] fun v _ _ => v = .bool true := by
  refine Tri.of (args := []) tabOk Try.func6 rfl (by kernel_rfl) (by kernel_rfl) ?_
  refine Tri.frameX (dk_New I 64 (by omega)) [] rfl rfl ?_
  rintro v J1 A' hJ1 ⟨bX, chX, rfl, hX, rfl⟩
  have hlen0 : (DSt.of (List.replicate 64 noughts)).now.length = 64 := List.length_replicate ..
  have hsc0 := (WI.fresh (ep := 1) (tail := 14) (by decide) (by decide)).scan 64
  refine Tri.free (layout9 J1) ?_
  rintro v _ _ _ ⟨rfl, rfl⟩
  refine Tri.frame1 0 rfl (scan9 hX (fresh_calm _).1 hlen0 ⟨64, 1, 1, 14⟩ (scanOk64 rfl (by decide) (by decide) (by decide)) (L := []) (pl := 14) hsc0.1 rfl) ?_
  rintro v J2 A' hJ2 ⟨rfl, aL, capL, gL, rfl, hL, hLg⟩
  refine ⟨_, rfl, ?_⟩
  have hLl : gL.length = 0 := hLg.len
  rw [hLl]
  repeat (first
    | refine LoadD.own 0 rfl _ rfl rfl ?_
    | refine LoadP.at 0 rfl _ rfl rfl ?_
    | refine StoreD.st 0 rfl rfl rfl ?_
    | refine CmpD.yes rfl ?_
    | refine CmpD.yes (by decide) ?_
    | refine CmpD.no (by decide) ?_
    | refine Chk.mk ⟨rfl, trivial⟩ ?_
    | refine Chk.mk ⟨rfl, rfl, trivial⟩ ?_
    | refine Chk.mk ⟨rfl, rfl, rfl, trivial⟩ ?_
    | refine Chk.mk ⟨rfl, rfl, rfl, rfl, trivial⟩ ?_
    | refine Chk.mk ⟨rfl, rfl, rfl, rfl, rfl, trivial⟩ ?_
    | refine Chk.mk ⟨rfl, rfl, rfl, rfl, rfl, rfl, trivial⟩ ?_
    | refine ToD.i64 (by omega) (by omega) ?_
    | refine Chk.mk (by omega) ?_
    | refine CmpD.yes (by omega) ?_
    | refine CmpD.no (by omega) ?_)
  conv => whnf
  intro bZ
  refine Tri.fix 1 rfl fun I3 hI3 hm => ?_
  have hZ : Rds I3 (some ⟨bZ, 0, none⟩) 2 (ints [0, 1]) := Rds.of_own (cap := 2) (OwnC.whole rfl) hm
  refine Tri.frameX (wrt01 I3 hZ) [] rfl rfl ?_
  rintro v J3 A' hJ3 ⟨bD, chD, d, aS, capS, ms, rfl, hD, hcalm, hlen, hfew, h2, hms, hle, rfl⟩
  have hmsl : ms.length = 2 := by have := congrArg List.length hms.pr; simpa using this
  repeat (first
    | refine LoadD.own 0 rfl _ rfl rfl ?_
    | refine LoadD.own 1 rfl _ rfl rfl ?_
    | refine LoadD.own 2 rfl _ rfl rfl ?_
    | refine LoadP.at 0 rfl _ rfl rfl ?_
    | refine LoadP.at 1 rfl _ rfl rfl ?_
    | refine LoadP.at 2 rfl _ rfl rfl ?_
    | refine StoreD.st 0 rfl rfl rfl ?_
    | refine StoreD.st 1 rfl rfl rfl ?_
    | refine StoreD.st 2 rfl rfl rfl ?_
    | refine CmpD.yes rfl ?_
    | refine CmpD.yes (by decide) ?_
    | refine CmpD.no (by decide) ?_
    | refine Chk.mk ⟨rfl, trivial⟩ ?_
    | refine Chk.mk ⟨rfl, rfl, trivial⟩ ?_
    | refine Chk.mk ⟨rfl, rfl, rfl, trivial⟩ ?_
    | refine Chk.mk ⟨rfl, rfl, rfl, rfl, trivial⟩ ?_
    | refine Chk.mk ⟨rfl, rfl, rfl, rfl, rfl, trivial⟩ ?_
    | refine Chk.mk ⟨rfl, rfl, rfl, rfl, rfl, rfl, trivial⟩ ?_)
  refine Tri.free (layout9 J3) ?_
  rintro v _ _ _ ⟨rfl, rfl⟩
  refine Tri.frame1 2 rfl (scan9 hD hcalm.1 hlen ⟨64, 1, 2, 0⟩ (scanOk64 rfl (by decide) (by decide) (by decide)) (h2.m hlen) (pl := 3) (by simp [placeP, im9_length])) ?_
  rintro v J4 A' hJ4 ⟨rfl, aM, capM, gM, rfl, hM, hMg⟩
  refine ⟨_, rfl, ?_⟩
  have hMl : gM.length = 1 := hMg.len
  obtain ⟨gm, rfl⟩ : ∃ g, gM = [g] := List.length_eq_one_iff.1 hMl
  have hgm := hMg.g3
  simp only [List.map_cons, List.map_nil, List.cons.injEq, and_true] at hgm
  have hgs2 : gm.s = 2 := congrArg (fun x => x.2.1) hgm
  have hD4 := hD.mono hJ4
  refine Tri.free (layout9 J4) ?_
  rintro v _ _ _ ⟨rfl, rfl⟩
  refine Tri.frame1 2 rfl (scan9 hD4 hcalm.1 hlen ⟨64, 1, 2, 14⟩ (scanOk64 rfl (by decide) (by decide) (by decide)) (h2.no hlen) (pl := 14) rfl) ?_
  rintro v J5 A' hJ5 ⟨rfl, aN, capN, gN, rfl, hN, hNg⟩
  refine ⟨_, rfl, ?_⟩
  have hD5 := hD4.mono hJ5
  refine Tri.free (layout9 J5) ?_
  rintro v _ _ _ ⟨rfl, rfl⟩
  refine Tri.frame1 2 rfl (scan9 hD5 hcalm.1 hlen ⟨64, 2, 1, 14⟩ (scanOk64 rfl (by decide) (by decide) (by decide)) (h2.other hlen) (pl := 14) rfl) ?_
  rintro v J6 A' hJ6 ⟨rfl, aP, capP, gP, rfl, hP, hPg⟩
  refine ⟨_, rfl, ?_⟩
  have hD6 := hD5.mono hJ6
  have hM6 := hM.mono (Imm.le_trans hJ5 hJ6)
  rcases hM6.mem with q0 | ⟨bM, oM, cM, TM, fM, rfl, hIM, hcM⟩
  · simp at q0
  have hcs : (cM.drop (oM + 1)).take 1 = [.int .i64 gm.s] := take_get (i := 1) hcM rfl
  repeat (first
    | refine LoadD.own 0 rfl _ rfl rfl ?_
    | refine LoadP.at 0 rfl _ rfl rfl ?_
    | refine StoreD.st 0 rfl rfl rfl ?_
    | refine CmpD.yes rfl ?_
    | refine CmpD.yes (by decide) ?_
    | refine CmpD.no (by decide) ?_
    | refine Chk.mk ⟨rfl, trivial⟩ ?_
    | refine Chk.mk ⟨rfl, rfl, trivial⟩ ?_
    | refine Chk.mk ⟨rfl, rfl, rfl, trivial⟩ ?_
    | refine Chk.mk ⟨rfl, rfl, rfl, rfl, trivial⟩ ?_
    | refine Chk.mk ⟨rfl, rfl, rfl, rfl, rfl, trivial⟩ ?_
    | refine Chk.mk ⟨rfl, rfl, rfl, rfl, rfl, rfl, trivial⟩ ?_
    | refine ToD.i64 (by omega) (by omega) ?_
    | refine Chk.mk (by omega) ?_
    | refine CmpD.yes (by omega) ?_
    | refine CmpD.no (by omega) ?_)
  refine LoadD.imm hIM [.int .i64 gm.s] hcs rfl ?_
  refine CmpD.yes hgs2 ?_
  repeat (first
    | refine LoadD.own 0 rfl _ rfl rfl ?_
    | refine LoadP.at 0 rfl _ rfl rfl ?_
    | refine StoreD.st 0 rfl rfl rfl ?_
    | refine CmpD.yes rfl ?_
    | refine CmpD.yes (by decide) ?_
    | refine CmpD.no (by decide) ?_
    | refine Chk.mk ⟨rfl, trivial⟩ ?_
    | refine Chk.mk ⟨rfl, rfl, trivial⟩ ?_
    | refine Chk.mk ⟨rfl, rfl, rfl, trivial⟩ ?_
    | refine Chk.mk ⟨rfl, rfl, rfl, rfl, trivial⟩ ?_
    | refine Chk.mk ⟨rfl, rfl, rfl, rfl, rfl, trivial⟩ ?_
    | refine Chk.mk ⟨rfl, rfl, rfl, rfl, rfl, rfl, trivial⟩ ?_
    | refine ToD.i64 (by omega) (by omega) ?_
    | refine Chk.mk (by omega) ?_
    | refine CmpD.yes (by omega) ?_
    | refine CmpD.no (by omega) ?_)
  have hrd := read_up hD.wf hcalm.1 (k := 3) (by omega)
  have hb4 : (d.now.getD 3 []).length = 4096 := by
    rw [List.getD_eq_getElem?_getD, List.getElem?_eq_getElem (by omega : 3 < d.now.length)]
    exact hD.wf.now _ (List.getElem_mem _)
  have hdr := dk_Read hD6 ((3 : Nat) : Int)
  rw [hrd] at hdr
  dsimp only at hdr
  rw [hb4] at hdr
  refine Tri.frame hdr [2] rfl rfl ?_
  rintro v J7 A' hJ7 ⟨aB, capB, chB, rfl, hB, rfl, rfl⟩
  refine ⟨by simp, ?_⟩
  have hbd : d.now.getD 3 [] = rbP d 2 16 1 := rfl
  generalize d.now.getD 3 [] = bd at *
  rcases hB.at' with q0 | ⟨bB, pre, post, TB, rfl, rfl, hpost⟩
  · have := hB.le; omega
  repeat (first
    | refine LoadD.own 0 rfl _ rfl rfl ?_
    | refine LoadD.own 1 rfl _ rfl rfl ?_
    | refine LoadD.own 2 rfl _ rfl rfl ?_
    | refine LoadP.at 0 rfl _ rfl rfl ?_
    | refine LoadP.at 1 rfl _ rfl rfl ?_
    | refine LoadP.at 2 rfl _ rfl rfl ?_
    | refine StoreD.st 0 rfl rfl rfl ?_
    | refine StoreD.st 1 rfl rfl rfl ?_
    | refine StoreD.st 2 rfl rfl rfl ?_
    | refine CmpD.yes rfl ?_
    | refine CmpD.yes (by decide) ?_
    | refine CmpD.no (by decide) ?_
    | refine Chk.mk ⟨rfl, trivial⟩ ?_
    | refine Chk.mk ⟨rfl, rfl, trivial⟩ ?_
    | refine Chk.mk ⟨rfl, rfl, rfl, trivial⟩ ?_
    | refine Chk.mk ⟨rfl, rfl, rfl, rfl, trivial⟩ ?_
    | refine Chk.mk ⟨rfl, rfl, rfl, rfl, rfl, trivial⟩ ?_
    | refine Chk.mk ⟨rfl, rfl, rfl, rfl, rfl, rfl, trivial⟩ ?_)
  have hBc : Cells J6 [chX, [], chD, [(bB, row (pre ++ bts bd ++ post) TB)]] bB pre.length 4096 (bts bd) :=
    ⟨_, TB, (0, 0), .one 3 rfl, by have := own_take pre (bts bd) post; rwa [bts_length, hb4] at this, by rw [bts_length, hb4]⟩
  refine Chk.mk (by omega) ?_
  refine LoadD.mk [byte (bd.getD 512 0)] (hBc.at (i := 512) (bts_get (getD_get (by omega)))) ?_
  have hby := (bd.getD 512 0).toNat_lt
  have hx8 : (bd.getD 512 0).toNat ^^^ 1 < 256 := Nat.xor_lt_two_pow (n := 8) (by omega) (by omega)
  have hxn : (bd.getD 512 0).toNat ^^^ 1 ≠ (bd.getD 512 0).toNat := by
    intro h
    have := congrArg (fun z => (bd.getD 512 0).toNat ^^^ z) h
    simp only [← Nat.xor_assoc, Nat.xor_self, Nat.zero_xor] at this
    omega
  refine ToD.to (((bd.getD 512 0).toNat ^^^ 1 : Nat) : Int) (u8_xor_nat _ 1 (by omega) (by omega)) ?_
  have hvn : UInt8.ofNat ((bd.getD 512 0).toNat ^^^ 1) ≠ bd.getD 512 0 := by
    intro h
    have := congrArg UInt8.toNat h
    rw [UInt8.toNat_ofNat', Nat.mod_eq_of_lt (by omega)] at this
    exact hxn this
  have hyb : Value.int .u8 (((bd.getD 512 0).toNat ^^^ 1 : Nat) : Int) = byte (UInt8.ofNat ((bd.getD 512 0).toNat ^^^ 1)) := by
    unfold byte
    rw [UInt8.toNat_ofNat', Nat.mod_eq_of_lt (by omega)]
  generalize UInt8.ofNat ((bd.getD 512 0).toNat ^^^ 1) = vb at *
  generalize (bd.getD 512 0).toNat ^^^ 1 = y at *
  refine Chk.mk (by omega) ?_
  obtain ⟨b2, hb2⟩ : ∃ b2, b2 = bd.set 512 vb := ⟨_, rfl⟩
  have hsp : splice (pre ++ bts bd ++ post) (pre.length + 512) [Value.int .u8 (y : Int)] = pre ++ bts b2 ++ post := by
    rw [splice_mid _ _ _ _ _ (by rw [bts_length, hb4]; show 512 + 1 ≤ _; omega), hb2, bts_set (by rw [hb4]; omega) rfl, hyb]
    rfl
  refine StoreD.to 3 rfl (pre ++ bts b2 ++ post) hsp (by simp only [List.length_append, bts_length, hb4]; show pre.length + 512 + 1 ≤ _; omega) (.inr (.inr (Nat.le_refl _))) _ rfl ?_
  have hsl : b2.length = 4096 := by rw [hb2, List.length_set]; exact hb4
  have hB2 : OwnB [(bB, row (pre ++ bts b2 ++ post) TB)] (some ⟨bB, pre.length, none⟩) 4096 capB b2 := ⟨by rw [bts_length, hsl], hB.le, .inr ⟨bB, pre, post, TB, rfl, rfl, hpost⟩⟩
  refine Tri.fix 3 rfl fun I8 hI8 hm8 => ?_
  have hscT := h2.turned hlen hbd hb2 hvn
  refine Tri.frame1 2 rfl (dk_Write (hD6.mono hI8) (hfew.mono (by omega)) 3 _ 4096 capB _ (Rds.of_own hB2 hm8)) ?_
  rw [DSt.write_calm hcalm (n := 3) (by omega) hsl]
  rintro v J9 A' hJ9 ⟨rfl, chD9, hD9, rfl⟩
  refine ⟨_, rfl, ?_⟩
  refine Tri.free (layout9 J9) ?_
  rintro v _ _ _ ⟨rfl, rfl⟩
  refine Tri.frame1 2 rfl (scan9 hD9 hcalm.1 (by rw [DSt.put_len]; exact hlen) ⟨64, 1, 1, 14⟩ (scanOk64 rfl (by decide) (by decide) (by decide)) hscT (pl := 0) (by simp [placeP, im9_length])) ?_
  rintro v J10 A' hJ10 ⟨rfl, aQ, capQ, gQ, rfl, hQ, hQg⟩
  refine ⟨_, rfl, ?_⟩
  have hJ310 : J3.le J10 := Imm.le_trans hJ4 (Imm.le_trans hJ5 (Imm.le_trans hJ6 (Imm.le_trans hI8 (Imm.le_trans hJ9 hJ10))))
  have hms10 := hms.mono hJ310
  repeat (first
    | refine LoadD.own 0 rfl _ rfl rfl ?_
    | refine LoadP.at 0 rfl _ rfl rfl ?_
    | refine StoreD.st 0 rfl rfl rfl ?_
    | refine CmpD.yes rfl ?_
    | refine CmpD.yes (by decide) ?_
    | refine CmpD.no (by decide) ?_
    | refine Chk.mk ⟨rfl, trivial⟩ ?_
    | refine Chk.mk ⟨rfl, rfl, trivial⟩ ?_
    | refine Chk.mk ⟨rfl, rfl, rfl, trivial⟩ ?_
    | refine Chk.mk ⟨rfl, rfl, rfl, rfl, trivial⟩ ?_
    | refine Chk.mk ⟨rfl, rfl, rfl, rfl, rfl, trivial⟩ ?_
    | refine Chk.mk ⟨rfl, rfl, rfl, rfl, rfl, rfl, trivial⟩ ?_)
  refine sliceD tabOk rfl rfl rfl rfl 0 1 capS rfl ⟨_, rfl⟩ rfl (.inl rfl) (by omega) ?_
  obtain ⟨m0, m1, rfl⟩ : ∃ m0 m1, ms = [m0, m1] := by
    match ms, hmsl with
    | [m0, m1], _ => exact ⟨m0, m1, rfl⟩
  have hms1 : ImsAt J10 (slAddr aS 0 capS 1) [m0] [nA] := by
    refine ⟨?_, fun m hm => hms10.each m (by simp at hm; simp [hm]), ?_⟩
    · exact Rds_sub hms10.rd 0 1 (by omega) (by simp) hle
    · have := hms10.pr
      simp only [List.map_cons, List.map_nil, List.cons.injEq, and_true] at this ⊢
      exact this.1
  refine Tri.free (same9 J10 aQ capQ gQ _ hQ hQg (slAddr aS 0 capS 1) (capS - 0) [m0] [nA] hms1 1 rfl ⟨by simp, by intro g hg; simp at hg; subst hg; rw [im9_length]; omega⟩) ?_
  rintro v _ _ _ rfl
  repeat (first
    | refine LoadD.own 0 rfl _ rfl rfl ?_
    | refine LoadP.at 0 rfl _ rfl rfl ?_
    | refine StoreD.st 0 rfl rfl rfl ?_
    | refine CmpD.yes rfl ?_
    | refine CmpD.yes (by decide) ?_
    | refine CmpD.no (by decide) ?_
    | refine Chk.mk ⟨rfl, trivial⟩ ?_
    | refine Chk.mk ⟨rfl, rfl, trivial⟩ ?_
    | refine Chk.mk ⟨rfl, rfl, rfl, trivial⟩ ?_
    | refine Chk.mk ⟨rfl, rfl, rfl, rfl, trivial⟩ ?_
    | refine Chk.mk ⟨rfl, rfl, rfl, rfl, rfl, trivial⟩ ?_
    | refine Chk.mk ⟨rfl, rfl, rfl, rfl, rfl, rfl, trivial⟩ ?_)
  conv => whnf
  intro bW
  refine Tri.fix 4 rfl fun I11 hI11 hm11 => ?_
  have hZ2 : Rds I11 (some ⟨bW, 0, none⟩) 4 (ints [2, 2, 2, 2]) := Rds.of_own (cap := 4) (OwnC.whole rfl) hm11
  refine Tri.frameX (written9 I11 3 5 (by decide) (by decide) _ 4 4 [2, 2, 2, 2] rfl (by intro x hx; simp at hx; unfold In64; omega) hZ2) [] rfl rfl ?_
  rintro v J12 A' hJ12 ⟨bY, chY, aF, capF, mf, rfl, hY, hmf, hlef, rfl⟩
  have w := wrtP_wi (ep := 3) (tail := 5) (by decide) (by decide) [2, 2, 2, 2]
  have hcalmY := w.calm
  have hlenY := w.len
  have hscY := w.scan 64
  have hfewY := w.fewA
  rw [wrt2222] at hmf hscY hfewY
  have hmfl : mf.length = 4 := by have := congrArg List.length hmf.pr; simpa using this
  generalize (wrtP ((3 : Nat) : Int) ((5 : Nat) : Int) [2, 2, 2, 2]).2.1 = dY at *
  repeat (first
    | refine LoadD.own 0 rfl _ rfl rfl ?_
    | refine LoadD.own 1 rfl _ rfl rfl ?_
    | refine LoadD.own 2 rfl _ rfl rfl ?_
    | refine LoadP.at 0 rfl _ rfl rfl ?_
    | refine LoadP.at 1 rfl _ rfl rfl ?_
    | refine LoadP.at 2 rfl _ rfl rfl ?_
    | refine StoreD.st 0 rfl rfl rfl ?_
    | refine StoreD.st 1 rfl rfl rfl ?_
    | refine StoreD.st 2 rfl rfl rfl ?_
    | refine CmpD.yes rfl ?_
    | refine CmpD.yes (by decide) ?_
    | refine CmpD.no (by decide) ?_
    | refine Chk.mk ⟨rfl, trivial⟩ ?_
    | refine Chk.mk ⟨rfl, rfl, trivial⟩ ?_
    | refine Chk.mk ⟨rfl, rfl, rfl, trivial⟩ ?_
    | refine Chk.mk ⟨rfl, rfl, rfl, rfl, trivial⟩ ?_
    | refine Chk.mk ⟨rfl, rfl, rfl, rfl, rfl, trivial⟩ ?_
    | refine Chk.mk ⟨rfl, rfl, rfl, rfl, rfl, rfl, trivial⟩ ?_)
  refine Tri.free (layout9 J12) ?_
  rintro v _ _ _ ⟨rfl, rfl⟩
  refine Tri.frame1 5 rfl (scan9 hY hcalmY.1 hlenY ⟨64, 3, 1, 5⟩ (scanOk64 rfl (by decide) (by decide) (by decide)) hscY.1 (pl := 5) (by rw [← hscY.1]; exact hscY.2.trans (by simp [usedP, im9_length]))) ?_
  rintro v J13 A' hJ13 ⟨rfl, aU, capU, gU, rfl, hU, hUg⟩
  refine ⟨_, rfl, ?_⟩
  repeat (first
    | refine LoadD.own 0 rfl _ rfl rfl ?_
    | refine LoadP.at 0 rfl _ rfl rfl ?_
    | refine StoreD.st 0 rfl rfl rfl ?_
    | refine CmpD.yes rfl ?_
    | refine CmpD.yes (by decide) ?_
    | refine CmpD.no (by decide) ?_
    | refine Chk.mk ⟨rfl, trivial⟩ ?_
    | refine Chk.mk ⟨rfl, rfl, trivial⟩ ?_
    | refine Chk.mk ⟨rfl, rfl, rfl, trivial⟩ ?_
    | refine Chk.mk ⟨rfl, rfl, rfl, rfl, trivial⟩ ?_
    | refine Chk.mk ⟨rfl, rfl, rfl, rfl, rfl, trivial⟩ ?_
    | refine Chk.mk ⟨rfl, rfl, rfl, rfl, rfl, rfl, trivial⟩ ?_
    | refine ToD.i64 (by omega) (by omega) ?_
    | refine Chk.mk (by omega) ?_
    | refine CmpD.yes (by omega) ?_
    | refine CmpD.no (by omega) ?_)
  refine Tri.free (same9 J13 aU capU gU _ hU hUg aF capF mf _ (hmf.mono hJ13) 3 rfl hfewY) ?_
  rintro v J14 _ hJ14 rfl
  repeat (first
    | refine LoadD.own 0 rfl _ rfl rfl ?_
    | refine LoadP.at 0 rfl _ rfl rfl ?_
    | refine StoreD.st 0 rfl rfl rfl ?_
    | refine CmpD.yes rfl ?_
    | refine CmpD.yes (by decide) ?_
    | refine CmpD.no (by decide) ?_
    | refine Chk.mk ⟨rfl, trivial⟩ ?_
    | refine Chk.mk ⟨rfl, rfl, trivial⟩ ?_
    | refine Chk.mk ⟨rfl, rfl, rfl, trivial⟩ ?_
    | refine Chk.mk ⟨rfl, rfl, rfl, rfl, trivial⟩ ?_
    | refine Chk.mk ⟨rfl, rfl, rfl, rfl, rfl, trivial⟩ ?_
    | refine Chk.mk ⟨rfl, rfl, rfl, rfl, rfl, rfl, trivial⟩ ?_
    | refine ToD.i64 (by omega) (by omega) ?_
    | refine Chk.mk (by omega) ?_
    | refine CmpD.yes (by omega) ?_
    | refine CmpD.no (by omega) ?_)
  refine Tri.free (layout9 J14) ?_
  rintro v _ _ _ ⟨rfl, rfl⟩
  refine Tri.free (scan_nil J14 [] (layOf 64) ⟨64, 1, 1, 0⟩) ?_
  rintro v J14b _ hJ14b ⟨rfl, _⟩
  conv => whnf
  intro bS
  have hYb := hY.mono (Imm.le_trans hJ13 (Imm.le_trans hJ14 hJ14b))
  refine CodeF.loopD [6, 19, 25, 26, 31, 34, 213, 214, 215] (fun vs J' S' => ∃ (i : Nat), i ≤ 7 ∧ J14b.le J' ∧ vs = [.bool true, .bool true, .bool true, .pointer (some ⟨bY, 0, none⟩), .bool true, .int .i64 1, .slice (some ⟨bS, 0, none⟩) 7 7, .int .i64 (7 : Nat), .int .i64 i] ∧ S' = [chY, [(bS, row (supsV badL) 56)]])
    (fun vs _ _ => match vs with | [_, _, _, _, _, _, _, _, .int _ i] => ((7 : Int) - i).toNat | _ => 0) ?_ ?_
  · exact ⟨_, Drop.pick [5, 6] _ rfl, 0, by omega, Imm.le_refl _, rfl, rfl⟩
  rintro vs gE J' S' hJ' ⟨i, hi, hle14, rfl, rfl⟩
  have hYc := hYb.mono hle14
  refine CmpD.split (fun (c1 : (i : Int) < (7 : Nat)) => ?_) (fun (c1 : ¬ (i : Int) < (7 : Nat)) => ?_)
  · obtain ⟨⟨z1, z2, z3, z4⟩, hzm, hzc⟩ := badL_at i (by omega)
    have hno := badL_no _ hzm
    refine Chk.mk (by omega) ?_
    refine LoadD.own 1 rfl [.int .i64 z1, .int .i64 z2, .int .i64 z3, .int .i64 z4] (by show ((supsV badL).drop (0 + i * 4)).take 4 = _; rw [Nat.zero_add]; exact hzc) rfl ?_
    conv => whnf
    intro b36
    repeat (first
      | refine LoadD.own 0 rfl _ rfl rfl ?_
      | refine LoadD.own 1 rfl _ rfl rfl ?_
      | refine LoadD.own 2 rfl _ rfl rfl ?_
      | refine LoadP.at 0 rfl _ rfl rfl ?_
      | refine LoadP.at 1 rfl _ rfl rfl ?_
      | refine LoadP.at 2 rfl _ rfl rfl ?_
      | refine StoreD.st 0 rfl rfl rfl ?_
      | refine StoreD.st 1 rfl rfl rfl ?_
      | refine StoreD.st 2 rfl rfl rfl ?_
      | refine CmpD.yes rfl ?_
      | refine CmpD.yes (by decide) ?_
      | refine CmpD.no (by decide) ?_
      | refine Chk.mk ⟨rfl, trivial⟩ ?_
      | refine Chk.mk ⟨rfl, rfl, trivial⟩ ?_
      | refine Chk.mk ⟨rfl, rfl, rfl, trivial⟩ ?_
      | refine Chk.mk ⟨rfl, rfl, rfl, rfl, trivial⟩ ?_
      | refine Chk.mk ⟨rfl, rfl, rfl, rfl, rfl, trivial⟩ ?_
      | refine Chk.mk ⟨rfl, rfl, rfl, rfl, rfl, rfl, trivial⟩ ?_)
    refine CodeF.sched [[], [], [], [0, 1, 2], [0, 1, 2, 3], [0, 1, 2, 3, 4], [0, 1, 2, 3, 4], [0, 1, 2, 3, 4], [0, 1, 2, 3, 4, 5], [0, 1, 2, 3, 4, 5, 6, 8], [0, 1, 2, 3, 4, 5, 6, 7, 8, 9]] [0, 2, 1, 3, 4, 5, 6, 7, 8, 9, 10] (by kernel_rfl) ?_
    repeat (first
      | refine LoadD.own 0 rfl _ rfl rfl ?_
      | refine LoadD.own 1 rfl _ rfl rfl ?_
      | refine LoadD.own 2 rfl _ rfl rfl ?_
      | refine LoadP.at 0 rfl _ rfl rfl ?_
      | refine LoadP.at 1 rfl _ rfl rfl ?_
      | refine LoadP.at 2 rfl _ rfl rfl ?_
      | refine StoreD.st 0 rfl rfl rfl ?_
      | refine StoreD.st 1 rfl rfl rfl ?_
      | refine StoreD.st 2 rfl rfl rfl ?_
      | refine CmpD.yes rfl ?_
      | refine CmpD.yes (by decide) ?_
      | refine CmpD.no (by decide) ?_
      | refine Chk.mk ⟨rfl, trivial⟩ ?_
      | refine Chk.mk ⟨rfl, rfl, trivial⟩ ?_
      | refine Chk.mk ⟨rfl, rfl, rfl, trivial⟩ ?_
      | refine Chk.mk ⟨rfl, rfl, rfl, rfl, trivial⟩ ?_
      | refine Chk.mk ⟨rfl, rfl, rfl, rfl, rfl, trivial⟩ ?_
      | refine Chk.mk ⟨rfl, rfl, rfl, rfl, rfl, rfl, trivial⟩ ?_)
    refine Tri.free (layout9 J') ?_
    rintro v _ _ _ ⟨rfl, rfl⟩
    repeat (first
      | refine LoadD.own 0 rfl _ rfl rfl ?_
      | refine LoadD.own 1 rfl _ rfl rfl ?_
      | refine LoadD.own 2 rfl _ rfl rfl ?_
      | refine LoadP.at 0 rfl _ rfl rfl ?_
      | refine LoadP.at 1 rfl _ rfl rfl ?_
      | refine LoadP.at 2 rfl _ rfl rfl ?_
      | refine StoreD.st 0 rfl rfl rfl ?_
      | refine StoreD.st 1 rfl rfl rfl ?_
      | refine StoreD.st 2 rfl rfl rfl ?_
      | refine CmpD.yes rfl ?_
      | refine CmpD.yes (by decide) ?_
      | refine CmpD.no (by decide) ?_
      | refine Chk.mk ⟨rfl, trivial⟩ ?_
      | refine Chk.mk ⟨rfl, rfl, trivial⟩ ?_
      | refine Chk.mk ⟨rfl, rfl, rfl, trivial⟩ ?_
      | refine Chk.mk ⟨rfl, rfl, rfl, rfl, trivial⟩ ?_
      | refine Chk.mk ⟨rfl, rfl, rfl, rfl, rfl, trivial⟩ ?_
      | refine Chk.mk ⟨rfl, rfl, rfl, rfl, rfl, rfl, trivial⟩ ?_)
    refine Tri.frame1 0 rfl (scan9_bad hYc hlenY ⟨z1, z2, z3, z4⟩ hno) ?_
    rintro v J15 A' hJ15 ⟨rfl, rfl⟩
    refine ⟨_, rfl, ?_⟩
    repeat (first
      | refine LoadD.own 0 rfl _ rfl rfl ?_
      | refine LoadD.own 1 rfl _ rfl rfl ?_
      | refine LoadD.own 2 rfl _ rfl rfl ?_
      | refine LoadP.at 0 rfl _ rfl rfl ?_
      | refine LoadP.at 1 rfl _ rfl rfl ?_
      | refine LoadP.at 2 rfl _ rfl rfl ?_
      | refine StoreD.st 0 rfl rfl rfl ?_
      | refine StoreD.st 1 rfl rfl rfl ?_
      | refine StoreD.st 2 rfl rfl rfl ?_
      | refine CmpD.yes rfl ?_
      | refine CmpD.yes (by decide) ?_
      | refine CmpD.no (by decide) ?_
      | refine Chk.mk ⟨rfl, trivial⟩ ?_
      | refine Chk.mk ⟨rfl, rfl, trivial⟩ ?_
      | refine Chk.mk ⟨rfl, rfl, rfl, trivial⟩ ?_
      | refine Chk.mk ⟨rfl, rfl, rfl, rfl, trivial⟩ ?_
      | refine Chk.mk ⟨rfl, rfl, rfl, rfl, rfl, trivial⟩ ?_
      | refine Chk.mk ⟨rfl, rfl, rfl, rfl, rfl, rfl, trivial⟩ ?_)
    refine ToD.i64 (by omega) (by omega) ?_
    refine ⟨_, Drop.pick [0, 1] _ rfl, ⟨i + 1, by omega, Imm.le_trans hle14 hJ15, rfl, rfl⟩, ?_⟩
    show ((7 : Int) - ((i : Int) + 1)).toNat < ((7 : Int) - (i : Int)).toNat; omega
  · refine Tri.frame1 0 rfl (dk_Arm hYc 0 (by unfold In64; omega)) ?_
    rintro v J15 A' hJ15 ⟨rfl, chA, hA, rfl⟩
    refine ⟨_, rfl, ?_⟩
    refine Tri.frame1 0 rfl (dk_Flush hA) ?_
    rintro v J16 A' hJ16 ⟨rfl, chF, hFl, rfl⟩
    refine ⟨_, rfl, ?_⟩
    have hst : (dY.armed 0).1.flush.1.down = true ∧ (dY.armed 0).1.flush.1.now = dY.now := by
      have hd := hcalmY.1
      obtain ⟨q1, q2, q3, q4, q5, ⟨q6, q7⟩, ⟨q8, q9⟩⟩ := dY
      dsimp only at hd
      subst hd
      exact ⟨rfl, rfl⟩
    refine Tri.free (layout9 J16) ?_
    rintro v _ _ _ ⟨rfl, rfl⟩
    refine Tri.frame1 0 rfl (scan9_down hFl hst.1 (by rw [hst.2]; exact hlenY) ⟨64, 3, 1, 5⟩ (scanOk64 rfl (by decide) (by decide) (by decide))) ?_
    rintro v J17 A' hJ17 ⟨rfl, rfl⟩
    refine ⟨_, rfl, ?_⟩
    repeat (first
      | refine LoadD.own 0 rfl _ rfl rfl ?_
      | refine LoadP.at 0 rfl _ rfl rfl ?_
      | refine StoreD.st 0 rfl rfl rfl ?_
      | refine CmpD.yes rfl ?_
      | refine CmpD.yes (by decide) ?_
      | refine CmpD.no (by decide) ?_
      | refine Chk.mk ⟨rfl, trivial⟩ ?_
      | refine Chk.mk ⟨rfl, rfl, trivial⟩ ?_
      | refine Chk.mk ⟨rfl, rfl, rfl, trivial⟩ ?_
      | refine Chk.mk ⟨rfl, rfl, rfl, rfl, trivial⟩ ?_
      | refine Chk.mk ⟨rfl, rfl, rfl, rfl, rfl, trivial⟩ ?_
      | refine Chk.mk ⟨rfl, rfl, rfl, rfl, rfl, rfl, trivial⟩ ?_)
    refine Tri.mono (others9 _ _) ?_
    rintro v J18 S18 hJ18 rfl
    repeat (first
      | refine LoadD.own 0 rfl _ rfl rfl ?_
      | refine LoadP.at 0 rfl _ rfl rfl ?_
      | refine StoreD.st 0 rfl rfl rfl ?_
      | refine CmpD.yes rfl ?_
      | refine CmpD.yes (by decide) ?_
      | refine CmpD.no (by decide) ?_
      | refine Chk.mk ⟨rfl, trivial⟩ ?_
      | refine Chk.mk ⟨rfl, rfl, trivial⟩ ?_
      | refine Chk.mk ⟨rfl, rfl, rfl, trivial⟩ ?_
      | refine Chk.mk ⟨rfl, rfl, rfl, rfl, trivial⟩ ?_
      | refine Chk.mk ⟨rfl, rfl, rfl, rfl, rfl, trivial⟩ ?_
      | refine Chk.mk ⟨rfl, rfl, rfl, rfl, rfl, rfl, trivial⟩ ?_)
    refine Tri.mono (awake09 _ _) ?_
    rintro v J19 S19 hJ19 rfl
    repeat (first
      | refine LoadD.own 0 rfl _ rfl rfl ?_
      | refine LoadP.at 0 rfl _ rfl rfl ?_
      | refine StoreD.st 0 rfl rfl rfl ?_
      | refine CmpD.yes rfl ?_
      | refine CmpD.yes (by decide) ?_
      | refine CmpD.no (by decide) ?_
      | refine Chk.mk ⟨rfl, trivial⟩ ?_
      | refine Chk.mk ⟨rfl, rfl, trivial⟩ ?_
      | refine Chk.mk ⟨rfl, rfl, rfl, trivial⟩ ?_
      | refine Chk.mk ⟨rfl, rfl, rfl, rfl, trivial⟩ ?_
      | refine Chk.mk ⟨rfl, rfl, rfl, rfl, rfl, trivial⟩ ?_
      | refine Chk.mk ⟨rfl, rfl, rfl, rfl, rfl, rfl, trivial⟩ ?_)
    exact Done.mk rfl
end Go.Proofs.Ytbpdbgcndfcilaa
