/- Texts of this claim laid together: ScanA, Rf4c, Rf4d, Rf4e, Rf4f, Rf4g, Rf4h, R9a, Awake08, Awk08, LowPick, Img9, JNum, Wi, ScanP, Written, Rf10c, Do, Rf10d, Ref03c, Rf10a, Image, JournalNumbers, ReplayNumbers, ReplayTells, Same9, ScanAny, SameG, Num9, Torn, Crash, KeptP, KeptW, Others9, ScanNumbers, ScanKept, OpenB. -/
import Derived.Test.YtbpdbgcndfcilaaBScanKept3
import Derived.Test.YtbpdbgcndfcilaaBScanKept2
import Derived.Test.YtbpdbgcndfcilaaBScanKept1
namespace Go.Proofs.Ytbpdbgcndfcilaa
open Go.RowKit Go.Sl
set_option maxRecDepth 20000

/-- the arguments are as they must be -/
def ScanOk (n : Nat) (x : Lay) (s : Sup) : Prop := 64 ≤ n ∧ x = layOf n ∧ s.blocks = n ∧ 0 ≤ s.tail ∧ s.tail < layL n ∧ 1 ≤ s.epoch ∧ s.epoch ≤ 8388608 ∧ 1 ≤ s.seq ∧ s.seq ≤ 549755813888
noncomputable def scanL (d : DSt) (s : Sup) : List G3 := scanK (rbP d 2 (layL (d.now.length : Int)).toNat) s.epoch ((layL (d.now.length : Int)).toNat + 1) s.tail.toNat s.seq (layL (d.now.length : Int)).toNat
def placeP (lb tail : Nat) (l : List G3) : Nat := (tail + (l.map fun g => g.2.2.length + 1).sum) % lb
structure GrpsOk (J : Imm) (gl : List Grp) (l : List G3) : Prop where
  each : ∀ g ∈ gl, ImgsOk J g.a g.gs
  g3 : gl.map Grp.g3 = l.map up3
theorem GrpsOk.mono {I J : Imm} {gl : List Grp} {l : List G3} (h : GrpsOk I gl l) (hJ : I.le J) : GrpsOk J gl l := ⟨fun g hg => (h.each g hg).mono hJ, h.g3⟩
theorem GrpsOk.len {J : Imm} {gl : List Grp} {l : List G3} (h : GrpsOk J gl l) : gl.length = l.length := by have := congrArg List.length h.g3; simpa using this
theorem grpCells_snoc (l : List Grp) (g : Grp) : grpCells (l ++ [g]) = grpCells l ++ [.int .i64 g.e, .int .i64 g.s, .slice g.a g.gs.length g.cap] := by simp [grpCells]
theorem scan_bound {rb : Nat → Dat} {ep : Int} : ∀ (f at_ : Nat) (seq : Int) (room : Nat), (scanK rb ep f at_ seq room).length ≤ room ∧ ((scanK rb ep f at_ seq room).map fun g => g.2.2.length + 1).sum ≤ room
  | 0, _, _, _ => by simp [scanK]
  | f + 1, at_, seq, room => by
    rw [scanK]
    cases hg : grpP rb at_ room with
    | none => simp
    | some p =>
      obtain ⟨e, s, l⟩ := p
      dsimp only
      split
      · have h1 := grpP_room hg
        obtain ⟨h2, h3⟩ := scan_bound f (at_ + (l.length + 1)) (seq + 1) (room - (l.length + 1)) (rb := rb) (ep := ep)
        simp only [List.length_cons, List.map_cons, List.sum_cons]
        omega
      · simp
theorem ring_groups (bR : Nat) (s : Sup) (I : Imm) : Tri Try.prog 96 #[.pointer (some ⟨bR, 0, none⟩), s.v] I [] fun v J S' => ∃ bS bP, v = .func (.func 129) #[] #[.pointer (some ⟨bS, 0, none⟩), .pointer (some ⟨bP, 0, none⟩)] ∧ I = J ∧ S' = [[(bP, row [.pointer (some ⟨bR, 0, none⟩)] 140)], sBoxS bS s] := by
  refine Tri.of (args := [.pointer (some ⟨bR, 0, none⟩), s.v]) tabOk Try.func96 rfl (by kernel_rfl) (by kernel_rfl) ?_
  conv => whnf
  intro bP
  conv => whnf
  intro bS
  exact Done.mk ⟨bS, bP, rfl, rfl, rfl⟩
theorem placeP_snoc (lb tail : Nat) (l : List G3) (g : G3) : placeP lb tail (l ++ [g]) = (tail + (l.map fun g => g.2.2.length + 1).sum + (g.2.2.length + 1)) % lb := by
  unfold placeP
  rw [List.map_append, List.sum_append]
  simp [Nat.add_assoc]
set_option maxHeartbeats 8000000 in
theorem scan_Groups {I : Imm} {bD : Nat} {d : DSt} {chD : List Blk} (hD : Dk I bD d chD) (x : Lay) (s : Sup) :
    Tri Try.prog 36 #[.pointer (some ⟨bD, 0, none⟩), x.v, s.v] I [chD] fun v J S' => S' = [chD] ∧
      ((¬ ScanOk d.now.length x s ∧ v = .tuple #[.slice none 0 0, .int .i64 0, .int .i64 2]) ∨
       (ScanOk d.now.length x s ∧ d.down = true ∧ v = .tuple #[.slice none 0 0, .int .i64 0, .int .i64 6]) ∨
       (ScanOk d.now.length x s ∧ d.down = false ∧ ∃ aO capO gl, v = .tuple #[.slice aO gl.length capO, .int .i64 (placeP (layL d.now.length).toNat s.tail.toNat (scanL d s) : Nat), .int .i64 0] ∧ Rds J aO (gl.length * 3) (grpCells gl) ∧ GrpsOk J gl (scanL d s))) := by
  have hr := hD.wf.range
  refine Tri.drop (Tri.fixed (Q := fun v J S' => ∃ chO, S' = [chD, chO] ∧
      ((¬ ScanOk d.now.length x s ∧ v = .tuple #[.slice none 0 0, .int .i64 0, .int .i64 2]) ∨
       (ScanOk d.now.length x s ∧ d.down = true ∧ v = .tuple #[.slice none 0 0, .int .i64 0, .int .i64 6]) ∨
       (ScanOk d.now.length x s ∧ d.down = false ∧ ∃ aO capO gl, v = .tuple #[.slice aO gl.length capO, .int .i64 (placeP (layL d.now.length).toNat s.tail.toNat (scanL d s) : Nat), .int .i64 0] ∧ OwnC chO 3 aO gl.length capO (grpCells gl) ∧ GrpsOk J gl (scanL d s)))) ?_
    (K := fun v J S' => S' = [chD, []] ∧
      ((¬ ScanOk d.now.length x s ∧ v = .tuple #[.slice none 0 0, .int .i64 0, .int .i64 2]) ∨
       (ScanOk d.now.length x s ∧ d.down = true ∧ v = .tuple #[.slice none 0 0, .int .i64 0, .int .i64 6]) ∨
       (ScanOk d.now.length x s ∧ d.down = false ∧ ∃ aO capO gl, v = .tuple #[.slice aO gl.length capO, .int .i64 (placeP (layL d.now.length).toNat s.tail.toNat (scanL d s) : Nat), .int .i64 0] ∧ Rds J aO (gl.length * 3) (grpCells gl) ∧ GrpsOk J gl (scanL d s)))) ?_) ?_
  rotate_left
  · rintro v J S' hJ ⟨chO, rfl, h⟩
    refine ⟨1, chO, rfl, fun J' hJ' hm => ⟨rfl, ?_⟩⟩
    rcases h with h | h | ⟨h1, h2, aO, capO, gl, rfl, hO, hg⟩
    · exact .inl h
    · exact .inr (.inl h)
    · exact .inr (.inr ⟨h1, h2, aO, capO, gl, rfl, Rds.of_ownS hO hm, hg.mono hJ'⟩)
  · rintro v J S' hJ ⟨rfl, h⟩
    exact ⟨[chD], Drop.pick [0] _ rfl, rfl, h⟩
  refine Tri.drop ?_ (fun _ _ _ _ h => h)
  obtain ⟨s1, s2, s3, s4⟩ := s
  refine Tri.of (args := [.pointer (some ⟨bD, 0, none⟩), x.v, (⟨s1, s2, s3, s4⟩ : Sup).v]) tabOk Try.func36 rfl (by kernel_rfl) (by kernel_rfl) ?_
  conv => whnf
  intro b4
  conv => whnf
  intro b5
  refine Tri.frame1 0 rfl (dk_Size hD) ?_
  rintro v J S' hJ ⟨rfl, rfl, rfl⟩
  refine ⟨_, rfl, ?_⟩
  refine CmpD.no (by omega) ?_
  repeat (first
    | refine LoadD.own 0 rfl _ rfl rfl ?_
    | refine LoadD.own 1 rfl _ rfl rfl ?_
    | refine LoadD.own 2 rfl _ rfl rfl ?_
    | refine LoadP.at 0 rfl _ rfl rfl ?_
    | refine LoadP.at 1 rfl _ rfl rfl ?_
    | refine LoadP.at 2 rfl _ rfl rfl ?_
    | refine StoreD.st 0 rfl rfl rfl ?_
    | refine StoreD.st 1 rfl rfl rfl ?_
    | refine StoreD.st 2 rfl rfl rfl ?_
    | refine CmpD.yes rfl ?_
    | refine CmpD.yes (by decide) ?_
    | refine CmpD.no (by decide) ?_
    | refine Chk.mk ⟨rfl, trivial⟩ ?_
    | refine Chk.mk ⟨rfl, rfl, trivial⟩ ?_
    | refine Chk.mk ⟨rfl, rfl, rfl, trivial⟩ ?_
    | refine Chk.mk ⟨rfl, rfl, rfl, rfl, trivial⟩ ?_
    | refine Chk.mk ⟨rfl, rfl, rfl, rfl, rfl, trivial⟩ ?_
    | refine Chk.mk ⟨rfl, rfl, rfl, rfl, rfl, rfl, trivial⟩ ?_)
  refine Tri.frame1 0 rfl (dk_Size hD) ?_
  rintro v J S' hJ ⟨rfl, rfl, rfl⟩
  refine ⟨_, rfl, ?_⟩
  repeat (first
    | refine LoadD.own 0 rfl _ rfl rfl ?_
    | refine LoadD.own 1 rfl _ rfl rfl ?_
    | refine LoadD.own 2 rfl _ rfl rfl ?_
    | refine LoadP.at 0 rfl _ rfl rfl ?_
    | refine LoadP.at 1 rfl _ rfl rfl ?_
    | refine LoadP.at 2 rfl _ rfl rfl ?_
    | refine StoreD.st 0 rfl rfl rfl ?_
    | refine StoreD.st 1 rfl rfl rfl ?_
    | refine StoreD.st 2 rfl rfl rfl ?_
    | refine CmpD.yes rfl ?_
    | refine CmpD.yes (by decide) ?_
    | refine CmpD.no (by decide) ?_
    | refine Chk.mk ⟨rfl, trivial⟩ ?_
    | refine Chk.mk ⟨rfl, rfl, trivial⟩ ?_
    | refine Chk.mk ⟨rfl, rfl, rfl, trivial⟩ ?_
    | refine Chk.mk ⟨rfl, rfl, rfl, rfl, trivial⟩ ?_
    | refine Chk.mk ⟨rfl, rfl, rfl, rfl, rfl, trivial⟩ ?_
    | refine Chk.mk ⟨rfl, rfl, rfl, rfl, rfl, rfl, trivial⟩ ?_)
  obtain ⟨n, hn⟩ : ∃ n, n = d.now.length := ⟨_, rfl⟩
  rw [← hn] at hr ⊢
  refine Tri.free (layout_Of n I) ?_
  rintro v J _ hJ ⟨rfl, rfl⟩
  have badS : ∀ (J : Imm) (S : St), Drop S [chD] → ¬ ScanOk n x ⟨s1, s2, s3, s4⟩ → ∃ S'', Drop S S'' ∧ ∃ chO, S'' = [chD, chO] ∧
      ((¬ ScanOk n x ⟨s1, s2, s3, s4⟩ ∧ Value.tuple #[.slice none 0 0, .int .i64 0, .int .i64 2] = .tuple #[.slice none 0 0, .int .i64 0, .int .i64 2]) ∨
       (ScanOk n x ⟨s1, s2, s3, s4⟩ ∧ d.down = true ∧ Value.tuple #[.slice none 0 0, .int .i64 0, .int .i64 2] = .tuple #[.slice none 0 0, .int .i64 0, .int .i64 6]) ∨
       (ScanOk n x ⟨s1, s2, s3, s4⟩ ∧ d.down = false ∧ ∃ aO capO gl, Value.tuple #[.slice none 0 0, .int .i64 0, .int .i64 2] = .tuple #[.slice aO gl.length capO, .int .i64 (placeP (layL n).toNat s4.toNat (scanL d ⟨s1, s2, s3, s4⟩) : Nat), .int .i64 0] ∧ OwnC chO 3 aO gl.length capO (grpCells gl) ∧ GrpsOk J gl (scanL d ⟨s1, s2, s3, s4⟩))) :=
    fun J S hd hno => ⟨[chD, []], hd.and, [], rfl, .inl ⟨hno, rfl⟩⟩
  by_cases hb : (n : Int) < 64 ∨ 512 < (n : Int)
  · rw [layA, if_pos hb]
    conv => whnf
    intro b9
    repeat (first
      | refine LoadD.own 0 rfl _ rfl rfl ?_
      | refine LoadD.own 1 rfl _ rfl rfl ?_
      | refine LoadD.own 2 rfl _ rfl rfl ?_
      | refine LoadD.own 3 rfl _ rfl rfl ?_
      | refine LoadP.at 0 rfl _ rfl rfl ?_
      | refine LoadP.at 1 rfl _ rfl rfl ?_
      | refine LoadP.at 2 rfl _ rfl rfl ?_
      | refine LoadP.at 3 rfl _ rfl rfl ?_
      | refine StoreD.st 0 rfl rfl rfl ?_
      | refine StoreD.st 1 rfl rfl rfl ?_
      | refine StoreD.st 2 rfl rfl rfl ?_
      | refine StoreD.st 3 rfl rfl rfl ?_
      | refine CmpD.yes rfl ?_
      | refine CmpD.yes (by decide) ?_
      | refine CmpD.no (by decide) ?_
      | refine Chk.mk ⟨rfl, trivial⟩ ?_
      | refine Chk.mk ⟨rfl, rfl, trivial⟩ ?_
      | refine Chk.mk ⟨rfl, rfl, rfl, trivial⟩ ?_
      | refine Chk.mk ⟨rfl, rfl, rfl, rfl, trivial⟩ ?_
      | refine Chk.mk ⟨rfl, rfl, rfl, rfl, rfl, trivial⟩ ?_
      | refine Chk.mk ⟨rfl, rfl, rfl, rfl, rfl, rfl, trivial⟩ ?_)
    refine CodeF.sched [[], [0], [0, 1], [0, 1, 2], [0, 1, 2], [0, 1, 2, 3, 4], [0, 1, 2, 3, 4, 5], [0, 1, 2, 3, 4, 5, 6], [0, 1, 2, 3, 4, 5, 6, 7], [0, 1, 2, 3, 4, 5, 6, 7, 8], [0, 1, 2, 3, 4, 5, 6, 7], [0, 1, 2, 3, 4, 5, 6, 7, 10], [0, 1, 2, 3, 4, 5, 6, 7, 8, 9, 10, 11], [0, 1, 2, 3, 4, 5, 6, 7, 8, 9, 10, 11, 12], [0, 1, 2, 3, 4, 5, 6, 7, 8, 9, 10, 11, 12, 13], [0, 1, 2, 3, 4, 5, 6, 7, 8, 9, 10, 11, 12, 13, 14], [0, 1, 2, 3, 4, 5, 6, 7, 8, 9, 10, 11, 12, 13, 14, 15], [0, 1, 2, 3, 4, 5, 6, 7, 8, 9, 10, 11, 12, 13, 14, 15, 16], [0, 1, 2, 3, 4, 5, 6, 7, 8, 9, 10, 11, 12, 13, 14, 15, 16, 17], [0, 1, 2, 3, 4, 5, 6, 7, 8, 9, 10, 11, 12, 13, 14, 15, 16, 17, 18], [0, 1, 2, 3, 4, 5, 6, 7, 8, 9, 10, 11, 12, 13, 14, 15, 16, 17, 18, 19], [0, 1, 2, 3, 4, 5, 6, 7, 8, 9, 10, 11, 12, 13, 14, 15, 16, 17, 18, 19, 20], [0, 1, 2, 3, 4, 5, 6, 7, 8, 9, 10, 11, 12, 13, 14, 15, 16, 17, 18, 19], [0, 1, 2, 3, 4, 5, 6, 7, 8, 9, 10, 11, 12, 13, 14, 15, 16, 17, 18, 19, 22], [0, 1, 2, 3, 4, 5, 6, 7, 8, 9, 10, 11, 12, 13, 14, 15, 16, 17, 18, 19, 20, 21, 22, 23], [0, 1, 2, 3, 4, 5, 6, 7, 8, 9, 10, 11, 12, 13, 14, 15, 16, 17, 18, 19, 20, 21, 22, 23, 24], [0, 1, 2, 3, 4, 5, 6, 7, 8, 9, 10, 11, 12, 13, 14, 15, 16, 17, 18, 19, 20, 21, 22, 23, 24, 25], [0, 1, 2, 3, 4, 5, 6, 7, 8, 9, 10, 11, 12, 13, 14, 15, 16, 17, 18, 19, 20, 21, 22, 23, 24, 25, 26], [0, 1, 2, 3, 4, 5, 6, 7, 8, 9, 10, 11, 12, 13, 14, 15, 16, 17, 18, 19, 20, 21, 22, 23, 24, 25, 26, 27], [0, 1, 2, 3, 4, 5, 6, 7, 8, 9, 10, 11, 12, 13, 14, 15, 16, 17, 18, 19, 20, 21, 22, 23, 24, 25, 26, 27, 28], [0, 1, 2, 3, 4, 5, 6, 7, 8, 9, 10, 11, 12, 13, 14, 15, 16, 17, 18, 19, 20, 21, 22, 23, 24, 25, 26, 27, 28, 29], [0, 1, 2, 3, 4, 5, 6, 7, 8, 9, 10, 11, 12, 13, 14, 15, 16, 17, 18, 19, 20, 21, 22, 23, 24, 25, 26, 27, 28, 29, 30], [0, 1, 2, 3, 4, 5, 6, 7, 8, 9, 10, 11, 12, 13, 14, 15, 16, 17, 18, 19, 20, 21, 22, 23, 24, 25, 26, 27, 28, 29, 30, 31], [0, 1, 2, 3, 4, 5, 6, 7, 8, 9, 10, 11, 12, 13, 14, 15, 16, 17, 18, 19, 20, 21, 22, 23, 24, 25, 26, 27, 28, 29, 30, 31, 32], [0, 1, 2, 3, 4, 5, 6, 7, 8, 9, 10, 11, 12, 13, 14, 15, 16, 17, 18, 19, 20, 21, 22, 23, 24, 25, 26, 27, 28, 29, 30, 31, 32, 33], [0, 1, 2, 3, 4, 5, 6, 7, 8, 9, 10, 11, 12, 13, 14, 15, 16, 17, 18, 19, 20, 21, 22, 23, 24, 25, 26, 27, 28, 29, 30, 31, 32, 33, 34], [0, 1, 2, 3, 4, 5, 6, 7, 8, 9, 10, 11, 12, 13, 14, 15, 16, 17, 18, 19, 20, 21, 22, 23, 24, 25, 26, 27, 28, 29, 30, 31, 32, 33, 34, 35], [0, 1, 2, 3, 4, 5, 6, 7, 8, 9, 10, 11, 12, 13, 14, 15, 16, 17, 18, 19, 20, 21, 22, 23, 24, 25, 26, 27, 28, 29, 30, 31, 32, 33, 34, 35, 36], [0, 1, 2, 3, 4, 5, 6, 7, 8, 9, 10, 11, 12, 13, 14, 15, 16, 17, 18, 19, 20, 21, 22, 23, 24, 25, 26, 27, 28, 29, 30, 31, 32, 33, 34, 35, 36, 37], [0, 1, 2, 3, 4, 5, 6, 7, 8, 9, 10, 11, 12, 13, 14, 15, 16, 17, 18, 19, 20, 21, 22, 23, 24, 25, 26, 27, 28, 29, 30, 31, 32, 33, 34, 35, 36, 37, 38], [0, 1, 2, 3, 4, 5, 6, 7, 8, 9, 10, 11, 12, 13, 14, 15, 16, 17, 18, 19, 20, 21, 22, 23, 24, 25, 26, 27, 28, 29, 30, 31, 32, 33, 34, 35, 36, 37, 38, 39], [0, 1, 2, 3, 4, 5, 6, 7, 8, 9, 10, 11, 12, 13, 14, 15, 16, 17, 18, 19, 20, 21, 22, 23, 24, 25, 26, 27, 28, 29, 30, 31, 32, 33, 34, 35, 36, 37, 38, 39, 40], [0, 1, 2, 3, 4, 5, 6, 7, 8, 9, 10, 11, 12, 13, 14, 15, 16, 17, 18, 19, 20, 21, 22, 23, 24, 25, 26, 27, 28, 29, 30, 31, 32, 33, 34, 35, 36, 37, 38, 39, 40, 41], [0, 1, 2, 3, 4, 5, 6, 7, 8, 9, 10, 11, 12, 13, 14, 15, 16, 17, 18, 19, 20, 21, 22, 23, 24, 25, 26, 27, 28, 29, 30, 31, 32, 33, 34, 35, 36, 37, 38, 39, 40, 41, 42], [0, 1, 2, 3, 4, 5, 6, 7, 8, 9, 10, 11, 12, 13, 14, 15, 16, 17, 18, 19, 20, 21, 22, 23, 24, 25, 26, 27, 28, 29, 30, 31, 32, 33, 34, 35, 36, 37, 38, 39, 40, 41, 42, 43], [0, 1, 2, 3, 4, 5, 6, 7, 8, 9, 10, 11, 12, 13, 14, 15, 16, 17, 18, 19, 20, 21, 22, 23, 24, 25, 26, 27, 28, 29, 30, 31, 32, 33, 34, 35, 36, 37, 38, 39, 40, 41, 42, 43, 44]] [0, 1, 2, 3, 4, 5, 6, 7, 8, 9, 10, 11, 12, 13, 14, 15, 16, 17, 18, 19, 20, 21, 22, 23, 24, 25, 26, 27, 28, 29, 30, 31, 32, 33, 34, 35, 36, 37, 38, 39, 40, 41, 42, 43, 44, 45] (by kernel_rfl) ?_
    repeat (first
      | refine LoadD.own 0 rfl _ rfl rfl ?_
      | refine LoadD.own 1 rfl _ rfl rfl ?_
      | refine LoadD.own 2 rfl _ rfl rfl ?_
      | refine LoadD.own 3 rfl _ rfl rfl ?_
      | refine LoadP.at 0 rfl _ rfl rfl ?_
      | refine LoadP.at 1 rfl _ rfl rfl ?_
      | refine LoadP.at 2 rfl _ rfl rfl ?_
      | refine LoadP.at 3 rfl _ rfl rfl ?_
      | refine StoreD.st 0 rfl rfl rfl ?_
      | refine StoreD.st 1 rfl rfl rfl ?_
      | refine StoreD.st 2 rfl rfl rfl ?_
      | refine StoreD.st 3 rfl rfl rfl ?_
      | refine CmpD.yes rfl ?_
      | refine CmpD.yes (by decide) ?_
      | refine CmpD.no (by decide) ?_
      | refine Chk.mk ⟨rfl, trivial⟩ ?_
      | refine Chk.mk ⟨rfl, rfl, trivial⟩ ?_
      | refine Chk.mk ⟨rfl, rfl, rfl, trivial⟩ ?_
      | refine Chk.mk ⟨rfl, rfl, rfl, rfl, trivial⟩ ?_
      | refine Chk.mk ⟨rfl, rfl, rfl, rfl, rfl, trivial⟩ ?_
      | refine Chk.mk ⟨rfl, rfl, rfl, rfl, rfl, rfl, trivial⟩ ?_)
    exact Done.mk (badS _ _ (Drop.pick [0] _ rfl) (fun h => by have := h.1; omega))
  rw [layA, if_neg hb]
  have hL := layL_range (n := (n : Int)) (by omega)
  conv => whnf
  intro b9
  repeat (first
    | refine LoadD.own 0 rfl _ rfl rfl ?_
    | refine LoadD.own 1 rfl _ rfl rfl ?_
    | refine LoadD.own 2 rfl _ rfl rfl ?_
    | refine LoadD.own 3 rfl _ rfl rfl ?_
    | refine LoadP.at 0 rfl _ rfl rfl ?_
    | refine LoadP.at 1 rfl _ rfl rfl ?_
    | refine LoadP.at 2 rfl _ rfl rfl ?_
    | refine LoadP.at 3 rfl _ rfl rfl ?_
    | refine StoreD.st 0 rfl rfl rfl ?_
    | refine StoreD.st 1 rfl rfl rfl ?_
    | refine StoreD.st 2 rfl rfl rfl ?_
    | refine StoreD.st 3 rfl rfl rfl ?_
    | refine CmpD.yes rfl ?_
    | refine CmpD.yes (by decide) ?_
    | refine CmpD.no (by decide) ?_
    | refine Chk.mk ⟨rfl, trivial⟩ ?_
    | refine Chk.mk ⟨rfl, rfl, trivial⟩ ?_
    | refine Chk.mk ⟨rfl, rfl, rfl, trivial⟩ ?_
    | refine Chk.mk ⟨rfl, rfl, rfl, rfl, trivial⟩ ?_
    | refine Chk.mk ⟨rfl, rfl, rfl, rfl, rfl, trivial⟩ ?_
    | refine Chk.mk ⟨rfl, rfl, rfl, rfl, rfl, rfl, trivial⟩ ?_)
  refine CodeF.sched [[], [0], [0, 1], [0, 1, 2], [0, 1, 2], [0, 1, 2, 3, 4], [0, 1, 2, 3, 4, 5], [0, 1, 2, 3, 4, 5, 6], [0, 1, 2, 3, 4, 5, 6, 7], [0, 1, 2, 3, 4, 5, 6, 7, 8], [0, 1, 2, 3, 4, 5, 6, 7], [0, 1, 2, 3, 4, 5, 6, 7, 10], [0, 1, 2, 3, 4, 5, 6, 7, 8, 9, 10, 11], [0, 1, 2, 3, 4, 5, 6, 7, 8, 9, 10, 11, 12], [0, 1, 2, 3, 4, 5, 6, 7, 8, 9, 10, 11, 12, 13], [0, 1, 2, 3, 4, 5, 6, 7, 8, 9, 10, 11, 12, 13, 14], [0, 1, 2, 3, 4, 5, 6, 7, 8, 9, 10, 11, 12, 13, 14, 15], [0, 1, 2, 3, 4, 5, 6, 7, 8, 9, 10, 11, 12, 13, 14, 15, 16], [0, 1, 2, 3, 4, 5, 6, 7, 8, 9, 10, 11, 12, 13, 14, 15, 16, 17], [0, 1, 2, 3, 4, 5, 6, 7, 8, 9, 10, 11, 12, 13, 14, 15, 16, 17, 18], [0, 1, 2, 3, 4, 5, 6, 7, 8, 9, 10, 11, 12, 13, 14, 15, 16, 17, 18, 19], [0, 1, 2, 3, 4, 5, 6, 7, 8, 9, 10, 11, 12, 13, 14, 15, 16, 17, 18, 19, 20], [0, 1, 2, 3, 4, 5, 6, 7, 8, 9, 10, 11, 12, 13, 14, 15, 16, 17, 18, 19], [0, 1, 2, 3, 4, 5, 6, 7, 8, 9, 10, 11, 12, 13, 14, 15, 16, 17, 18, 19, 22], [0, 1, 2, 3, 4, 5, 6, 7, 8, 9, 10, 11, 12, 13, 14, 15, 16, 17, 18, 19, 20, 21, 22, 23], [0, 1, 2, 3, 4, 5, 6, 7, 8, 9, 10, 11, 12, 13, 14, 15, 16, 17, 18, 19, 20, 21, 22, 23, 24], [0, 1, 2, 3, 4, 5, 6, 7, 8, 9, 10, 11, 12, 13, 14, 15, 16, 17, 18, 19, 20, 21, 22, 23, 24, 25], [0, 1, 2, 3, 4, 5, 6, 7, 8, 9, 10, 11, 12, 13, 14, 15, 16, 17, 18, 19, 20, 21, 22, 23, 24, 25, 26], [0, 1, 2, 3, 4, 5, 6, 7, 8, 9, 10, 11, 12, 13, 14, 15, 16, 17, 18, 19, 20, 21, 22, 23, 24, 25, 26, 27], [0, 1, 2, 3, 4, 5, 6, 7, 8, 9, 10, 11, 12, 13, 14, 15, 16, 17, 18, 19, 20, 21, 22, 23, 24, 25, 26, 27, 28], [0, 1, 2, 3, 4, 5, 6, 7, 8, 9, 10, 11, 12, 13, 14, 15, 16, 17, 18, 19, 20, 21, 22, 23, 24, 25, 26, 27, 28, 29], [0, 1, 2, 3, 4, 5, 6, 7, 8, 9, 10, 11, 12, 13, 14, 15, 16, 17, 18, 19, 20, 21, 22, 23, 24, 25, 26, 27, 28, 29, 30], [0, 1, 2, 3, 4, 5, 6, 7, 8, 9, 10, 11, 12, 13, 14, 15, 16, 17, 18, 19, 20, 21, 22, 23, 24, 25, 26, 27, 28, 29, 30, 31], [0, 1, 2, 3, 4, 5, 6, 7, 8, 9, 10, 11, 12, 13, 14, 15, 16, 17, 18, 19, 20, 21, 22, 23, 24, 25, 26, 27, 28, 29, 30, 31, 32], [0, 1, 2, 3, 4, 5, 6, 7, 8, 9, 10, 11, 12, 13, 14, 15, 16, 17, 18, 19, 20, 21, 22, 23, 24, 25, 26, 27, 28, 29, 30, 31, 32, 33], [0, 1, 2, 3, 4, 5, 6, 7, 8, 9, 10, 11, 12, 13, 14, 15, 16, 17, 18, 19, 20, 21, 22, 23, 24, 25, 26, 27, 28, 29, 30, 31, 32, 33, 34], [0, 1, 2, 3, 4, 5, 6, 7, 8, 9, 10, 11, 12, 13, 14, 15, 16, 17, 18, 19, 20, 21, 22, 23, 24, 25, 26, 27, 28, 29, 30, 31, 32, 33, 34, 35], [0, 1, 2, 3, 4, 5, 6, 7, 8, 9, 10, 11, 12, 13, 14, 15, 16, 17, 18, 19, 20, 21, 22, 23, 24, 25, 26, 27, 28, 29, 30, 31, 32, 33, 34, 35, 36], [0, 1, 2, 3, 4, 5, 6, 7, 8, 9, 10, 11, 12, 13, 14, 15, 16, 17, 18, 19, 20, 21, 22, 23, 24, 25, 26, 27, 28, 29, 30, 31, 32, 33, 34, 35, 36, 37], [0, 1, 2, 3, 4, 5, 6, 7, 8, 9, 10, 11, 12, 13, 14, 15, 16, 17, 18, 19, 20, 21, 22, 23, 24, 25, 26, 27, 28, 29, 30, 31, 32, 33, 34, 35, 36, 37, 38], [0, 1, 2, 3, 4, 5, 6, 7, 8, 9, 10, 11, 12, 13, 14, 15, 16, 17, 18, 19, 20, 21, 22, 23, 24, 25, 26, 27, 28, 29, 30, 31, 32, 33, 34, 35, 36, 37, 38, 39], [0, 1, 2, 3, 4, 5, 6, 7, 8, 9, 10, 11, 12, 13, 14, 15, 16, 17, 18, 19, 20, 21, 22, 23, 24, 25, 26, 27, 28, 29, 30, 31, 32, 33, 34, 35, 36, 37, 38, 39, 40], [0, 1, 2, 3, 4, 5, 6, 7, 8, 9, 10, 11, 12, 13, 14, 15, 16, 17, 18, 19, 20, 21, 22, 23, 24, 25, 26, 27, 28, 29, 30, 31, 32, 33, 34, 35, 36, 37, 38, 39, 40, 41], [0, 1, 2, 3, 4, 5, 6, 7, 8, 9, 10, 11, 12, 13, 14, 15, 16, 17, 18, 19, 20, 21, 22, 23, 24, 25, 26, 27, 28, 29, 30, 31, 32, 33, 34, 35, 36, 37, 38, 39, 40, 41, 42], [0, 1, 2, 3, 4, 5, 6, 7, 8, 9, 10, 11, 12, 13, 14, 15, 16, 17, 18, 19, 20, 21, 22, 23, 24, 25, 26, 27, 28, 29, 30, 31, 32, 33, 34, 35, 36, 37, 38, 39, 40, 41, 42, 43], [0, 1, 2, 3, 4, 5, 6, 7, 8, 9, 10, 11, 12, 13, 14, 15, 16, 17, 18, 19, 20, 21, 22, 23, 24, 25, 26, 27, 28, 29, 30, 31, 32, 33, 34, 35, 36, 37, 38, 39, 40, 41, 42, 43, 44]] [0, 1, 2, 3, 4, 5, 6, 7, 8, 9, 10, 11, 12, 13, 14, 15, 16, 17, 18, 19, 20, 21, 22, 23, 24, 25, 26, 27, 28, 29, 30, 31, 32, 33, 34, 35, 36, 37, 38, 39, 40, 41, 42, 43, 44, 45] (by kernel_rfl) ?_
  repeat (first
    | refine LoadD.own 0 rfl _ rfl rfl ?_
    | refine LoadD.own 1 rfl _ rfl rfl ?_
    | refine LoadD.own 2 rfl _ rfl rfl ?_
    | refine LoadD.own 3 rfl _ rfl rfl ?_
    | refine LoadP.at 0 rfl _ rfl rfl ?_
    | refine LoadP.at 1 rfl _ rfl rfl ?_
    | refine LoadP.at 2 rfl _ rfl rfl ?_
    | refine LoadP.at 3 rfl _ rfl rfl ?_
    | refine StoreD.st 0 rfl rfl rfl ?_
    | refine StoreD.st 1 rfl rfl rfl ?_
    | refine StoreD.st 2 rfl rfl rfl ?_
    | refine StoreD.st 3 rfl rfl rfl ?_
    | refine CmpD.yes rfl ?_
    | refine CmpD.yes (by decide) ?_
    | refine CmpD.no (by decide) ?_
    | refine Chk.mk ⟨rfl, trivial⟩ ?_
    | refine Chk.mk ⟨rfl, rfl, trivial⟩ ?_
    | refine Chk.mk ⟨rfl, rfl, rfl, trivial⟩ ?_
    | refine Chk.mk ⟨rfl, rfl, rfl, rfl, trivial⟩ ?_
    | refine Chk.mk ⟨rfl, rfl, rfl, rfl, rfl, trivial⟩ ?_
    | refine Chk.mk ⟨rfl, rfl, rfl, rfl, rfl, rfl, trivial⟩ ?_)
  refine lay_cmp (layOf n) x rfl (.inr rfl) rfl rfl ?_
  refine CmpD.split (fun c1 => ?_) (fun c1 => ?_)
  rotate_left
  · repeat (first
      | refine LoadD.own 0 rfl _ rfl rfl ?_
      | refine LoadD.own 1 rfl _ rfl rfl ?_
      | refine LoadD.own 2 rfl _ rfl rfl ?_
      | refine LoadD.own 3 rfl _ rfl rfl ?_
      | refine LoadP.at 0 rfl _ rfl rfl ?_
      | refine LoadP.at 1 rfl _ rfl rfl ?_
      | refine LoadP.at 2 rfl _ rfl rfl ?_
      | refine LoadP.at 3 rfl _ rfl rfl ?_
      | refine StoreD.st 0 rfl rfl rfl ?_
      | refine StoreD.st 1 rfl rfl rfl ?_
      | refine StoreD.st 2 rfl rfl rfl ?_
      | refine StoreD.st 3 rfl rfl rfl ?_
      | refine CmpD.yes rfl ?_
      | refine CmpD.yes (by decide) ?_
      | refine CmpD.no (by decide) ?_
      | refine Chk.mk ⟨rfl, trivial⟩ ?_
      | refine Chk.mk ⟨rfl, rfl, trivial⟩ ?_
      | refine Chk.mk ⟨rfl, rfl, rfl, trivial⟩ ?_
      | refine Chk.mk ⟨rfl, rfl, rfl, rfl, trivial⟩ ?_
      | refine Chk.mk ⟨rfl, rfl, rfl, rfl, rfl, trivial⟩ ?_
      | refine Chk.mk ⟨rfl, rfl, rfl, rfl, rfl, rfl, trivial⟩ ?_)
    refine Done.mk (badS _ _ (Drop.pick [0] _ rfl) (fun h => c1 ?_))
    rw [← h.2.1]
  have hx : x = layOf n := by
    simp only [List.cons.injEq, and_true] at c1
    obtain ⟨q1, q2, q3, q4, q5, q6, q7⟩ := c1
    obtain ⟨x1, x2, x3, x4, x5, x6, x7⟩ := x
    dsimp only at q1 q2 q3 q4 q5 q6 q7 ⊢
    rw [Lay.mk.injEq]
    exact ⟨q1.symm, q2.symm, q3.symm, q4.symm, q5.symm, q6.symm, q7.symm⟩
  have hxl : x.lb = layL n := by rw [hx]; rfl
  repeat (first
    | refine LoadD.own 0 rfl _ rfl rfl ?_
    | refine LoadD.own 1 rfl _ rfl rfl ?_
    | refine LoadD.own 2 rfl _ rfl rfl ?_
    | refine LoadD.own 3 rfl _ rfl rfl ?_
    | refine LoadP.at 0 rfl _ rfl rfl ?_
    | refine LoadP.at 1 rfl _ rfl rfl ?_
    | refine LoadP.at 2 rfl _ rfl rfl ?_
    | refine LoadP.at 3 rfl _ rfl rfl ?_
    | refine StoreD.st 0 rfl rfl rfl ?_
    | refine StoreD.st 1 rfl rfl rfl ?_
    | refine StoreD.st 2 rfl rfl rfl ?_
    | refine StoreD.st 3 rfl rfl rfl ?_
    | refine CmpD.yes rfl ?_
    | refine CmpD.yes (by decide) ?_
    | refine CmpD.no (by decide) ?_
    | refine Chk.mk ⟨rfl, trivial⟩ ?_
    | refine Chk.mk ⟨rfl, rfl, trivial⟩ ?_
    | refine Chk.mk ⟨rfl, rfl, rfl, trivial⟩ ?_
    | refine Chk.mk ⟨rfl, rfl, rfl, rfl, trivial⟩ ?_
    | refine Chk.mk ⟨rfl, rfl, rfl, rfl, rfl, trivial⟩ ?_
    | refine Chk.mk ⟨rfl, rfl, rfl, rfl, rfl, rfl, trivial⟩ ?_)
  refine Tri.frame1 0 rfl (dk_Size hD) ?_
  rintro v J S' hJ ⟨rfl, rfl, rfl⟩
  refine ⟨_, rfl, ?_⟩
  rw [← hn]
  repeat (first
    | refine LoadD.own 0 rfl _ rfl rfl ?_
    | refine LoadD.own 1 rfl _ rfl rfl ?_
    | refine LoadD.own 2 rfl _ rfl rfl ?_
    | refine LoadD.own 3 rfl _ rfl rfl ?_
    | refine LoadP.at 0 rfl _ rfl rfl ?_
    | refine LoadP.at 1 rfl _ rfl rfl ?_
    | refine LoadP.at 2 rfl _ rfl rfl ?_
    | refine LoadP.at 3 rfl _ rfl rfl ?_
    | refine StoreD.st 0 rfl rfl rfl ?_
    | refine StoreD.st 1 rfl rfl rfl ?_
    | refine StoreD.st 2 rfl rfl rfl ?_
    | refine StoreD.st 3 rfl rfl rfl ?_
    | refine CmpD.yes rfl ?_
    | refine CmpD.yes (by decide) ?_
    | refine CmpD.no (by decide) ?_
    | refine Chk.mk ⟨rfl, trivial⟩ ?_
    | refine Chk.mk ⟨rfl, rfl, trivial⟩ ?_
    | refine Chk.mk ⟨rfl, rfl, rfl, trivial⟩ ?_
    | refine Chk.mk ⟨rfl, rfl, rfl, rfl, trivial⟩ ?_
    | refine Chk.mk ⟨rfl, rfl, rfl, rfl, rfl, trivial⟩ ?_
    | refine Chk.mk ⟨rfl, rfl, rfl, rfl, rfl, rfl, trivial⟩ ?_)
  refine CmpD.split (fun (c2 : s1 = (n : Int)) => ?_) (fun (c2 : ¬ (s1 = (n : Int))) => ?_)
  rotate_left
  · repeat (first
      | refine LoadD.own 0 rfl _ rfl rfl ?_
      | refine LoadD.own 1 rfl _ rfl rfl ?_
      | refine LoadD.own 2 rfl _ rfl rfl ?_
      | refine LoadD.own 3 rfl _ rfl rfl ?_
      | refine LoadP.at 0 rfl _ rfl rfl ?_
      | refine LoadP.at 1 rfl _ rfl rfl ?_
      | refine LoadP.at 2 rfl _ rfl rfl ?_
      | refine LoadP.at 3 rfl _ rfl rfl ?_
      | refine StoreD.st 0 rfl rfl rfl ?_
      | refine StoreD.st 1 rfl rfl rfl ?_
      | refine StoreD.st 2 rfl rfl rfl ?_
      | refine StoreD.st 3 rfl rfl rfl ?_
      | refine CmpD.yes rfl ?_
      | refine CmpD.yes (by decide) ?_
      | refine CmpD.no (by decide) ?_
      | refine Chk.mk ⟨rfl, trivial⟩ ?_
      | refine Chk.mk ⟨rfl, rfl, trivial⟩ ?_
      | refine Chk.mk ⟨rfl, rfl, rfl, trivial⟩ ?_
      | refine Chk.mk ⟨rfl, rfl, rfl, rfl, trivial⟩ ?_
      | refine Chk.mk ⟨rfl, rfl, rfl, rfl, rfl, trivial⟩ ?_
      | refine Chk.mk ⟨rfl, rfl, rfl, rfl, rfl, rfl, trivial⟩ ?_)
    exact Done.mk (badS _ _ (Drop.pick [0] _ rfl) (fun h => c2 h.2.2.1))
  repeat (first
    | refine LoadD.own 0 rfl _ rfl rfl ?_
    | refine LoadD.own 1 rfl _ rfl rfl ?_
    | refine LoadD.own 2 rfl _ rfl rfl ?_
    | refine LoadD.own 3 rfl _ rfl rfl ?_
    | refine LoadP.at 0 rfl _ rfl rfl ?_
    | refine LoadP.at 1 rfl _ rfl rfl ?_
    | refine LoadP.at 2 rfl _ rfl rfl ?_
    | refine LoadP.at 3 rfl _ rfl rfl ?_
    | refine StoreD.st 0 rfl rfl rfl ?_
    | refine StoreD.st 1 rfl rfl rfl ?_
    | refine StoreD.st 2 rfl rfl rfl ?_
    | refine StoreD.st 3 rfl rfl rfl ?_
    | refine CmpD.yes rfl ?_
    | refine CmpD.yes (by decide) ?_
    | refine CmpD.no (by decide) ?_
    | refine Chk.mk ⟨rfl, trivial⟩ ?_
    | refine Chk.mk ⟨rfl, rfl, trivial⟩ ?_
    | refine Chk.mk ⟨rfl, rfl, rfl, trivial⟩ ?_
    | refine Chk.mk ⟨rfl, rfl, rfl, rfl, trivial⟩ ?_
    | refine Chk.mk ⟨rfl, rfl, rfl, rfl, rfl, trivial⟩ ?_
    | refine Chk.mk ⟨rfl, rfl, rfl, rfl, rfl, rfl, trivial⟩ ?_)
  refine CmpD.split (fun (c3 : s4 < 0) => ?_) (fun (c3 : ¬ (s4 < 0)) => ?_)
  · repeat (first
      | refine LoadD.own 0 rfl _ rfl rfl ?_
      | refine LoadD.own 1 rfl _ rfl rfl ?_
      | refine LoadD.own 2 rfl _ rfl rfl ?_
      | refine LoadD.own 3 rfl _ rfl rfl ?_
      | refine LoadP.at 0 rfl _ rfl rfl ?_
      | refine LoadP.at 1 rfl _ rfl rfl ?_
      | refine LoadP.at 2 rfl _ rfl rfl ?_
      | refine LoadP.at 3 rfl _ rfl rfl ?_
      | refine StoreD.st 0 rfl rfl rfl ?_
      | refine StoreD.st 1 rfl rfl rfl ?_
      | refine StoreD.st 2 rfl rfl rfl ?_
      | refine StoreD.st 3 rfl rfl rfl ?_
      | refine CmpD.yes rfl ?_
      | refine CmpD.yes (by decide) ?_
      | refine CmpD.no (by decide) ?_
      | refine Chk.mk ⟨rfl, trivial⟩ ?_
      | refine Chk.mk ⟨rfl, rfl, trivial⟩ ?_
      | refine Chk.mk ⟨rfl, rfl, rfl, trivial⟩ ?_
      | refine Chk.mk ⟨rfl, rfl, rfl, rfl, trivial⟩ ?_
      | refine Chk.mk ⟨rfl, rfl, rfl, rfl, rfl, trivial⟩ ?_
      | refine Chk.mk ⟨rfl, rfl, rfl, rfl, rfl, rfl, trivial⟩ ?_)
    exact Done.mk (badS _ _ (Drop.pick [0] _ rfl) (fun h => by have : 0 ≤ s4 := h.2.2.2.1; omega))
  repeat (first
    | refine LoadD.own 0 rfl _ rfl rfl ?_
    | refine LoadD.own 1 rfl _ rfl rfl ?_
    | refine LoadD.own 2 rfl _ rfl rfl ?_
    | refine LoadD.own 3 rfl _ rfl rfl ?_
    | refine LoadP.at 0 rfl _ rfl rfl ?_
    | refine LoadP.at 1 rfl _ rfl rfl ?_
    | refine LoadP.at 2 rfl _ rfl rfl ?_
    | refine LoadP.at 3 rfl _ rfl rfl ?_
    | refine StoreD.st 0 rfl rfl rfl ?_
    | refine StoreD.st 1 rfl rfl rfl ?_
    | refine StoreD.st 2 rfl rfl rfl ?_
    | refine StoreD.st 3 rfl rfl rfl ?_
    | refine CmpD.yes rfl ?_
    | refine CmpD.yes (by decide) ?_
    | refine CmpD.no (by decide) ?_
    | refine Chk.mk ⟨rfl, trivial⟩ ?_
    | refine Chk.mk ⟨rfl, rfl, trivial⟩ ?_
    | refine Chk.mk ⟨rfl, rfl, rfl, trivial⟩ ?_
    | refine Chk.mk ⟨rfl, rfl, rfl, rfl, trivial⟩ ?_
    | refine Chk.mk ⟨rfl, rfl, rfl, rfl, rfl, trivial⟩ ?_
    | refine Chk.mk ⟨rfl, rfl, rfl, rfl, rfl, rfl, trivial⟩ ?_)
  refine CmpD.split (fun (c4 : x.lb ≤ s4) => ?_) (fun (c4 : ¬ (x.lb ≤ s4)) => ?_)
  · repeat (first
      | refine LoadD.own 0 rfl _ rfl rfl ?_
      | refine LoadD.own 1 rfl _ rfl rfl ?_
      | refine LoadD.own 2 rfl _ rfl rfl ?_
      | refine LoadD.own 3 rfl _ rfl rfl ?_
      | refine LoadP.at 0 rfl _ rfl rfl ?_
      | refine LoadP.at 1 rfl _ rfl rfl ?_
      | refine LoadP.at 2 rfl _ rfl rfl ?_
      | refine LoadP.at 3 rfl _ rfl rfl ?_
      | refine StoreD.st 0 rfl rfl rfl ?_
      | refine StoreD.st 1 rfl rfl rfl ?_
      | refine StoreD.st 2 rfl rfl rfl ?_
      | refine StoreD.st 3 rfl rfl rfl ?_
      | refine CmpD.yes rfl ?_
      | refine CmpD.yes (by decide) ?_
      | refine CmpD.no (by decide) ?_
      | refine Chk.mk ⟨rfl, trivial⟩ ?_
      | refine Chk.mk ⟨rfl, rfl, trivial⟩ ?_
      | refine Chk.mk ⟨rfl, rfl, rfl, trivial⟩ ?_
      | refine Chk.mk ⟨rfl, rfl, rfl, rfl, trivial⟩ ?_
      | refine Chk.mk ⟨rfl, rfl, rfl, rfl, rfl, trivial⟩ ?_
      | refine Chk.mk ⟨rfl, rfl, rfl, rfl, rfl, rfl, trivial⟩ ?_)
    exact Done.mk (badS _ _ (Drop.pick [0] _ rfl) (fun h => by have : s4 < layL n := h.2.2.2.2.1; omega))
  repeat (first
    | refine LoadD.own 0 rfl _ rfl rfl ?_
    | refine LoadD.own 1 rfl _ rfl rfl ?_
    | refine LoadD.own 2 rfl _ rfl rfl ?_
    | refine LoadD.own 3 rfl _ rfl rfl ?_
    | refine LoadP.at 0 rfl _ rfl rfl ?_
    | refine LoadP.at 1 rfl _ rfl rfl ?_
    | refine LoadP.at 2 rfl _ rfl rfl ?_
    | refine LoadP.at 3 rfl _ rfl rfl ?_
    | refine StoreD.st 0 rfl rfl rfl ?_
    | refine StoreD.st 1 rfl rfl rfl ?_
    | refine StoreD.st 2 rfl rfl rfl ?_
    | refine StoreD.st 3 rfl rfl rfl ?_
    | refine CmpD.yes rfl ?_
    | refine CmpD.yes (by decide) ?_
    | refine CmpD.no (by decide) ?_
    | refine Chk.mk ⟨rfl, trivial⟩ ?_
    | refine Chk.mk ⟨rfl, rfl, trivial⟩ ?_
    | refine Chk.mk ⟨rfl, rfl, rfl, trivial⟩ ?_
    | refine Chk.mk ⟨rfl, rfl, rfl, rfl, trivial⟩ ?_
    | refine Chk.mk ⟨rfl, rfl, rfl, rfl, rfl, trivial⟩ ?_
    | refine Chk.mk ⟨rfl, rfl, rfl, rfl, rfl, rfl, trivial⟩ ?_)
  refine CmpD.split (fun (c5 : s2 < 1) => ?_) (fun (c5 : ¬ (s2 < 1)) => ?_)
  · repeat (first
      | refine LoadD.own 0 rfl _ rfl rfl ?_
      | refine LoadD.own 1 rfl _ rfl rfl ?_
      | refine LoadD.own 2 rfl _ rfl rfl ?_
      | refine LoadD.own 3 rfl _ rfl rfl ?_
      | refine LoadP.at 0 rfl _ rfl rfl ?_
      | refine LoadP.at 1 rfl _ rfl rfl ?_
      | refine LoadP.at 2 rfl _ rfl rfl ?_
      | refine LoadP.at 3 rfl _ rfl rfl ?_
      | refine StoreD.st 0 rfl rfl rfl ?_
      | refine StoreD.st 1 rfl rfl rfl ?_
      | refine StoreD.st 2 rfl rfl rfl ?_
      | refine StoreD.st 3 rfl rfl rfl ?_
      | refine CmpD.yes rfl ?_
      | refine CmpD.yes (by decide) ?_
      | refine CmpD.no (by decide) ?_
      | refine Chk.mk ⟨rfl, trivial⟩ ?_
      | refine Chk.mk ⟨rfl, rfl, trivial⟩ ?_
      | refine Chk.mk ⟨rfl, rfl, rfl, trivial⟩ ?_
      | refine Chk.mk ⟨rfl, rfl, rfl, rfl, trivial⟩ ?_
      | refine Chk.mk ⟨rfl, rfl, rfl, rfl, rfl, trivial⟩ ?_
      | refine Chk.mk ⟨rfl, rfl, rfl, rfl, rfl, rfl, trivial⟩ ?_)
    exact Done.mk (badS _ _ (Drop.pick [0] _ rfl) (fun h => by have : 1 ≤ s2 := h.2.2.2.2.2.1; omega))
  repeat (first
    | refine LoadD.own 0 rfl _ rfl rfl ?_
    | refine LoadD.own 1 rfl _ rfl rfl ?_
    | refine LoadD.own 2 rfl _ rfl rfl ?_
    | refine LoadD.own 3 rfl _ rfl rfl ?_
    | refine LoadP.at 0 rfl _ rfl rfl ?_
    | refine LoadP.at 1 rfl _ rfl rfl ?_
    | refine LoadP.at 2 rfl _ rfl rfl ?_
    | refine LoadP.at 3 rfl _ rfl rfl ?_
    | refine StoreD.st 0 rfl rfl rfl ?_
    | refine StoreD.st 1 rfl rfl rfl ?_
    | refine StoreD.st 2 rfl rfl rfl ?_
    | refine StoreD.st 3 rfl rfl rfl ?_
    | refine CmpD.yes rfl ?_
    | refine CmpD.yes (by decide) ?_
    | refine CmpD.no (by decide) ?_
    | refine Chk.mk ⟨rfl, trivial⟩ ?_
    | refine Chk.mk ⟨rfl, rfl, trivial⟩ ?_
    | refine Chk.mk ⟨rfl, rfl, rfl, trivial⟩ ?_
    | refine Chk.mk ⟨rfl, rfl, rfl, rfl, trivial⟩ ?_
    | refine Chk.mk ⟨rfl, rfl, rfl, rfl, rfl, trivial⟩ ?_
    | refine Chk.mk ⟨rfl, rfl, rfl, rfl, rfl, rfl, trivial⟩ ?_)
  refine CmpD.split (fun (c6 : (8388608 : Int) < s2) => ?_) (fun (c6 : ¬ ((8388608 : Int) < s2)) => ?_)
  · repeat (first
      | refine LoadD.own 0 rfl _ rfl rfl ?_
      | refine LoadD.own 1 rfl _ rfl rfl ?_
      | refine LoadD.own 2 rfl _ rfl rfl ?_
      | refine LoadD.own 3 rfl _ rfl rfl ?_
      | refine LoadP.at 0 rfl _ rfl rfl ?_
      | refine LoadP.at 1 rfl _ rfl rfl ?_
      | refine LoadP.at 2 rfl _ rfl rfl ?_
      | refine LoadP.at 3 rfl _ rfl rfl ?_
      | refine StoreD.st 0 rfl rfl rfl ?_
      | refine StoreD.st 1 rfl rfl rfl ?_
      | refine StoreD.st 2 rfl rfl rfl ?_
      | refine StoreD.st 3 rfl rfl rfl ?_
      | refine CmpD.yes rfl ?_
      | refine CmpD.yes (by decide) ?_
      | refine CmpD.no (by decide) ?_
      | refine Chk.mk ⟨rfl, trivial⟩ ?_
      | refine Chk.mk ⟨rfl, rfl, trivial⟩ ?_
      | refine Chk.mk ⟨rfl, rfl, rfl, trivial⟩ ?_
      | refine Chk.mk ⟨rfl, rfl, rfl, rfl, trivial⟩ ?_
      | refine Chk.mk ⟨rfl, rfl, rfl, rfl, rfl, trivial⟩ ?_
      | refine Chk.mk ⟨rfl, rfl, rfl, rfl, rfl, rfl, trivial⟩ ?_)
    exact Done.mk (badS _ _ (Drop.pick [0] _ rfl) (fun h => by have : s2 ≤ 8388608 := h.2.2.2.2.2.2.1; omega))
  repeat (first
    | refine LoadD.own 0 rfl _ rfl rfl ?_
    | refine LoadD.own 1 rfl _ rfl rfl ?_
    | refine LoadD.own 2 rfl _ rfl rfl ?_
    | refine LoadD.own 3 rfl _ rfl rfl ?_
    | refine LoadP.at 0 rfl _ rfl rfl ?_
    | refine LoadP.at 1 rfl _ rfl rfl ?_
    | refine LoadP.at 2 rfl _ rfl rfl ?_
    | refine LoadP.at 3 rfl _ rfl rfl ?_
    | refine StoreD.st 0 rfl rfl rfl ?_
    | refine StoreD.st 1 rfl rfl rfl ?_
    | refine StoreD.st 2 rfl rfl rfl ?_
    | refine StoreD.st 3 rfl rfl rfl ?_
    | refine CmpD.yes rfl ?_
    | refine CmpD.yes (by decide) ?_
    | refine CmpD.no (by decide) ?_
    | refine Chk.mk ⟨rfl, trivial⟩ ?_
    | refine Chk.mk ⟨rfl, rfl, trivial⟩ ?_
    | refine Chk.mk ⟨rfl, rfl, rfl, trivial⟩ ?_
    | refine Chk.mk ⟨rfl, rfl, rfl, rfl, trivial⟩ ?_
    | refine Chk.mk ⟨rfl, rfl, rfl, rfl, rfl, trivial⟩ ?_
    | refine Chk.mk ⟨rfl, rfl, rfl, rfl, rfl, rfl, trivial⟩ ?_)
  refine CmpD.split (fun (c7 : s3 < 1) => ?_) (fun (c7 : ¬ (s3 < 1)) => ?_)
  · repeat (first
      | refine LoadD.own 0 rfl _ rfl rfl ?_
      | refine LoadD.own 1 rfl _ rfl rfl ?_
      | refine LoadD.own 2 rfl _ rfl rfl ?_
      | refine LoadD.own 3 rfl _ rfl rfl ?_
      | refine LoadP.at 0 rfl _ rfl rfl ?_
      | refine LoadP.at 1 rfl _ rfl rfl ?_
      | refine LoadP.at 2 rfl _ rfl rfl ?_
      | refine LoadP.at 3 rfl _ rfl rfl ?_
      | refine StoreD.st 0 rfl rfl rfl ?_
      | refine StoreD.st 1 rfl rfl rfl ?_
      | refine StoreD.st 2 rfl rfl rfl ?_
      | refine StoreD.st 3 rfl rfl rfl ?_
      | refine CmpD.yes rfl ?_
      | refine CmpD.yes (by decide) ?_
      | refine CmpD.no (by decide) ?_
      | refine Chk.mk ⟨rfl, trivial⟩ ?_
      | refine Chk.mk ⟨rfl, rfl, trivial⟩ ?_
      | refine Chk.mk ⟨rfl, rfl, rfl, trivial⟩ ?_
      | refine Chk.mk ⟨rfl, rfl, rfl, rfl, trivial⟩ ?_
      | refine Chk.mk ⟨rfl, rfl, rfl, rfl, rfl, trivial⟩ ?_
      | refine Chk.mk ⟨rfl, rfl, rfl, rfl, rfl, rfl, trivial⟩ ?_)
    exact Done.mk (badS _ _ (Drop.pick [0] _ rfl) (fun h => by have : 1 ≤ s3 := h.2.2.2.2.2.2.2.1; omega))
  repeat (first
    | refine LoadD.own 0 rfl _ rfl rfl ?_
    | refine LoadD.own 1 rfl _ rfl rfl ?_
    | refine LoadD.own 2 rfl _ rfl rfl ?_
    | refine LoadD.own 3 rfl _ rfl rfl ?_
    | refine LoadP.at 0 rfl _ rfl rfl ?_
    | refine LoadP.at 1 rfl _ rfl rfl ?_
    | refine LoadP.at 2 rfl _ rfl rfl ?_
    | refine LoadP.at 3 rfl _ rfl rfl ?_
    | refine StoreD.st 0 rfl rfl rfl ?_
    | refine StoreD.st 1 rfl rfl rfl ?_
    | refine StoreD.st 2 rfl rfl rfl ?_
    | refine StoreD.st 3 rfl rfl rfl ?_
    | refine CmpD.yes rfl ?_
    | refine CmpD.yes (by decide) ?_
    | refine CmpD.no (by decide) ?_
    | refine Chk.mk ⟨rfl, trivial⟩ ?_
    | refine Chk.mk ⟨rfl, rfl, trivial⟩ ?_
    | refine Chk.mk ⟨rfl, rfl, rfl, trivial⟩ ?_
    | refine Chk.mk ⟨rfl, rfl, rfl, rfl, trivial⟩ ?_
    | refine Chk.mk ⟨rfl, rfl, rfl, rfl, rfl, trivial⟩ ?_
    | refine Chk.mk ⟨rfl, rfl, rfl, rfl, rfl, rfl, trivial⟩ ?_)
  refine CmpD.split (fun (c8 : (549755813888 : Int) < s3) => ?_) (fun (c8 : ¬ ((549755813888 : Int) < s3)) => ?_)
  · repeat (first
      | refine LoadD.own 0 rfl _ rfl rfl ?_
      | refine LoadD.own 1 rfl _ rfl rfl ?_
      | refine LoadD.own 2 rfl _ rfl rfl ?_
      | refine LoadD.own 3 rfl _ rfl rfl ?_
      | refine LoadP.at 0 rfl _ rfl rfl ?_
      | refine LoadP.at 1 rfl _ rfl rfl ?_
      | refine LoadP.at 2 rfl _ rfl rfl ?_
      | refine LoadP.at 3 rfl _ rfl rfl ?_
      | refine StoreD.st 0 rfl rfl rfl ?_
      | refine StoreD.st 1 rfl rfl rfl ?_
      | refine StoreD.st 2 rfl rfl rfl ?_
      | refine StoreD.st 3 rfl rfl rfl ?_
      | refine CmpD.yes rfl ?_
      | refine CmpD.yes (by decide) ?_
      | refine CmpD.no (by decide) ?_
      | refine Chk.mk ⟨rfl, trivial⟩ ?_
      | refine Chk.mk ⟨rfl, rfl, trivial⟩ ?_
      | refine Chk.mk ⟨rfl, rfl, rfl, trivial⟩ ?_
      | refine Chk.mk ⟨rfl, rfl, rfl, rfl, trivial⟩ ?_
      | refine Chk.mk ⟨rfl, rfl, rfl, rfl, rfl, trivial⟩ ?_
      | refine Chk.mk ⟨rfl, rfl, rfl, rfl, rfl, rfl, trivial⟩ ?_)
    exact Done.mk (badS _ _ (Drop.pick [0] _ rfl) (fun h => by have : s3 ≤ 549755813888 := h.2.2.2.2.2.2.2.2; omega))
  have hok : ScanOk n x ⟨s1, s2, s3, s4⟩ := ⟨by omega, hx, c2, by show 0 ≤ s4; omega, by show s4 < _; omega, by show 1 ≤ s2; omega, by show s2 ≤ _; omega, by show 1 ≤ s3; omega, by show s3 ≤ _; omega⟩
  clear badS
  repeat (first
    | refine LoadD.own 0 rfl _ rfl rfl ?_
    | refine LoadD.own 1 rfl _ rfl rfl ?_
    | refine LoadD.own 2 rfl _ rfl rfl ?_
    | refine LoadD.own 3 rfl _ rfl rfl ?_
    | refine LoadP.at 0 rfl _ rfl rfl ?_
    | refine LoadP.at 1 rfl _ rfl rfl ?_
    | refine LoadP.at 2 rfl _ rfl rfl ?_
    | refine LoadP.at 3 rfl _ rfl rfl ?_
    | refine StoreD.st 0 rfl rfl rfl ?_
    | refine StoreD.st 1 rfl rfl rfl ?_
    | refine StoreD.st 2 rfl rfl rfl ?_
    | refine StoreD.st 3 rfl rfl rfl ?_
    | refine CmpD.yes rfl ?_
    | refine CmpD.yes (by decide) ?_
    | refine CmpD.no (by decide) ?_
    | refine Chk.mk ⟨rfl, trivial⟩ ?_
    | refine Chk.mk ⟨rfl, rfl, trivial⟩ ?_
    | refine Chk.mk ⟨rfl, rfl, rfl, trivial⟩ ?_
    | refine Chk.mk ⟨rfl, rfl, rfl, rfl, trivial⟩ ?_
    | refine Chk.mk ⟨rfl, rfl, rfl, rfl, rfl, trivial⟩ ?_
    | refine Chk.mk ⟨rfl, rfl, rfl, rfl, rfl, rfl, trivial⟩ ?_)
  conv => whnf
  intro bR
  repeat (first
    | refine LoadD.own 0 rfl _ rfl rfl ?_
    | refine LoadD.own 1 rfl _ rfl rfl ?_
    | refine LoadD.own 2 rfl _ rfl rfl ?_
    | refine LoadD.own 3 rfl _ rfl rfl ?_
    | refine LoadP.at 0 rfl _ rfl rfl ?_
    | refine LoadP.at 1 rfl _ rfl rfl ?_
    | refine LoadP.at 2 rfl _ rfl rfl ?_
    | refine LoadP.at 3 rfl _ rfl rfl ?_
    | refine StoreD.st 0 rfl rfl rfl ?_
    | refine StoreD.st 1 rfl rfl rfl ?_
    | refine StoreD.st 2 rfl rfl rfl ?_
    | refine StoreD.st 3 rfl rfl rfl ?_
    | refine CmpD.yes rfl ?_
    | refine CmpD.yes (by decide) ?_
    | refine CmpD.no (by decide) ?_
    | refine Chk.mk ⟨rfl, trivial⟩ ?_
    | refine Chk.mk ⟨rfl, rfl, trivial⟩ ?_
    | refine Chk.mk ⟨rfl, rfl, rfl, trivial⟩ ?_
    | refine Chk.mk ⟨rfl, rfl, rfl, rfl, trivial⟩ ?_
    | refine Chk.mk ⟨rfl, rfl, rfl, rfl, rfl, trivial⟩ ?_
    | refine Chk.mk ⟨rfl, rfl, rfl, rfl, rfl, rfl, trivial⟩ ?_)
  conv => whnf
  intro b12
  repeat (first
    | refine LoadD.own 0 rfl _ rfl rfl ?_
    | refine LoadD.own 1 rfl _ rfl rfl ?_
    | refine LoadD.own 2 rfl _ rfl rfl ?_
    | refine LoadD.own 3 rfl _ rfl rfl ?_
    | refine LoadP.at 0 rfl _ rfl rfl ?_
    | refine LoadP.at 1 rfl _ rfl rfl ?_
    | refine LoadP.at 2 rfl _ rfl rfl ?_
    | refine LoadP.at 3 rfl _ rfl rfl ?_
    | refine StoreD.st 0 rfl rfl rfl ?_
    | refine StoreD.st 1 rfl rfl rfl ?_
    | refine StoreD.st 2 rfl rfl rfl ?_
    | refine StoreD.st 3 rfl rfl rfl ?_
    | refine CmpD.yes rfl ?_
    | refine CmpD.yes (by decide) ?_
    | refine CmpD.no (by decide) ?_
    | refine Chk.mk ⟨rfl, trivial⟩ ?_
    | refine Chk.mk ⟨rfl, rfl, trivial⟩ ?_
    | refine Chk.mk ⟨rfl, rfl, rfl, trivial⟩ ?_
    | refine Chk.mk ⟨rfl, rfl, rfl, rfl, trivial⟩ ?_
    | refine Chk.mk ⟨rfl, rfl, rfl, rfl, rfl, trivial⟩ ?_
    | refine Chk.mk ⟨rfl, rfl, rfl, rfl, rfl, rfl, trivial⟩ ?_)
  conv => whnf
  intro b13
  repeat (first
    | refine LoadD.own 0 rfl _ rfl rfl ?_
    | refine LoadD.own 1 rfl _ rfl rfl ?_
    | refine LoadD.own 2 rfl _ rfl rfl ?_
    | refine LoadD.own 3 rfl _ rfl rfl ?_
    | refine LoadD.own 4 rfl _ rfl rfl ?_
    | refine LoadD.own 5 rfl _ rfl rfl ?_
    | refine LoadD.own 6 rfl _ rfl rfl ?_
    | refine LoadD.own 7 rfl _ rfl rfl ?_
    | refine LoadP.at 0 rfl _ rfl rfl ?_
    | refine LoadP.at 1 rfl _ rfl rfl ?_
    | refine LoadP.at 2 rfl _ rfl rfl ?_
    | refine LoadP.at 3 rfl _ rfl rfl ?_
    | refine LoadP.at 4 rfl _ rfl rfl ?_
    | refine LoadP.at 5 rfl _ rfl rfl ?_
    | refine LoadP.at 6 rfl _ rfl rfl ?_
    | refine LoadP.at 7 rfl _ rfl rfl ?_
    | refine StoreD.st 0 rfl rfl rfl ?_
    | refine StoreD.st 1 rfl rfl rfl ?_
    | refine StoreD.st 2 rfl rfl rfl ?_
    | refine StoreD.st 3 rfl rfl rfl ?_
    | refine StoreD.st 4 rfl rfl rfl ?_
    | refine StoreD.st 5 rfl rfl rfl ?_
    | refine StoreD.st 6 rfl rfl rfl ?_
    | refine StoreD.st 7 rfl rfl rfl ?_
    | refine CmpD.yes rfl ?_
    | refine CmpD.yes (by decide) ?_
    | refine CmpD.no (by decide) ?_
    | refine Chk.mk ⟨rfl, trivial⟩ ?_
    | refine Chk.mk ⟨rfl, rfl, trivial⟩ ?_
    | refine Chk.mk ⟨rfl, rfl, rfl, trivial⟩ ?_
    | refine Chk.mk ⟨rfl, rfl, rfl, rfl, trivial⟩ ?_
    | refine Chk.mk ⟨rfl, rfl, rfl, rfl, rfl, trivial⟩ ?_
    | refine Chk.mk ⟨rfl, rfl, rfl, rfl, rfl, rfl, trivial⟩ ?_)
  refine Tri.frame (ring_groups bR ⟨s1, s2, s3, s4⟩ I) [] rfl rfl ?_
  rintro v J A' hJ ⟨bS, bP, rfl, rfl, rfl⟩
  refine ⟨by simp, ?_⟩
  obtain ⟨tail, rfl⟩ : ∃ t : Nat, s4 = t := ⟨s4.toNat, by omega⟩
  obtain ⟨lb, hlb⟩ : ∃ lb : Nat, layL n = lb := ⟨(layL n).toNat, by omega⟩
  have hxlb : x.lb = lb := by rw [hxl, hlb]
  have hxl2 : x.l = (2 : Nat) := by rw [hx]; rfl
  have hfit : 2 + lb ≤ d.now.length := by rw [← hn]; unfold layL at hlb; split at hlb <;> omega
  cases hdn : d.down with
  | true =>
    refine CodeF.rangeJ rfl [[(b12, row [.slice none 0 0] 64)], [(b13, row [.int .i64 tail] 3)]] (scIt bS bP bR bD ⟨s1, s2, s3, tail⟩ x 0 chD) (Drop.pick [5, 6, 8, 7, 4, 0] _ rfl) (scan_down hD hdn x 2 lb hxl2 hxlb (by omega) hfit ⟨s1, s2, s3, tail⟩ tail rfl)
      (fun _ _ _ _ h => h.elim) (fun _ _ S' => S' = [[(b12, row [.slice none 0 0] 64)], [(b13, row [.int .i64 tail] 3)]]) (fun _ _ _ _ _ h => h) (fun _ _ _ => False) rfl ?round ?done ?stop
    case round => rintro _ _ _ _ _ _ h; exact h.elim
    case stop => rintro _ _ _ _ _ h; exact h.elim
    case done =>
      rintro _ J S' R hJ rfl rfl
      repeat (first
        | refine LoadD.own 0 rfl _ rfl rfl ?_
        | refine LoadD.own 1 rfl _ rfl rfl ?_
        | refine LoadD.own 2 rfl _ rfl rfl ?_
        | refine LoadD.own 3 rfl _ rfl rfl ?_
        | refine LoadD.own 4 rfl _ rfl rfl ?_
        | refine LoadD.own 5 rfl _ rfl rfl ?_
        | refine LoadP.at 0 rfl _ rfl rfl ?_
        | refine LoadP.at 1 rfl _ rfl rfl ?_
        | refine LoadP.at 2 rfl _ rfl rfl ?_
        | refine LoadP.at 3 rfl _ rfl rfl ?_
        | refine LoadP.at 4 rfl _ rfl rfl ?_
        | refine LoadP.at 5 rfl _ rfl rfl ?_
        | refine StoreD.st 0 rfl rfl rfl ?_
        | refine StoreD.st 1 rfl rfl rfl ?_
        | refine StoreD.st 2 rfl rfl rfl ?_
        | refine StoreD.st 3 rfl rfl rfl ?_
        | refine StoreD.st 4 rfl rfl rfl ?_
        | refine StoreD.st 5 rfl rfl rfl ?_
        | refine CmpD.yes rfl ?_
        | refine CmpD.yes (by decide) ?_
        | refine CmpD.no (by decide) ?_
        | refine Chk.mk ⟨rfl, trivial⟩ ?_
        | refine Chk.mk ⟨rfl, rfl, trivial⟩ ?_
        | refine Chk.mk ⟨rfl, rfl, rfl, trivial⟩ ?_
        | refine Chk.mk ⟨rfl, rfl, rfl, rfl, trivial⟩ ?_
        | refine Chk.mk ⟨rfl, rfl, rfl, rfl, rfl, trivial⟩ ?_
        | refine Chk.mk ⟨rfl, rfl, rfl, rfl, rfl, rfl, trivial⟩ ?_)
      refine CodeF.sched [[], [0], [0, 1], [0, 1, 2], [], [4], [0, 1, 2, 3, 4, 5]] [0, 1, 2, 3, 4, 5, 6] (by kernel_rfl) ?_
      repeat (first
        | refine LoadD.own 0 rfl _ rfl rfl ?_
        | refine LoadD.own 1 rfl _ rfl rfl ?_
        | refine LoadD.own 2 rfl _ rfl rfl ?_
        | refine LoadD.own 3 rfl _ rfl rfl ?_
        | refine LoadD.own 4 rfl _ rfl rfl ?_
        | refine LoadD.own 5 rfl _ rfl rfl ?_
        | refine LoadP.at 0 rfl _ rfl rfl ?_
        | refine LoadP.at 1 rfl _ rfl rfl ?_
        | refine LoadP.at 2 rfl _ rfl rfl ?_
        | refine LoadP.at 3 rfl _ rfl rfl ?_
        | refine LoadP.at 4 rfl _ rfl rfl ?_
        | refine LoadP.at 5 rfl _ rfl rfl ?_
        | refine StoreD.st 0 rfl rfl rfl ?_
        | refine StoreD.st 1 rfl rfl rfl ?_
        | refine StoreD.st 2 rfl rfl rfl ?_
        | refine StoreD.st 3 rfl rfl rfl ?_
        | refine StoreD.st 4 rfl rfl rfl ?_
        | refine StoreD.st 5 rfl rfl rfl ?_
        | refine CmpD.yes rfl ?_
        | refine CmpD.yes (by decide) ?_
        | refine CmpD.no (by decide) ?_
        | refine Chk.mk ⟨rfl, trivial⟩ ?_
        | refine Chk.mk ⟨rfl, rfl, trivial⟩ ?_
        | refine Chk.mk ⟨rfl, rfl, rfl, trivial⟩ ?_
        | refine Chk.mk ⟨rfl, rfl, rfl, rfl, trivial⟩ ?_
        | refine Chk.mk ⟨rfl, rfl, rfl, rfl, rfl, trivial⟩ ?_
        | refine Chk.mk ⟨rfl, rfl, rfl, rfl, rfl, rfl, trivial⟩ ?_)
      exact Done.mk ⟨[chD, []], Drop.and (Drop.pick [5] _ rfl), [], rfl, .inr (.inl ⟨hok, rfl, rfl⟩)⟩
  | false =>
    have hsc : scanL d ⟨s1, s2, s3, tail⟩ = scanK (rbP d 2 lb) s2 (lb + 1) tail s3 lb := by
      unfold scanL
      rw [← hn, hlb]; rfl
    have hlbn : (layL n).toNat = lb := by rw [hlb]; rfl
    obtain ⟨L, hLe⟩ : ∃ L, L = scanL d ⟨s1, s2, s3, tail⟩ := ⟨_, rfl⟩
    have hbd := scan_bound (rb := rbP d 2 lb) (ep := s2) (lb + 1) tail s3 lb
    rw [← hsc, ← hLe] at hbd
    refine CodeF.rangeJ rfl [[(b12, row [.slice none 0 0] 64)], [(b13, row [.int .i64 tail] 3)], []] (scIt bS bP bR bD ⟨s1, s2, s3, tail⟩ x 0 chD) ((Drop.pick [5, 6, 8, 7, 4, 0] _ rfl).trans (Drop.flat (by simp [St.at]; exact ⟨rfl, rfl⟩))) (scan_up hD hdn x 2 lb hxl2 hxlb (by omega) hfit ⟨s1, s2, s3, tail⟩ tail rfl (by omega) ⟨by show 1 ≤ s3; omega, by show s3 ≤ _; omega⟩)
      (fun _ _ _ _ ⟨_, _, _, _, _, _, _, _, _, _, h, _⟩ => by rw [h]; rfl)
      (fun a J' S' => ∃ (aO : Option Addr) (capO : Nat) (chO : List Blk) (gl : List Grp) (acc : List G3), S' = [[(b12, row [.slice aO gl.length capO] 64)], [(b13, row [.int .i64 (placeP lb tail acc : Nat)] 3)], chO] ∧ OwnC chO 3 aO gl.length capO (grpCells gl) ∧ GrpsOk J' gl acc ∧ acc ++ scanK (rbP d 2 lb) s2 a.f a.at' a.seq a.room = L ∧ a.at' = tail + (acc.map fun g => g.2.2.length + 1).sum)
      (fun a J1 J2 S' hJ ⟨aO, capO, chO, gl, acc, h1, h2, h3, h4⟩ => ⟨aO, capO, chO, gl, acc, h1, h2, h3.mono hJ, h4⟩) (fun _ _ _ => False)
      ⟨none, 0, [], [], [], by rw [show placeP lb tail [] = tail from by unfold placeP; exact Nat.mod_eq_of_lt (by simp; omega)]; rfl, OwnC.nil _ _, ⟨by simp, rfl⟩, by rw [hLe, hsc]; rfl, by simp⟩ ?round ?done ?stop
    case stop => rintro _ _ _ _ _ h; exact h.elim
    case round =>
      rintro ⟨f, at_, seq, room⟩ xs ⟨f', at', seq', room'⟩ J' S' hJ' ⟨e, sn, li, aI, capI, gs, hf, hg, he, hs, rfl, hgs, hgp, hat, hsq, hrm⟩ ⟨aO, capO, chO, gl, acc, rfl, hO, hok2, hacc, hatl⟩
      dsimp only at hf hg hs hat hsq hrm hacc hatl
      subst hf hat hsq hrm
      rw [scanK, hg] at hacc
      dsimp only at hacc
      rw [if_pos ⟨he, hs⟩] at hacc
      have hgl2 := hok2.len
      have hll : L.length = acc.length + ((scanK (rbP d 2 lb) s2 f' (at_ + (li.length + 1)) (seq + 1) (room - (li.length + 1))).length + 1) := by rw [← hacc, List.length_append, List.length_cons]
      conv => whnf
      intro b15
      repeat (first
        | refine LoadD.own 0 rfl _ rfl rfl ?_
        | refine LoadD.own 1 rfl _ rfl rfl ?_
        | refine LoadD.own 2 rfl _ rfl rfl ?_
        | refine LoadD.own 3 rfl _ rfl rfl ?_
        | refine LoadD.own 4 rfl _ rfl rfl ?_
        | refine LoadD.own 5 rfl _ rfl rfl ?_
        | refine LoadP.at 0 rfl _ rfl rfl ?_
        | refine LoadP.at 1 rfl _ rfl rfl ?_
        | refine LoadP.at 2 rfl _ rfl rfl ?_
        | refine LoadP.at 3 rfl _ rfl rfl ?_
        | refine LoadP.at 4 rfl _ rfl rfl ?_
        | refine LoadP.at 5 rfl _ rfl rfl ?_
        | refine StoreD.st 0 rfl rfl rfl ?_
        | refine StoreD.st 1 rfl rfl rfl ?_
        | refine StoreD.st 2 rfl rfl rfl ?_
        | refine StoreD.st 3 rfl rfl rfl ?_
        | refine StoreD.st 4 rfl rfl rfl ?_
        | refine StoreD.st 5 rfl rfl rfl ?_
        | refine CmpD.yes rfl ?_
        | refine CmpD.yes (by decide) ?_
        | refine CmpD.no (by decide) ?_
        | refine Chk.mk ⟨rfl, trivial⟩ ?_
        | refine Chk.mk ⟨rfl, rfl, trivial⟩ ?_
        | refine Chk.mk ⟨rfl, rfl, rfl, trivial⟩ ?_
        | refine Chk.mk ⟨rfl, rfl, rfl, rfl, trivial⟩ ?_
        | refine Chk.mk ⟨rfl, rfl, rfl, rfl, rfl, trivial⟩ ?_
        | refine Chk.mk ⟨rfl, rfl, rfl, rfl, rfl, rfl, trivial⟩ ?_)
      conv => whnf
      intro bN
      refine appendD tabOk rfl rfl rfl rfl rfl rfl rfl 2 rfl hO (SrcOk.slice (n := 1) (news := grpCells [⟨e, sn, aI, capI, gs⟩]) tabOk rfl ((OwnC.whole (len := 1) (size := 3) rfl).slC 4 rfl) (by intro v hv; simp [grpCells] at hv; rcases hv with rfl | rfl | rfl <;> rfl)) rfl (by show (gl.length + 1) * 40 ≤ _; omega) (by omega) ?_
      intro a2 cap2 ch2 hO2
      repeat (first
        | refine LoadD.own 0 rfl _ rfl rfl ?_
        | refine LoadD.own 1 rfl _ rfl rfl ?_
        | refine LoadD.own 2 rfl _ rfl rfl ?_
        | refine LoadD.own 3 rfl _ rfl rfl ?_
        | refine LoadD.own 4 rfl _ rfl rfl ?_
        | refine LoadD.own 5 rfl _ rfl rfl ?_
        | refine LoadP.at 0 rfl _ rfl rfl ?_
        | refine LoadP.at 1 rfl _ rfl rfl ?_
        | refine LoadP.at 2 rfl _ rfl rfl ?_
        | refine LoadP.at 3 rfl _ rfl rfl ?_
        | refine LoadP.at 4 rfl _ rfl rfl ?_
        | refine LoadP.at 5 rfl _ rfl rfl ?_
        | refine StoreD.st 0 rfl rfl rfl ?_
        | refine StoreD.st 1 rfl rfl rfl ?_
        | refine StoreD.st 2 rfl rfl rfl ?_
        | refine StoreD.st 3 rfl rfl rfl ?_
        | refine StoreD.st 4 rfl rfl rfl ?_
        | refine StoreD.st 5 rfl rfl rfl ?_
        | refine CmpD.yes rfl ?_
        | refine CmpD.yes (by decide) ?_
        | refine CmpD.no (by decide) ?_
        | refine Chk.mk ⟨rfl, trivial⟩ ?_
        | refine Chk.mk ⟨rfl, rfl, trivial⟩ ?_
        | refine Chk.mk ⟨rfl, rfl, rfl, trivial⟩ ?_
        | refine Chk.mk ⟨rfl, rfl, rfl, rfl, trivial⟩ ?_
        | refine Chk.mk ⟨rfl, rfl, rfl, rfl, rfl, trivial⟩ ?_
        | refine Chk.mk ⟨rfl, rfl, rfl, rfl, rfl, rfl, trivial⟩ ?_)
      have hll3 : (gl ++ [⟨e, sn, aI, capI, gs⟩] : List Grp).length = gl.length + 1 := by simp
      refine ⟨[[(b12, row [.slice a2 (gl.length + 1) cap2] 64)], [(b13, row [.int .i64 ((at_ + (li.length + 1)) % lb : Nat)] 3)], ch2], Drop.pick [0, 1, 2] _ rfl, a2, cap2, ch2, gl ++ [⟨e, sn, aI, capI, gs⟩], acc ++ [(e, sn, li)], ?_, ?_, ⟨?_, ?_⟩, ?_, ?_⟩
      · rw [hll3, placeP_snoc, ← hatl]
      · rw [hll3, grpCells_snoc]; exact hO2
      · intro g hg
        rcases List.mem_append.1 hg with hg | hg
        · exact hok2.each g hg
        · simp only [List.mem_singleton] at hg
          subst hg
          exact hgs
      · rw [List.map_append, List.map_append, hok2.g3, List.map_singleton, List.map_singleton]
        show _ ++ [((e : Int), (sn : Int), gs.map Img.pr)] = _
        rw [hgp]; rfl
      · rw [List.append_assoc]; exact hacc
      · show at_ + (li.length + 1) = _
        rw [List.map_append, List.sum_append, hatl]
        simp [Nat.add_assoc]
    case done =>
      rintro ⟨f, at_, seq, room⟩ J' S' R hJ' ⟨hfin, rfl⟩ ⟨aO, capO, chO, gl, acc, rfl, hO, hok2, hacc, hatl⟩
      rw [hfin, List.append_nil] at hacc
      subst hacc
      repeat (first
        | refine LoadD.own 0 rfl _ rfl rfl ?_
        | refine LoadD.own 1 rfl _ rfl rfl ?_
        | refine LoadD.own 2 rfl _ rfl rfl ?_
        | refine LoadD.own 3 rfl _ rfl rfl ?_
        | refine LoadD.own 4 rfl _ rfl rfl ?_
        | refine LoadD.own 5 rfl _ rfl rfl ?_
        | refine LoadP.at 0 rfl _ rfl rfl ?_
        | refine LoadP.at 1 rfl _ rfl rfl ?_
        | refine LoadP.at 2 rfl _ rfl rfl ?_
        | refine LoadP.at 3 rfl _ rfl rfl ?_
        | refine LoadP.at 4 rfl _ rfl rfl ?_
        | refine LoadP.at 5 rfl _ rfl rfl ?_
        | refine StoreD.st 0 rfl rfl rfl ?_
        | refine StoreD.st 1 rfl rfl rfl ?_
        | refine StoreD.st 2 rfl rfl rfl ?_
        | refine StoreD.st 3 rfl rfl rfl ?_
        | refine StoreD.st 4 rfl rfl rfl ?_
        | refine StoreD.st 5 rfl rfl rfl ?_
        | refine CmpD.yes rfl ?_
        | refine CmpD.yes (by decide) ?_
        | refine CmpD.no (by decide) ?_
        | refine Chk.mk ⟨rfl, trivial⟩ ?_
        | refine Chk.mk ⟨rfl, rfl, trivial⟩ ?_
        | refine Chk.mk ⟨rfl, rfl, rfl, trivial⟩ ?_
        | refine Chk.mk ⟨rfl, rfl, rfl, rfl, trivial⟩ ?_
        | refine Chk.mk ⟨rfl, rfl, rfl, rfl, rfl, trivial⟩ ?_
        | refine Chk.mk ⟨rfl, rfl, rfl, rfl, rfl, rfl, trivial⟩ ?_)
      refine CodeF.sched [[], [], [0], [0, 1, 2], [0, 1, 2, 3]] [0, 1, 2, 3, 4] (by kernel_rfl) ?_
      repeat (first
        | refine LoadD.own 0 rfl _ rfl rfl ?_
        | refine LoadD.own 1 rfl _ rfl rfl ?_
        | refine LoadD.own 2 rfl _ rfl rfl ?_
        | refine LoadD.own 3 rfl _ rfl rfl ?_
        | refine LoadD.own 4 rfl _ rfl rfl ?_
        | refine LoadD.own 5 rfl _ rfl rfl ?_
        | refine LoadP.at 0 rfl _ rfl rfl ?_
        | refine LoadP.at 1 rfl _ rfl rfl ?_
        | refine LoadP.at 2 rfl _ rfl rfl ?_
        | refine LoadP.at 3 rfl _ rfl rfl ?_
        | refine LoadP.at 4 rfl _ rfl rfl ?_
        | refine LoadP.at 5 rfl _ rfl rfl ?_
        | refine StoreD.st 0 rfl rfl rfl ?_
        | refine StoreD.st 1 rfl rfl rfl ?_
        | refine StoreD.st 2 rfl rfl rfl ?_
        | refine StoreD.st 3 rfl rfl rfl ?_
        | refine StoreD.st 4 rfl rfl rfl ?_
        | refine StoreD.st 5 rfl rfl rfl ?_
        | refine CmpD.yes rfl ?_
        | refine CmpD.yes (by decide) ?_
        | refine CmpD.no (by decide) ?_
        | refine Chk.mk ⟨rfl, trivial⟩ ?_
        | refine Chk.mk ⟨rfl, rfl, trivial⟩ ?_
        | refine Chk.mk ⟨rfl, rfl, rfl, trivial⟩ ?_
        | refine Chk.mk ⟨rfl, rfl, rfl, rfl, trivial⟩ ?_
        | refine Chk.mk ⟨rfl, rfl, rfl, rfl, rfl, trivial⟩ ?_
        | refine Chk.mk ⟨rfl, rfl, rfl, rfl, rfl, rfl, trivial⟩ ?_)
      refine Done.mk ⟨[chD, chO], Drop.pick [6, 2] _ rfl, chO, rfl, .inr (.inr ⟨hok, rfl, aO, capO, gl, ?_, hO, ?_⟩)⟩
      · rw [hlbn, ← hLe]; rfl
      · rw [← hLe]; exact hok2
end Go.Proofs.Ytbpdbgcndfcilaa
namespace Go.Proofs.Ytbpdbgcndfcilaa
open Go.RowKit Go.Sl
set_option maxRecDepth 20000

structure RDk (I : Imm) (v : Value) (d : DSt) : Prop where
  wf : d.Wf
  snd : ∀ i, i < d.safe.length → d.now[i]? = some (atP (d.safe.getD i []) d.writes i)
  ex : ∃ (s w : Hd) (bS : List Bk) (gs : List Img), v = rV s w d.count d.down (gv d.arm) (gv d.fault) ∧ Rds I s.a s.len (bS.map Bk.cell) ∧ (∀ b ∈ bS, BkOk I b) ∧ bS.map Bk.data = d.safe ∧ ImgsOk I w.a gs ∧ w.len = gs.length ∧ gs.map Img.pr = d.writes
theorem RDk.mono {I J : Imm} {v : Value} {d : DSt} (h : RDk I v d) (hJ : I.le J) : RDk J v d := by
  obtain ⟨s, w, bS, gs, e, h1, h2, h3, h4, h5, h6⟩ := h.ex
  exact ⟨h.wf, h.snd, s, w, bS, gs, e, h1.mono hJ, fun b hb => (h2 b hb).mono hJ, h3, h4.mono hJ, h5, h6⟩
theorem RDk.stop {I : Imm} {s w : Hd} {d : DSt} {bS : List Bk} {gs : List Img} (h : d.Wf) (hs : ∀ i, i < d.safe.length → d.now[i]? = some (atP (d.safe.getD i []) d.writes i)) (h1 : Rds I s.a s.len (bS.map Bk.cell)) (h2 : ∀ b ∈ bS, BkOk I b) (h3 : bS.map Bk.data = d.safe) (h4 : ImgsOk I w.a gs) (h5 : w.len = gs.length) (h6 : gs.map Img.pr = d.writes) :
    RDk I (rV s w d.count d.stop.1.down (gv d.stop.1.arm) (gv d.stop.1.fault)) d.stop.1 := by
  obtain ⟨e1, e2, e3, e4⟩ := d.stop_same
  exact ⟨h.stop, by rw [e1, e2, e3]; exact hs, s, w, bS, gs, by rw [e4], h1, h2, by rw [e1]; exact h3, h4, h5, by rw [e3]; exact h6⟩
end Go.Proofs.Ytbpdbgcndfcilaa
namespace Go.Proofs.Ytbpdbgcndfcilaa
open Go.RowKit Go.Sl
set_option maxRecDepth 20000

end Go.Proofs.Ytbpdbgcndfcilaa
namespace Go.Proofs.Ytbpdbgcndfcilaa
open Go.RowKit Go.Sl
set_option maxRecDepth 20000

end Go.Proofs.Ytbpdbgcndfcilaa
namespace Go.Proofs.Ytbpdbgcndfcilaa
open Go.RowKit Go.Sl
set_option maxRecDepth 20000

end Go.Proofs.Ytbpdbgcndfcilaa
namespace Go.Proofs.Ytbpdbgcndfcilaa
open Go.RowKit Go.Sl
set_option maxRecDepth 20000

end Go.Proofs.Ytbpdbgcndfcilaa
namespace Go.Proofs.Ytbpdbgcndfcilaa
open Go.RowKit Go.Sl
set_option maxRecDepth 20000

end Go.Proofs.Ytbpdbgcndfcilaa
namespace Go.Proofs.Ytbpdbgcndfcilaa
open Go.RowKit Go.Sl
set_option maxRecDepth 20000

theorem grpP_hd {rb : Nat → Dat} {at_ room e s : Nat} {l : List PImg} (h : grpP rb at_ room = some (e, s, l)) : ∃ l', hdP (rb at_) = some (e, s, l') ∧ l'.length = l.length ∧ l.length + 1 ≤ room := by
  have hr := (grpP_room h).1
  unfold grpP at h
  cases hd : hdP (rb at_) with
  | none => rw [hd] at h; cases h
  | some p =>
    obtain ⟨e', s', l'⟩ := p
    rw [hd] at h
    dsimp only at h
    split at h
    · rename_i hc
      obtain ⟨hR, hp⟩ := getP_some h
      have hlen := congrArg List.length hp
      rw [putP_length, List.length_map, List.length_range] at hlen
      rw [List.range_succ_eq_map, List.map_cons, Nat.add_zero] at h
      unfold getP at h
      dsimp only at h
      rw [hd] at h
      dsimp only at h
      split at h
      · cases h
        exact ⟨l', rfl, by omega, hr⟩
      · cases h
    · cases h
theorem grpP_get {rb : Nat → Dat} {at_ room e s : Nat} {l : List PImg} (h : hdP (rb at_) = some (e, s, l)) (hr : l.length + 1 ≤ room) : grpP rb at_ room = getP ((List.range (l.length + 1)).map fun i => rb (at_ + i)) := by
  unfold grpP
  rw [h]
  dsimp only
  rw [if_pos hr]
end Go.Proofs.Ytbpdbgcndfcilaa
namespace Go.Proofs.Ytbpdbgcndfcilaa
open Go.RowKit Go.Sl
set_option maxRecDepth 20000

theorem fresh_calm (l : List Dat) : (DSt.of l).Calm := ⟨rfl, rfl, rfl⟩
theorem JSt.Wf.append {j : JSt} (hj : j.Wf) {d : DSt} {l : List PImg} {held : Bool} (h8 : j.groups.length ≤ 999999) : (j.appendB d l held).1.Wf := by
  have hr := hj.ring
  unfold JSt.appendB JSt.append
  split
  · exact hj
  split
  · exact hj
  rename_i hR
  have hR : RightP j.epoch j.next l := Decidable.of_not_not hR
  split
  · exact hj
  generalize hp : putS j.s j.t j.u j.h (l.length + 1) (if held then l.length + 1 else 0) = q
  obtain ⟨⟨s, t, u, h, e⟩, at_⟩ := q
  dsimp only
  split
  · exact hj
  rename_i he
  have he : e = 0 := Decidable.of_not_not he
  obtain ⟨e1, e2, h3, _, _⟩ := putS_mid hr hp he
  have hn := hj.next
  have hs := hj.synced
  have hl := hR.2.2.2.2.2.1
  have hs2 := hR.2.2.2.1
  generalize wrAll (fun i => j.lay.l + (at_ + i) % s) (putP j.epoch.toNat j.next.toNat l) 0 d = q
  obtain ⟨d', e'⟩ := q
  dsimp only
  split
  · exact ⟨hj.log, h3, hj.epoch, hj.next, hj.synced, hj.few, hj.groups⟩
  · refine ⟨hj.log, h3, hj.epoch, ?_, ?_, ?_, ?_⟩
    · show 1 ≤ j.next + 1 ∧ j.next + 1 ≤ _; omega
    · show 0 ≤ j.synced ∧ j.synced < j.next + 1; omega
    · show (j.groups ++ [_]).length ≤ _; simp; omega
    · intro g hg
      rcases List.mem_append.1 hg with hg | hg
      · exact hj.groups g hg
      · simp only [List.mem_singleton] at hg
        subst hg
        unfold In64; dsimp only; omega
theorem JSt.Wf.flush {j : JSt} (hj : j.Wf) (d : DSt) : (j.flush d).1.Wf := by
  have hn := hj.next
  unfold JSt.flush
  split
  · exact hj
  split
  · exact ⟨hj.log, hj.ring, hj.epoch, hj.next, hj.synced, hj.few, hj.groups⟩
  · refine ⟨hj.log, hj.ring, hj.epoch, hj.next, ?_, hj.few, hj.groups⟩
    show 0 ≤ j.next - 1 ∧ j.next - 1 < j.next; omega
/-- a group that fits is appended: what the journal is then -/
theorem JSt.append_next {j : JSt} (hj : j.Wf) (h8 : j.groups.length ≤ 999999) {d : DSt} {l : List PImg} {held : Bool} (hb : j.broken = false) (hR : RightP j.epoch j.next l) (hs : (l.length : Int) + 1 ≤ j.s) (hd : d.Calm) (hlen : j.s + 2 ≤ d.now.length)
    {t u h at_ : Int} (hp : putS j.s j.t j.u j.h (l.length + 1) (if held then l.length + 1 else 0) = ((j.s, t, u, h, 0), at_)) :
    ∃ j', j.appendB d l held = (j', wrD (fun i => 2 + (at_ + i) % j.s) (putP j.epoch.toNat j.next.toNat l) 0 d, j.next, 0) ∧ j'.lay = j.lay ∧ j'.s = j.s ∧ j'.t = t ∧ j'.u = u ∧ j'.h = h ∧ j'.epoch = j.epoch ∧ j'.next = j.next + 1 ∧ j'.synced = j.synced ∧ j'.groups = j.groups ++ [(j.next, (l.length + 1 : Int))] ∧ j'.broken = false ∧ j'.Wf := by
  have e := JSt.append_calm hb hR hs hj.log hd hlen hp
  have w := hj.append (d := d) (l := l) (held := held) h8
  rw [e] at w
  exact ⟨_, e, rfl, rfl, rfl, rfl, rfl, rfl, rfl, rfl, rfl, hb, w⟩
end Go.Proofs.Ytbpdbgcndfcilaa
namespace Go.Proofs.Ytbpdbgcndfcilaa
open Go.RowKit Go.Sl
set_option maxRecDepth 20000

end Go.Proofs.Ytbpdbgcndfcilaa
namespace Go.Proofs.Ytbpdbgcndfcilaa
open Go.RowKit Go.Sl

def pickS (n m : Int) : Int := if m ≤ 0 then 0 else n % m
theorem pickS_range {n m : Int} (h : 0 < m) : 0 ≤ pickS n m ∧ pickS n m < m := by
  unfold pickS
  rw [if_neg (by omega)]
  exact ⟨Int.emod_nonneg _ (by omega), Int.emod_lt_of_pos _ h⟩
theorem emod_of_tmod (n m : Int) (hm : 0 < m) : n % m = if n.tmod m < 0 then n.tmod m + m else n.tmod m := by
  have h1 : n = m * n.tdiv m + n.tmod m := (Int.mul_tdiv_add_tmod n m).symm
  have h2 := Int.tmod_lt_of_pos n hm
  have h3 : -m < n.tmod m := by
    have h4 := Int.tmod_lt_of_pos (-n) hm
    rw [Int.neg_tmod] at h4; omega
  split
  · have e : n = (n.tmod m + m) + m * (n.tdiv m - 1) := by
      conv => lhs; rw [h1]
      rw [Int.mul_sub]; omega
    conv => lhs; rw [e]
    rw [Int.add_mul_emod_self_left, Int.emod_eq_of_lt (by omega) (by omega)]
  · have e : n = n.tmod m + m * n.tdiv m := by omega
    conv => lhs; rw [e]
    rw [Int.add_mul_emod_self_left, Int.emod_eq_of_lt (by omega) (by omega)]
theorem low_Pick (n m : Int) (I : Imm) (_hn : In64 n) (hm : In64 m) : Tri Try.prog 35 #[.int .i64 n, .int .i64 m] I [] fun v J _ => v = .int .i64 (pickS n m) ∧ I = J := by
  unfold In64 at *
  refine Tri.of (args := [.int .i64 n, .int .i64 m]) tabOk Try.func35 rfl (by kernel_rfl) (by kernel_rfl) ?_
  refine CmpD.split (fun c => ?_) (fun c => ?_)
  · refine Done.mk ⟨?_, rfl⟩
    rw [pickS, if_pos c]; rfl
  have h2 := Int.tmod_lt_of_pos n (show 0 < m by omega)
  have h3 : -m < n.tmod m := by
    have h4 := Int.tmod_lt_of_pos (-n) (show 0 < m by omega)
    rw [Int.neg_tmod] at h4; omega
  have e := emod_of_tmod n m (by omega)
  refine Chk.mk (by omega) ?_
  refine ToD.to (n.tmod m) rfl ?_
  refine CmpD.split (fun c2 => ?_) (fun c2 => ?_)
  · refine ToD.i64 (by omega) (by omega) ?_
    refine Done.mk ⟨?_, rfl⟩
    rw [pickS, if_neg c, e, if_pos c2]; rfl
  · refine Done.mk ⟨?_, rfl⟩
    rw [pickS, if_neg c, e, if_neg c2]; rfl
end Go.Proofs.Ytbpdbgcndfcilaa
namespace Go.Proofs.Ytbpdbgcndfcilaa
open Go.RowKit Go.Sl
set_option maxRecDepth 20000

def im9 (n : Nat) (seed : Int) : List PImg := (List.range n).map fun (i : Nat) => (30 + (i : Int), madeL (IntKind.i64.wrap (seed + (i : Int))) 4096)
theorem im9_length (n : Nat) (seed : Int) : (im9 n seed).length = n := by simp [im9]
theorem im9_succ (n : Nat) (seed : Int) : im9 (n + 1) seed = im9 n seed ++ [(30 + (n : Int), madeL (IntKind.i64.wrap (seed + (n : Int))) 4096)] := by simp [im9, List.range_succ]
theorem im9_right {e s : Int} (h1 : 1 ≤ e ∧ e ≤ 8388608) (h2 : 1 ≤ s ∧ s ≤ 549755813888) (n : Nat) (hn : 1 ≤ n ∧ n ≤ 32) (seed : Int) : RightP e s (im9 n seed) := by
  refine ⟨h1.1, h1.2, h2.1, h2.2, by rw [im9_length]; omega, by rw [im9_length]; omega, ?_, ?_⟩
  · intro g hg
    unfold im9 at hg
    obtain ⟨i, hi, rfl⟩ := List.mem_map.1 hg
    have := List.mem_range.1 hi
    exact ⟨by show (0 : Int) ≤ 30 + (i : Int); omega, by show 30 + (i : Int) < 512; omega, madeL_length _ _⟩
  · unfold im9
    rw [List.map_map, List.nodup_iff_pairwise_ne, List.pairwise_map]
    refine List.Pairwise.imp ?_ List.nodup_range
    intro a b hab he
    have he : 30 + (a : Int) = 30 + (b : Int) := he
    exact hab (by omega)
theorem images9 (n : Nat) (hn : n ≤ 40) (seed : Int) (I : Imm) : Tri Try.prog 92 #[.int .i64 n, .int .i64 seed] I [] fun v J _ => ∃ a cap gs, v = .slice a gs.length cap ∧ ImgsOk J a gs ∧ gs.map Img.pr = im9 n seed := by
  refine Tri.fixed (Q := fun v J S' => ∃ (a : Option Addr) (cap : Nat) (ch : List Blk) (gs : List Img), v = .slice a gs.length cap ∧ OwnC ch 2 a gs.length cap (imgCells gs) ∧ (∀ g ∈ gs, ImgOk J g) ∧ gs.map Img.pr = im9 n seed ∧ S' = [ch]) ?_ ?_
  rotate_left
  · rintro v J S' hJ ⟨a, cap, ch, gs, rfl, hO, hok, hp, rfl⟩
    exact ⟨0, ch, rfl, fun J' hJ' hm => ⟨a, cap, gs, rfl, ⟨Rds.of_ownS hO hm, fun g hg => (hok g hg).mono hJ'⟩, hp⟩⟩
  refine Tri.of (args := [.int .i64 n, .int .i64 seed]) tabOk Try.func92 rfl (by kernel_rfl) (by kernel_rfl) ?_
  refine CodeF.loopD [0, 1, 5, 6] (fun vs J S' => ∃ (i : Nat) (a : Option Addr) (cap : Nat) (ch : List Blk) (gs : List Img), i ≤ n ∧ OwnC ch 2 a i cap (imgCells gs) ∧ gs.length = i ∧ gs.map Img.pr = im9 i seed ∧ (∀ g ∈ gs, ImgOk J g) ∧ I.le J ∧
      vs = [.int .i64 n, .int .i64 seed, .slice a i cap, .int .i64 i] ∧ S' = [ch])
    (fun vs _ _ => match vs with | [_, _, _, .int _ i] => ((n : Int) - i).toNat | _ => 0) ?_ ?_
  · exact ⟨_, Drop.and (Drop.refl _), 0, none, 0, [], [], by omega, OwnC.nil _ _, rfl, rfl, by simp, I.le_refl, rfl, rfl⟩
  rintro vs g J S' hJ ⟨i, a, cap, ch, gs, hi, hO, hgl, hgp, hok, hle, rfl, rfl⟩
  refine CmpD.split (fun c1 => ?_) (fun c1 => ?_)
  · refine ToD.i64 (by omega) (by omega) ?_
    refine ToD.keep ?_
    refine Tri.free (made (IntKind.i64.wrap (seed + (i : Int))) 4096 (by omega) J) ?_
    rintro v J1 _ hJ1 ⟨aD, rfl, hrD⟩
    conv => whnf
    intro bN
    refine appendD tabOk rfl rfl rfl rfl rfl rfl rfl 0 rfl hO (SrcOk.slice (n := 1) (news := imgCells [⟨30 + (i : Int), aD, 4096, 4096, madeL (IntKind.i64.wrap (seed + (i : Int))) 4096⟩]) tabOk rfl ((OwnC.whole (len := 1) (size := 2) rfl).slC 1 rfl) (by intro v hv; simp [imgCells] at hv; rcases hv with rfl | rfl <;> rfl)) rfl (by show (i + 1) * 32 ≤ _; omega) (by omega) ?_
    intro a2 cap2 ch2 hO2
    refine ToD.i64 (by omega) (by omega) ?_
    refine ⟨_, Drop.pick [0] _ rfl, ⟨i + 1, a2, cap2, ch2, gs ++ [⟨30 + (i : Int), aD, 4096, 4096, madeL (IntKind.i64.wrap (seed + (i : Int))) 4096⟩], by omega, by rw [imgCells_snoc]; exact hO2, by simp [hgl], by rw [List.map_append, hgp, im9_succ]; rfl, ?_, Imm.le_trans hle hJ1, rfl, rfl⟩, ?_⟩
    · intro y hy
      rcases List.mem_append.1 hy with hy | hy
      · exact (hok y hy).mono hJ1
      · simp only [List.mem_singleton] at hy
        subst hy
        exact ⟨by show In64 (30 + (i : Int)); unfold In64; omega, hrD⟩
    · show ((n : Int) - ((i : Int) + 1)).toNat < ((n : Int) - (i : Int)).toNat; omega
  · obtain rfl : i = n := by omega
    exact Done.mk ⟨a, cap, ch, gs, by rw [hgl]; rfl, by rw [hgl]; exact hO, hok, hgp, rfl⟩
theorem layout9 (I : Imm) : Tri Try.prog 37 #[] I [] fun v J _ => v = (layOf 64).v ∧ I = J := by
  refine Tri.of (args := []) tabOk Try.func37 rfl (by kernel_rfl) (by kernel_rfl) ?_
  conv => whnf
  intro b0
  refine Tri.free (ref_Of 64 I) ?_
  rintro v J _ hJ ⟨rfl, rfl⟩
  rw [layA, if_neg (by omega)]
  conv => whnf
  intro b1
  repeat (first
    | refine LoadD.own 0 rfl _ rfl rfl ?_
    | refine LoadD.own 1 rfl _ rfl rfl ?_
    | refine LoadD.own 2 rfl _ rfl rfl ?_
    | refine LoadP.at 0 rfl _ rfl rfl ?_
    | refine LoadP.at 1 rfl _ rfl rfl ?_
    | refine LoadP.at 2 rfl _ rfl rfl ?_
    | refine StoreD.st 0 rfl rfl rfl ?_
    | refine StoreD.st 1 rfl rfl rfl ?_
    | refine StoreD.st 2 rfl rfl rfl ?_
    | refine CmpD.yes rfl ?_
    | refine CmpD.yes (by decide) ?_
    | refine CmpD.no (by decide) ?_
    | refine Chk.mk ⟨rfl, trivial⟩ ?_
    | refine Chk.mk ⟨rfl, rfl, trivial⟩ ?_
    | refine Chk.mk ⟨rfl, rfl, rfl, trivial⟩ ?_
    | refine Chk.mk ⟨rfl, rfl, rfl, rfl, trivial⟩ ?_
    | refine Chk.mk ⟨rfl, rfl, rfl, rfl, rfl, trivial⟩ ?_
    | refine Chk.mk ⟨rfl, rfl, rfl, rfl, rfl, rfl, trivial⟩ ?_)
  exact Done.mk ⟨rfl, rfl⟩
/-! ### written -/
def wrtStep (j : JSt) (d : DSt) (all : List (List PImg)) (sz : Int) : JSt × DSt × List (List PImg) :=
  ((j.appendB d (im9 (1 + pickS sz 5).toNat sz) false).1, (j.appendB d (im9 (1 + pickS sz 5).toNat sz) false).2.1, if (j.appendB d (im9 (1 + pickS sz 5).toNat sz) false).2.2.2 = 0 then all ++ [im9 (1 + pickS sz 5).toNat sz] else all)
def wrtK (x : JSt × DSt × List (List PImg)) (l : List Int) : JSt × DSt × List (List PImg) := l.foldl (fun y z => wrtStep y.1 y.2.1 y.2.2 z) x
def wrt0 (epoch tail : Int) : JSt × DSt × List (List PImg) := (openJ 64 epoch 1 tail, DSt.of (List.replicate 64 noughts), [])
def wrtP (epoch tail : Int) (l : List Int) : JSt × DSt × List (List PImg) := wrtK (wrt0 epoch tail) (l.take 12)
/-- images, told as lists of lists -/
structure Ims where
  a : Option Addr
  cap : Nat
  gs : List Img
@[reducible] def Ims.cell (m : Ims) : Value := .slice m.a m.gs.length m.cap
def Ims.pr (m : Ims) : List PImg := m.gs.map Img.pr
end Go.Proofs.Ytbpdbgcndfcilaa
namespace Go.Proofs.Ytbpdbgcndfcilaa
open Go.RowKit Go.Sl
set_option maxRecDepth 20000

theorem JSt.Wf.turn {j : JSt} (hj : j.Wf) {r : R5} (hr : r.2.2.2.2 = 0 → Ok r.1 r.2.1 r.2.2.1 r.2.2.2.1) : (j.turn r).1.Wf := by
  obtain ⟨s, t, u, h, e⟩ := r
  unfold JSt.turn
  dsimp only at hr ⊢
  split
  · rename_i h0; exact ⟨hj.log, hr h0, hj.epoch, hj.next, hj.synced, hj.few, hj.groups⟩
  · exact hj
/-- a journal of the examples -/
structure JB (j : JSt) (t u h next synced : Int) (gs : List (Int × Int)) : Prop where
  s : j.s = 16
  t : j.t = t
  u : j.u = u
  h : j.h = h
  epoch : j.epoch = 1
  next : j.next = next
  synced : j.synced = synced
  groups : j.groups = gs
  broken : j.broken = false
  wf : j.Wf
/-- a disk of the examples -/
structure DB (d : DSt) (k : Nat) : Prop where
  calm : d.Calm
  len : d.now.length = 64
  few : d.Few k
/-- all of them -/
structure Numbers where
  jA : JSt
  jB : JSt
  jF : JSt
  jR : JSt
  jH : JSt
  jC : JSt
  jX : JSt
  dA : DSt
  dB : DSt
  dF : DSt
  dC : DSt
  dX : DSt
  dY : DSt
end Go.Proofs.Ytbpdbgcndfcilaa
namespace Go.Proofs.Ytbpdbgcndfcilaa
open Go.RowKit Go.Sl
set_option maxRecDepth 20000

/-! ### where writes go -/
theorem put_get {d : DSt} {p : Nat} {n : Nat} {b : Dat} (h : n ≠ p) : (d.put (n : Int) b).now[p]? = d.now[p]? := by
  show (d.now.set _ _)[p]? = _
  rw [Int.toNat_natCast, List.getElem?_set_ne h]
theorem put_hit {d : DSt} {p : Nat} {b : Dat} (h : p < d.now.length) : (d.put (p : Int) b).now[p]? = some b := by
  show (d.now.set _ _)[p]? = _
  rw [Int.toNat_natCast, List.getElem?_set_self h]
theorem wrD_miss (f : Nat → Nat) (p : Nat) : ∀ (bs : List Dat) (i : Nat) (d : DSt), (∀ k, k < bs.length → f (i + k) ≠ p) → (wrD (fun k => (f k : Int)) bs i d).now[p]? = d.now[p]?
  | [], _, _, _ => rfl
  | b :: bs, i, d, h => by
    rw [wrD, wrD_miss f p bs (i + 1) _ (fun k hk => by have := h (k + 1) (by simp; omega); rwa [show i + (k + 1) = i + 1 + k by omega] at this)]
    exact put_get (h 0 (by simp))
theorem wrD_hit (f : Nat → Nat) (p : Nat) : ∀ (bs : List Dat) (i : Nat) (d : DSt) (k : Nat), (hk : k < bs.length) → f (i + k) = p → (∀ k', k < k' → k' < bs.length → f (i + k') ≠ p) → p < d.now.length → (wrD (fun k => (f k : Int)) bs i d).now[p]? = some bs[k]
  | [], _, _, k, hk, _, _, _ => by simp at hk
  | b :: bs, i, d, 0, _, hf, hno, hp => by
    rw [wrD, wrD_miss f p bs (i + 1) _ (fun k' hk' => by have := hno (k' + 1) (by omega) (by simp; omega); rwa [show i + (k' + 1) = i + 1 + k' by omega] at this)]
    have hf : f i = p := hf
    show (d.put (f i : Int) b).now[p]? = _
    rw [hf, put_hit hp]; rfl
  | b :: bs, i, d, k + 1, hk, hf, hno, hp => by
    rw [wrD]
    have := wrD_hit f p bs (i + 1) (d.put (f i : Int) b) k (by simpa using hk) (by rw [show i + 1 + k = i + (k + 1) by omega]; exact hf) (fun k' h1 h2 => by have := hno (k' + 1) (by omega) (by simp; omega); rwa [show i + (k' + 1) = i + 1 + k' by omega] at this) (by rw [DSt.put_len]; exact hp)
    simpa using this
/-! ### the ring's blocks -/
def usedP (l : List (List PImg)) : Nat := (l.map fun g => g.length + 1).sum
def ringB (ep : Nat) : Nat → List (List PImg) → List Dat
  | _, [] => []
  | sq, g :: l => putP ep sq g ++ ringB ep (sq + 1) l
theorem ringB_length (ep : Nat) : ∀ (l : List (List PImg)) (sq : Nat), (ringB ep sq l).length = usedP l
  | [], _ => rfl
  | g :: l, sq => by rw [ringB, List.length_append, putP_length, ringB_length ep l]; simp [usedP]
theorem ringB_snoc (ep : Nat) : ∀ (l : List (List PImg)) (sq : Nat) (g : List PImg), ringB ep sq (l ++ [g]) = ringB ep sq l ++ putP ep (sq + l.length) g
  | [], sq, g => by simp [ringB]
  | x :: l, sq, g => by
    rw [List.cons_append, ringB, ringB_snoc ep l, ringB, List.append_assoc, List.length_cons, show sq + 1 + l.length = sq + (l.length + 1) by omega]
theorem usedP_snoc (l : List (List PImg)) (g : List PImg) : usedP (l ++ [g]) = usedP l + (g.length + 1) := by simp [usedP]
structure WI (ep tail : Nat) (z : Nat → Dat) (j : JSt) (d : DSt) (all : List (List PImg)) : Prop where
  s : j.s = 16
  t : j.t = tail
  u : j.u = (usedP all : Nat)
  h : j.h = 0
  epoch : j.epoch = ep
  next : j.next = (all.length + 1 : Nat)
  groups : j.groups.length = all.length
  broken : j.broken = false
  log : j.lay.l = 2
  wf : j.Wf
  calm : d.Calm
  dwf : d.Wf
  len : d.now.length = 64
  few : d.Few (usedP all)
  used : usedP all ≤ 16
  right : ∀ (i : Nat) (h : i < all.length), RightP ep ((i + 1 : Nat) : Int) all[i]
  ring : ∀ o, o < 16 → rbP d 2 16 (tail + o) = (ringB ep 1 all).getD o (z o)
theorem usedP_ge (l : List (List PImg)) : l.length ≤ usedP l := by
  unfold usedP
  induction l with
  | nil => simp
  | cons g l ih => simp; omega
theorem DSt.Wf.put {d : DSt} (h : d.Wf) (hc : d.Calm) {n : Int} {b : Dat} (hn : 0 ≤ n ∧ n < d.now.length) (hb : b.length = 4096) : (d.put n b).Wf := by
  have := h.write n b
  rwa [DSt.write_calm hc hn hb] at this
theorem wrD_wf (f : Nat → Int) : ∀ (bs : List Dat) (i : Nat) (d : DSt), d.Wf → d.Calm → (∀ b ∈ bs, b.length = 4096) → (∀ k, 0 ≤ f k ∧ f k < d.now.length) → (wrD f bs i d).Wf
  | [], _, _, h, _, _, _ => h
  | b :: bs, i, d, h, hc, hb, hf => wrD_wf f bs (i + 1) _ (h.put hc (hf i) (hb b (by simp))) (hc.put _ _) (fun x hx => hb x (by simp [hx])) (by rw [DSt.put_len]; exact hf)
/-- a group is appended, or there is no room -/
theorem WI.append {ep tail : Nat} {z : Nat → Dat} {j : JSt} {d : DSt} {all : List (List PImg)} (w : WI ep tail z j d all) {l : List PImg} (hR : RightP ep ((all.length + 1 : Nat) : Int) l) :
    (usedP all + (l.length + 1) ≤ 16 ∧ WI ep tail z (j.appendB d l false).1 (j.appendB d l false).2.1 (all ++ [l]) ∧ (j.appendB d l false).2.2.2 = 0) ∨
    (16 < usedP all + (l.length + 1) ∧ (j.appendB d l false).1 = j ∧ (j.appendB d l false).2.1 = d ∧ (j.appendB d l false).2.2.2 ≠ 0) := by
  have hge := usedP_ge all
  have hu := w.used
  have hll := hR.2.2.2.2.2.1
  have hR' : RightP j.epoch j.next l := by rw [w.epoch, w.next]; exact hR
  have hok := w.wf.ring
  have hokd : Ok 16 tail (usedP all : Nat) 0 := by have := hok; rw [w.s, w.t, w.u, w.h] at this; exact this
  have htl : (tail : Int) < 16 := hokd.2.2.2.1
  rcases Nat.lt_or_ge 16 (usedP all + (l.length + 1)) with hf | hf
  · right
    refine ⟨hf, ?_⟩
    unfold JSt.appendB JSt.append
    rw [if_neg (by rw [w.broken]; simp), if_neg (by simpa using hR')]
    by_cases hs : j.s < (l.length : Int) + 1
    · rw [if_pos hs]; exact ⟨rfl, rfl, by simp⟩
    rw [if_neg hs]
    have hp : putS j.s j.t j.u j.h ((l.length : Int) + 1) (if false = true then (l.length : Int) + 1 else 0) = ((0, 0, 0, 0, 5), 0) := by
      rw [w.s, w.t, w.u, w.h]
      unfold putS
      rw [if_neg (by simp only [Bool.false_eq_true, if_false]; rintro (h | h | h | h | h); exact h hokd; omega; omega; omega; omega), if_pos (by simp only [Bool.false_eq_true, if_false]; omega)]
    rw [hp]
    exact ⟨rfl, rfl, by simp⟩
  · left
    refine ⟨hf, ?_⟩
    have hp : putS j.s j.t j.u j.h ((l.length : Int) + 1) (if false = true then (l.length : Int) + 1 else 0) = ((j.s, (tail : Int), ((usedP all : Nat) : Int) + ((l.length : Int) + 1), 0, 0), ((tail : Int) + (usedP all : Nat)) % 16) := by
      rw [w.s, w.t, w.u, w.h]
      unfold putS
      rw [if_neg (by simp only [Bool.false_eq_true, if_false]; rintro (h | h | h | h | h); exact h hokd; omega; omega; omega; omega), if_neg (by simp only [Bool.false_eq_true, if_false]; omega)]
      simp only [Bool.false_eq_true, if_false, Int.sub_zero]
    have hlen16 : j.s + 2 ≤ d.now.length := by rw [w.s, w.len]; decide
    have hs1 : (l.length : Int) + 1 ≤ j.s := by rw [w.s]; omega
    obtain ⟨j', a, f1, f2, f3, f4, f5, f6, f7, f8, f9, f10, w'⟩ := JSt.append_next w.wf (by rw [w.groups]; omega) w.broken hR' hs1 w.calm hlen16 hp
    rw [a]
    have hB := putP_len (e := j.epoch.toNat) (s := j.next.toNat) hll hR.lens
    have hfl : ∀ k : Nat, (0 : Int) ≤ 2 + (((tail : Int) + (usedP all : Nat)) % 16 + k) % j.s ∧ 2 + (((tail : Int) + (usedP all : Nat)) % 16 + k) % j.s < d.now.length := by
      intro k
      rw [w.s, w.len]
      have := Int.emod_nonneg (((tail : Int) + (usedP all : Nat)) % 16 + k) (b := 16) (by decide)
      have := Int.emod_lt_of_pos (((tail : Int) + (usedP all : Nat)) % 16 + k) (b := 16) (by decide)
      omega
    have hff : (fun k : Nat => (2 : Int) + (((tail : Int) + (usedP all : Nat)) % 16 + k) % j.s) = fun k : Nat => ((2 + (tail + usedP all + k) % 16 : Nat) : Int) := by
      funext k
      rw [w.s]; omega
    refine ⟨⟨by rw [f2, w.s], f3, by rw [f4, usedP_snoc]; omega, f5, by rw [f6, w.epoch], by rw [f7, w.next, List.length_append]; rfl, by rw [f9]; simp [w.groups], f10, by rw [f1, w.log], w', wrD_calm _ _ _ _ w.calm, wrD_wf _ _ _ _ w.dwf w.calm hB hfl, by rw [wrD_len, w.len], ?_, by rw [usedP_snoc]; exact hf, ?_, ?_⟩, rfl⟩
    · have := wrD_few (fun i : Nat => (2 : Int) + (((tail : Int) + (usedP all : Nat)) % 16 + i) % j.s) (putP j.epoch.toNat j.next.toNat l) 0 d _ w.few
      rw [putP_length] at this
      rw [usedP_snoc]; exact this
    · intro i hi
      rw [List.getElem_append]
      split
      · rename_i h; exact w.right i h
      · rename_i h
        simp only [List.length_append, List.length_singleton] at hi
        obtain rfl : i = all.length := by omega
        simpa using hR
    · intro o ho
      rw [hff, ringB_snoc]
      have hrl := ringB_length ep all 1
      have he1 : j.epoch.toNat = ep := by rw [w.epoch]; rfl
      have he2 : j.next.toNat = 1 + all.length := by rw [w.next]; omega
      rw [he1, he2]
      have hpl := putP_length ep (1 + all.length) l
      obtain ⟨B, hBe⟩ : ∃ B, B = putP ep (1 + all.length) l := ⟨_, rfl⟩
      rw [← hBe] at hpl ⊢
      have hw := w.ring o ho
      unfold rbP at hw ⊢
      rw [List.getD_eq_getElem?_getD] at hw ⊢
      have inj : ∀ k, k < B.length → (2 + (tail + usedP all + k) % 16 = 2 + (tail + o) % 16 ↔ usedP all + k = o) := by
        intro k hk; omega
      by_cases hin : usedP all ≤ o ∧ o < usedP all + B.length
      · have := wrD_hit (fun k => 2 + (tail + usedP all + k) % 16) (2 + (tail + o) % 16) B 0 d (o - usedP all) (by omega) (by have := (inj (o - usedP all) (by omega)).2 (by omega); simpa using this)
          (fun k' h1 h2 h3 => by have := (inj k' h2).1 (by simpa using h3); omega) (by rw [w.len]; omega)
        rw [this, List.getD_eq_getElem?_getD, List.getElem?_append_right (by omega), hrl, List.getElem?_eq_getElem (by omega)]; rfl
      · have := wrD_miss (fun k => 2 + (tail + usedP all + k) % 16) (2 + (tail + o) % 16) B 0 d (fun k hk h3 => by have := (inj k hk).1 (by simpa using h3); omega)
        rw [this, hw]
        rw [List.getD_eq_getElem?_getD, List.getD_eq_getElem?_getD]
        rcases Nat.lt_or_ge o (usedP all) with g | g
        · rw [List.getElem?_append_left (by omega)]
        · rw [List.getElem?_eq_none (by omega), List.getElem?_eq_none (by rw [List.length_append]; omega)]
end Go.Proofs.Ytbpdbgcndfcilaa
namespace Go.Proofs.Ytbpdbgcndfcilaa
open Go.RowKit Go.Sl
set_option maxRecDepth 20000

def gsP (ep : Nat) : Nat → List (List PImg) → List G3
  | _, [] => []
  | sq, g :: l => (ep, sq, g) :: gsP ep (sq + 1) l
theorem gsP_length (ep : Nat) : ∀ (l : List (List PImg)) (sq : Nat), (gsP ep sq l).length = l.length
  | [], _ => rfl
  | _ :: l, sq => by rw [gsP, List.length_cons, gsP_length ep l, List.length_cons]
theorem gsP_sum (ep : Nat) : ∀ (l : List (List PImg)) (sq : Nat), ((gsP ep sq l).map fun g => g.2.2.length + 1).sum = usedP l
  | [], _ => rfl
  | g :: l, sq => by rw [gsP, List.map_cons, List.sum_cons, gsP_sum ep l]; simp [usedP]
theorem grpP_put {rb : Nat → Dat} {at_ room ep sq : Nat} {l : List PImg} (hR : RightP ep sq l) (hroom : l.length + 1 ≤ room) (hrb : ∀ (k : Nat) (h : k < (putP ep sq l).length), rb (at_ + k) = (putP ep sq l)[k]) : grpP rb at_ room = some (ep, sq, l) := by
  have h0 : rb at_ = hblk ep sq l := by have := hrb 0 (by rw [putP_length]; omega); simpa [putP_eq] using this
  unfold grpP
  rw [h0, hdP_put hR]
  dsimp only
  rw [List.length_map, if_pos hroom]
  have : ((List.range (l.length + 1)).map fun i => rb (at_ + i)) = putP ep sq l := by
    refine getElem_eq_of (by rw [putP_length]; simp) fun i h1 h2 => ?_
    simp only [List.getElem_map, List.getElem_range]
    exact hrb i h2
  rw [this, getP_put hR]
theorem scan_prefix (rb : Nat → Dat) (ep : Nat) : ∀ (all : List (List PImg)) (f at_ sq room : Nat), (∀ (i : Nat) (h : i < all.length), RightP ep ((sq + i : Nat) : Int) all[i]) → usedP all ≤ room → all.length ≤ f → (∀ (k : Nat) (h : k < (ringB ep sq all).length), rb (at_ + k) = (ringB ep sq all)[k]) →
    scanK rb ep f at_ sq room = gsP ep sq all ++ scanK rb ep (f - all.length) (at_ + usedP all) ((sq + all.length : Nat) : Int) (room - usedP all)
  | [], f, at_, sq, room, _, _, _, _ => by simp [gsP, usedP]
  | g :: l, 0, _, _, _, _, _, h, _ => by simp at h
  | g :: l, f + 1, at_, sq, room, hR, hu, hf, hrb => by
    have e : usedP (g :: l) = g.length + 1 + usedP l := by simp [usedP]
    have hg : grpP rb at_ room = some (ep, sq, g) := by
      refine grpP_put (hR 0 (by simp)) (by omega) fun k hk => ?_
      have := hrb k (by rw [ringB, List.length_append]; omega)
      simp only [ringB] at this
      rw [List.getElem_append_left hk] at this
      exact this
    rw [scanK, hg]
    dsimp only
    rw [if_pos ⟨rfl, rfl⟩, gsP, List.cons_append]
    congr 1
    have ih := scan_prefix rb ep l f (at_ + (g.length + 1)) (sq + 1) (room - (g.length + 1)) (fun i hi => by
        have := hR (i + 1) (by simpa using hi)
        rw [show sq + (i + 1) = sq + 1 + i by omega] at this
        simpa using this) (by omega) (by simpa using hf) (fun k hk => by
        have hpl := putP_length ep sq g
        have := hrb (g.length + 1 + k) (by rw [ringB, List.length_append, hpl]; omega)
        simp only [ringB] at this
        rw [List.getElem_append_right (by omega)] at this
        rw [show at_ + (g.length + 1) + k = at_ + (g.length + 1 + k) by omega, this]
        congr 1
        omega)
    rw [show ((sq : Nat) : Int) + 1 = ((sq + 1 : Nat) : Int) by omega, ih, List.length_cons]
    rw [show f + 1 - (l.length + 1) = f - l.length by omega, show at_ + (g.length + 1) + usedP l = at_ + usedP (g :: l) by omega, show sq + 1 + l.length = sq + (l.length + 1) by omega, show room - (g.length + 1) - usedP l = room - usedP (g :: l) by omega]
/-- where no group follows -/
theorem scan_stop {rb : Nat → Dat} {ep : Int} {f at_ room : Nat} {seq : Int} (h : ∀ e s l, grpP rb at_ room = some (e, s, l) → ¬ ((e : Int) = ep ∧ (s : Int) = seq)) : scanK rb ep f at_ seq room = [] := by
  cases f with
  | zero => rfl
  | succ f =>
    rw [scanK]
    cases hg : grpP rb at_ room with
    | none => rfl
    | some p =>
      obtain ⟨e, s, l⟩ := p
      dsimp only
      rw [if_neg (h e s l hg)]
theorem hd_noughts : hdP noughts = none := by
  have h0 : (numV noughts 0 8).1 = 0 := by
    unfold numV noughts
    rw [if_neg (by rw [List.length_replicate]; omega)]
    simp [nb]
  unfold hdP hbE
  rw [h0, if_neg (fun h => by have := h.1.1; simp at this)]
theorem grpP_none {rb : Nat → Dat} {at_ room : Nat} (h : hdP (rb at_) = none) : grpP rb at_ room = none := by unfold grpP; rw [h]
theorem grpP_zero {rb : Nat → Dat} {at_ : Nat} : grpP rb at_ 0 = none := by
  unfold grpP
  split
  · rfl
  · rw [if_neg (by omega)]
theorem layL64 : layL (64 : Int) = 16 := by decide
/-- a new ring that was written tells what was appended -/
theorem WI.scan {ep tail : Nat} {j : JSt} {d : DSt} {all : List (List PImg)} (w : WI ep tail (fun _ => noughts) j d all) (b : Int) : scanL d ⟨b, ep, 1, tail⟩ = gsP ep 1 all ∧ placeP 16 tail (scanL d ⟨b, ep, 1, tail⟩) = (tail + usedP all) % 16 := by
  have e : scanL d ⟨b, ep, 1, tail⟩ = gsP ep 1 all := by
    unfold scanL
    rw [w.len]
    show scanK (rbP d 2 (layL (64 : Int)).toNat) ep ((layL (64 : Int)).toNat + 1) ((tail : Nat) : Int).toNat 1 (layL (64 : Int)).toNat = _
    rw [layL64]
    show scanK (rbP d 2 16) ep 17 tail ((1 : Nat) : Int) 16 = _
    have hu := w.used
    have hge := usedP_ge all
    have hrl := ringB_length ep all 1
    rw [scan_prefix (rbP d 2 16) ep all 17 tail 1 16 (fun i hi => by have := w.right i hi; rwa [show 1 + i = i + 1 by omega]) hu (by omega) (fun k hk => by
      rw [w.ring k (by omega), List.getD_eq_getElem?_getD, List.getElem?_eq_getElem hk]; rfl)]
    rw [scan_stop, List.append_nil]
    intro e s l hg
    exfalso
    rcases Nat.lt_or_ge (usedP all) 16 with g | g
    · have := w.ring (usedP all) g
      rw [List.getD_eq_getElem?_getD, List.getElem?_eq_none (by omega)] at this
      have h2 : grpP (rbP d 2 16) (tail + usedP all) (16 - usedP all) = none := grpP_none (by rw [this]; exact hd_noughts)
      rw [h2] at hg; cases hg
    · rw [show 16 - usedP all = 0 by omega, grpP_zero] at hg; cases hg
  refine ⟨e, ?_⟩
  rw [e]
  unfold placeP
  rw [gsP_sum]
theorem WI.fresh {ep tail : Nat} (hep : 1 ≤ ep ∧ ep ≤ 8388608) (ht : tail < 16) : WI ep tail (fun _ => noughts) (openJ 64 ep 1 tail) (DSt.of (List.replicate 64 noughts)) [] := by
  have hlen : (List.replicate 64 noughts).length = 64 := List.length_replicate ..
  have hmem : ∀ b ∈ List.replicate 64 noughts, b.length = 4096 := fun b hb => by rw [(List.mem_replicate.1 hb).2]; exact noughts_length
  have hw : (DSt.of (List.replicate 64 noughts)).Wf := ⟨rfl, by show 1 ≤ (List.replicate 64 noughts).length ∧ (List.replicate 64 noughts).length ≤ 512; omega, hmem, hmem, fun w hw => (List.not_mem_nil hw).elim, fun h => (Bool.false_ne_true h).elim, fun h => (Bool.false_ne_true h).elim⟩
  refine ⟨layL_64', rfl, rfl, rfl, rfl, rfl, rfl, rfl, rfl, openJ_wf 64 (by omega) ⟨rfl, by omega, by omega, by omega, by omega, by omega, by rw [layL_64']; omega⟩, fresh_calm _, hw, hlen, DSt.of_few _, by simp [usedP], fun i h => by simp at h, ?_⟩
  intro o ho
  unfold rbP
  show (List.replicate 64 noughts).getD _ [] = _
  rw [List.getD_eq_getElem?_getD, List.getElem?_replicate, if_pos (by omega)]; rfl
theorem im9_pick {ep : Nat} (hep : 1 ≤ ep ∧ ep ≤ 8388608) (sz : Int) (k : Nat) (hk : k ≤ 16) : RightP ep ((k + 1 : Nat) : Int) (im9 (1 + pickS sz 5).toNat sz) := by
  have := pickS_range (n := sz) (m := 5) (by decide)
  exact im9_right ⟨by omega, by omega⟩ ⟨by omega, by omega⟩ _ (by omega) _
theorem WI.step {ep tail : Nat} {z : Nat → Dat} (hep : 1 ≤ ep ∧ ep ≤ 8388608) {j : JSt} {d : DSt} {all : List (List PImg)} (w : WI ep tail z j d all) (sz : Int) : WI ep tail z (wrtStep j d all sz).1 (wrtStep j d all sz).2.1 (wrtStep j d all sz).2.2 := by
  have hge := usedP_ge all
  have hu := w.used
  unfold wrtStep
  rcases w.append (im9_pick hep sz all.length (by omega)) with ⟨_, h1, h2⟩ | ⟨_, h1, h2, h3⟩
  · dsimp only; rw [if_pos h2]; exact h1
  · dsimp only; rw [if_neg h3, h1, h2]; exact w
theorem WI.all {ep tail : Nat} {z : Nat → Dat} (hep : 1 ≤ ep ∧ ep ≤ 8388608) : ∀ (l : List Int) (x : JSt × DSt × List (List PImg)), WI ep tail z x.1 x.2.1 x.2.2 → WI ep tail z (wrtK x l).1 (wrtK x l).2.1 (wrtK x l).2.2
  | [], _, h => h
  | s :: l, _, h => WI.all hep l _ (h.step hep s)
end Go.Proofs.Ytbpdbgcndfcilaa
namespace Go.Proofs.Ytbpdbgcndfcilaa
open Go.RowKit Go.Sl
set_option maxRecDepth 20000

structure ImsAt (J : Imm) (aS : Option Addr) (ms : List Ims) (all : List (List PImg)) : Prop where
  rd : Rds J aS ms.length (ms.map Ims.cell)
  each : ∀ m ∈ ms, ImgsOk J m.a m.gs
  pr : ms.map Ims.pr = all
theorem ImsAt.mono {I J : Imm} {aS : Option Addr} {ms : List Ims} {all : List (List PImg)} (h : ImsAt I aS ms all) (hJ : I.le J) : ImsAt J aS ms all := ⟨h.rd.mono hJ, fun m hm => (h.each m hm).mono hJ, h.pr⟩
theorem wrtP_wi {ep tail : Nat} (hep : 1 ≤ ep ∧ ep ≤ 8388608) (ht : tail < 16) (l : List Int) : WI ep tail (fun _ => noughts) (wrtP ep tail l).1 (wrtP ep tail l).2.1 (wrtP ep tail l).2.2 := WI.all hep _ _ (WI.fresh hep ht)
set_option maxHeartbeats 4000000 in
theorem written9 (I : Imm) (ep tail : Nat) (hep : 1 ≤ ep ∧ ep ≤ 8388608) (ht : tail < 16) (aZ : Option Addr) (n capZ : Nat) (z : List Int) (hz : z.length = n) (hz2 : ∀ x ∈ z, In64 x) (hZ : Rds I aZ n (ints z)) :
    Tri Try.prog 32 #[.int .i64 ep, .int .i64 tail, .slice aZ n capZ] I [] fun v J S' => ∃ bD chD aS capS, ∃ ms : List Ims, v = .tuple #[.pointer (some ⟨bD, 0, none⟩), .slice aS ms.length capS, .bool true] ∧ Dk J bD (wrtP ep tail z).2.1 chD ∧ ImsAt J aS ms (wrtP ep tail z).2.2 ∧ ms.length ≤ capS ∧ S' = [chD] := by
  refine Tri.drop (Tri.fixed (Q := fun v J S' => ∃ bD chD aS capS chS, ∃ ms : List Ims, v = .tuple #[.pointer (some ⟨bD, 0, none⟩), .slice aS ms.length capS, .bool true] ∧ Dk J bD (wrtP ep tail z).2.1 chD ∧ OwnC chS 1 aS ms.length capS (ms.map Ims.cell) ∧ (∀ m ∈ ms, ImgsOk J m.a m.gs) ∧ ms.map Ims.pr = (wrtP ep tail z).2.2 ∧ S' = [chD, chS]) ?_
    (K := fun v J S' => ∃ bD chD aS capS, ∃ ms : List Ims, v = .tuple #[.pointer (some ⟨bD, 0, none⟩), .slice aS ms.length capS, .bool true] ∧ Dk J bD (wrtP ep tail z).2.1 chD ∧ ImsAt J aS ms (wrtP ep tail z).2.2 ∧ ms.length ≤ capS ∧ S' = [chD, []]) ?_) ?_
  rotate_left
  · rintro v J S' hJ ⟨bD, chD, aS, capS, chS, ms, rfl, hD, hS, hms, hp, rfl⟩
    exact ⟨1, chS, rfl, fun J' hJ' hm => ⟨bD, chD, aS, capS, ms, rfl, hD.mono hJ', ⟨Rds.of_own hS hm, fun m hm => (hms m hm).mono hJ', hp⟩, hS.le, rfl⟩⟩
  · rintro v J S' hJ ⟨bD, chD, aS, capS, ms, rfl, hD, hms, hle, rfl⟩
    exact ⟨[chD], Drop.pick [0] _ rfl, bD, chD, aS, capS, ms, rfl, hD, hms, hle, rfl⟩
  refine Tri.drop ?_ (fun _ _ _ _ h => h)
  refine Tri.of (args := [.int .i64 ep, .int .i64 tail, .slice aZ n capZ]) tabOk Try.func32 rfl (by kernel_rfl) (by kernel_rfl) ?_
  refine Tri.frameX (dk_New I 64 (by omega)) [] rfl rfl ?_
  rintro v J1 A' hJ1 ⟨bD, chD, rfl, hD, rfl⟩
  refine Tri.free (ref_Of 64 J1) ?_
  rintro v J2 _ hJ2 ⟨rfl, rfl⟩
  rw [layA, if_neg (by omega)]
  conv => whnf
  intro b11
  repeat (first
    | refine LoadD.own 0 rfl _ rfl rfl ?_
    | refine LoadD.own 1 rfl _ rfl rfl ?_
    | refine LoadD.own 2 rfl _ rfl rfl ?_
    | refine LoadP.at 0 rfl _ rfl rfl ?_
    | refine LoadP.at 1 rfl _ rfl rfl ?_
    | refine LoadP.at 2 rfl _ rfl rfl ?_
    | refine StoreD.st 0 rfl rfl rfl ?_
    | refine StoreD.st 1 rfl rfl rfl ?_
    | refine StoreD.st 2 rfl rfl rfl ?_
    | refine CmpD.yes rfl ?_
    | refine CmpD.yes (by decide) ?_
    | refine CmpD.no (by decide) ?_
    | refine Chk.mk ⟨rfl, trivial⟩ ?_
    | refine Chk.mk ⟨rfl, rfl, trivial⟩ ?_
    | refine Chk.mk ⟨rfl, rfl, rfl, trivial⟩ ?_
    | refine Chk.mk ⟨rfl, rfl, rfl, rfl, trivial⟩ ?_
    | refine Chk.mk ⟨rfl, rfl, rfl, rfl, rfl, trivial⟩ ?_
    | refine Chk.mk ⟨rfl, rfl, rfl, rfl, rfl, rfl, trivial⟩ ?_)
  refine Tri.frame (jk_Open hD 64 List.length_replicate (by omega) (layOf 64) ep 1 tail (by unfold In64; omega)) [0] rfl rfl ?_
  have hok : OpenOk 64 (layOf 64) ep 1 tail := ⟨rfl, by omega, by omega, by omega, by omega, by omega, by rw [layL_64']; omega⟩
  rintro v J3 A' hJ3 (⟨hno, _⟩ | ⟨_, rfl, bJ, chJ, rfl, hJk, rfl⟩)
  · exact absurd hok hno
  refine ⟨by simp, ?_⟩
  repeat (first
    | refine LoadD.own 0 rfl _ rfl rfl ?_
    | refine LoadD.own 1 rfl _ rfl rfl ?_
    | refine LoadD.own 2 rfl _ rfl rfl ?_
    | refine LoadP.at 0 rfl _ rfl rfl ?_
    | refine LoadP.at 1 rfl _ rfl rfl ?_
    | refine LoadP.at 2 rfl _ rfl rfl ?_
    | refine StoreD.st 0 rfl rfl rfl ?_
    | refine StoreD.st 1 rfl rfl rfl ?_
    | refine StoreD.st 2 rfl rfl rfl ?_
    | refine CmpD.yes rfl ?_
    | refine CmpD.yes (by decide) ?_
    | refine CmpD.no (by decide) ?_
    | refine Chk.mk ⟨rfl, trivial⟩ ?_
    | refine Chk.mk ⟨rfl, rfl, trivial⟩ ?_
    | refine Chk.mk ⟨rfl, rfl, rfl, trivial⟩ ?_
    | refine Chk.mk ⟨rfl, rfl, rfl, rfl, trivial⟩ ?_
    | refine Chk.mk ⟨rfl, rfl, rfl, rfl, rfl, trivial⟩ ?_
    | refine Chk.mk ⟨rfl, rfl, rfl, rfl, rfl, rfl, trivial⟩ ?_)
  have hw0 := WI.fresh hep ht
  refine CodeF.loopD [2, 9, 13, 15, 16] (fun vs J' S' => ∃ (i : Nat) (x : JSt × DSt × List (List PImg)) (chD chJ chS : List Blk) (aS : Option Addr) (capS : Nat) (ms : List Ims), i ≤ z.length ∧ i ≤ 12 ∧ x = wrtK (wrt0 ep tail) (z.take i) ∧ Dk J' bD x.2.1 chD ∧ Jk bJ bD x.1 chJ ∧ OwnC chS 1 aS ms.length capS (ms.map Ims.cell) ∧ (∀ m ∈ ms, ImgsOk J' m.a m.gs) ∧ ms.map Ims.pr = x.2.2 ∧ J1.le J' ∧
      vs = [.slice aZ n capZ, .pointer (some ⟨bD, 0, none⟩), .pointer (some ⟨bJ, 0, none⟩), .slice aS ms.length capS, .int .i64 i] ∧ S' = [chD, chJ, chS])
    (fun vs _ _ => match vs with | [_, _, _, _, .int _ i] => ((n : Int) - i).toNat | _ => 0) ?_ ?_
  · exact ⟨_, Drop.and (Drop.pick [0, 2] _ rfl), 0, _, chD, chJ, [], none, 0, [], by omega, by omega, rfl, hD, hJk, OwnC.nil _ _, by simp, rfl, Imm.le_refl _, rfl, rfl⟩
  rintro vs gE J' S' hJ' ⟨i, ⟨j, d, all⟩, chD, chJ, chS, aS, capS, ms, hi, hi12, hx, hD, hJk, hS, hms, hmp, hle, rfl, rfl⟩
  have hw : WI ep tail (fun _ => noughts) j d all := by have := WI.all hep (z.take i) (wrt0 ep tail) hw0; rw [← hx] at this; exact this
  have hge := usedP_ge all
  have hu := hw.used
  dsimp only at hD hJk hmp
  have hml : ms.length = all.length := by rw [← hmp, List.length_map]
  have stop : z.take i = z.take 12 → ∃ S'', Drop [chD, chJ, chS] S'' ∧ ∃ bD' chD' aS' capS' chS', ∃ ms' : List Ims, Value.tuple #[.pointer (some ⟨bD, 0, none⟩), .slice aS ms.length capS, .bool true] = .tuple #[.pointer (some ⟨bD', 0, none⟩), .slice aS' ms'.length capS', .bool true] ∧ Dk J' bD' (wrtP ep tail z).2.1 chD' ∧ OwnC chS' 1 aS' ms'.length capS' (ms'.map Ims.cell) ∧ (∀ m ∈ ms', ImgsOk J' m.a m.gs) ∧ ms'.map Ims.pr = (wrtP ep tail z).2.2 ∧ S'' = [chD', chS'] := by
    intro h
    have e : wrtP ep tail z = (j, d, all) := by unfold wrtP; rw [← h, ← hx]
    rw [e]
    exact ⟨[chD, chS], Drop.pick [0, 2] _ rfl, bD, chD, aS, capS, chS, ms, rfl, hD, hS, hms, hmp, rfl⟩
  refine CmpD.split (fun c1 => ?_) (fun c1 => ?_)
  rotate_left
  · repeat (first
      | refine LoadD.own 0 rfl _ rfl rfl ?_
      | refine LoadD.own 1 rfl _ rfl rfl ?_
      | refine LoadD.own 2 rfl _ rfl rfl ?_
      | refine LoadP.at 0 rfl _ rfl rfl ?_
      | refine LoadP.at 1 rfl _ rfl rfl ?_
      | refine LoadP.at 2 rfl _ rfl rfl ?_
      | refine StoreD.st 0 rfl rfl rfl ?_
      | refine StoreD.st 1 rfl rfl rfl ?_
      | refine StoreD.st 2 rfl rfl rfl ?_
      | refine CmpD.yes rfl ?_
      | refine CmpD.yes (by decide) ?_
      | refine CmpD.no (by decide) ?_
      | refine Chk.mk ⟨rfl, trivial⟩ ?_
      | refine Chk.mk ⟨rfl, rfl, trivial⟩ ?_
      | refine Chk.mk ⟨rfl, rfl, rfl, trivial⟩ ?_
      | refine Chk.mk ⟨rfl, rfl, rfl, rfl, trivial⟩ ?_
      | refine Chk.mk ⟨rfl, rfl, rfl, rfl, rfl, trivial⟩ ?_
      | refine Chk.mk ⟨rfl, rfl, rfl, rfl, rfl, rfl, trivial⟩ ?_)
    exact Done.mk (stop (by rw [List.take_of_length_le (by omega), List.take_of_length_le (by omega)]))
  repeat (first
    | refine LoadD.own 0 rfl _ rfl rfl ?_
    | refine LoadD.own 1 rfl _ rfl rfl ?_
    | refine LoadD.own 2 rfl _ rfl rfl ?_
    | refine LoadP.at 0 rfl _ rfl rfl ?_
    | refine LoadP.at 1 rfl _ rfl rfl ?_
    | refine LoadP.at 2 rfl _ rfl rfl ?_
    | refine StoreD.st 0 rfl rfl rfl ?_
    | refine StoreD.st 1 rfl rfl rfl ?_
    | refine StoreD.st 2 rfl rfl rfl ?_
    | refine CmpD.yes rfl ?_
    | refine CmpD.yes (by decide) ?_
    | refine CmpD.no (by decide) ?_
    | refine Chk.mk ⟨rfl, trivial⟩ ?_
    | refine Chk.mk ⟨rfl, rfl, trivial⟩ ?_
    | refine Chk.mk ⟨rfl, rfl, rfl, trivial⟩ ?_
    | refine Chk.mk ⟨rfl, rfl, rfl, rfl, trivial⟩ ?_
    | refine Chk.mk ⟨rfl, rfl, rfl, rfl, rfl, trivial⟩ ?_
    | refine Chk.mk ⟨rfl, rfl, rfl, rfl, rfl, rfl, trivial⟩ ?_)
  refine CmpD.split (fun c2 => ?_) (fun c2 => ?_)
  rotate_left
  · repeat (first
      | refine LoadD.own 0 rfl _ rfl rfl ?_
      | refine LoadD.own 1 rfl _ rfl rfl ?_
      | refine LoadD.own 2 rfl _ rfl rfl ?_
      | refine LoadP.at 0 rfl _ rfl rfl ?_
      | refine LoadP.at 1 rfl _ rfl rfl ?_
      | refine LoadP.at 2 rfl _ rfl rfl ?_
      | refine StoreD.st 0 rfl rfl rfl ?_
      | refine StoreD.st 1 rfl rfl rfl ?_
      | refine StoreD.st 2 rfl rfl rfl ?_
      | refine CmpD.yes rfl ?_
      | refine CmpD.yes (by decide) ?_
      | refine CmpD.no (by decide) ?_
      | refine Chk.mk ⟨rfl, trivial⟩ ?_
      | refine Chk.mk ⟨rfl, rfl, trivial⟩ ?_
      | refine Chk.mk ⟨rfl, rfl, rfl, trivial⟩ ?_
      | refine Chk.mk ⟨rfl, rfl, rfl, rfl, trivial⟩ ?_
      | refine Chk.mk ⟨rfl, rfl, rfl, rfl, rfl, trivial⟩ ?_
      | refine Chk.mk ⟨rfl, rfl, rfl, rfl, rfl, rfl, trivial⟩ ?_)
    exact Done.mk (stop (by rw [show i = 12 by omega]))
  have hlt : i < z.length := by omega
  have htk : z.take (i + 1) = z.take i ++ [z[i]] := by rw [List.take_add_one, List.getElem?_eq_getElem hlt]; rfl
  have hz64 := hz2 _ (List.getElem_mem hlt)
  have hcell : (ints z)[i]? = some (.int .i64 z[i]) := ints_get (List.getElem?_eq_getElem hlt)
  have hpk := pickS_range (n := z[i]) (m := 5) (by decide)
  have hR := im9_pick hep z[i] all.length (by omega)
  have hxi : wrtK (wrt0 ep tail) (z.take (i + 1)) = wrtStep j d all z[i] := by rw [htk]; unfold wrtK at hx ⊢; rw [List.foldl_append, ← hx]; rfl
  rcases hZ.mem with q0 | ⟨bZ, oZ, cZ, TZ, fZ, rfl, hIZ, hcZ⟩
  · omega
  have hIZ2 := (Imm.le_trans hJ1 hle) _ _ hIZ
  generalize z[i] = sz at *
  obtain ⟨ln, hln⟩ : ∃ ln : Nat, 1 + pickS sz 5 = ln := ⟨(1 + pickS sz 5).toNat, by omega⟩
  have hln2 : (1 + pickS sz 5).toNat = ln := by omega
  repeat (first
    | refine LoadD.own 0 rfl _ rfl rfl ?_
    | refine LoadD.own 1 rfl _ rfl rfl ?_
    | refine LoadD.own 2 rfl _ rfl rfl ?_
    | refine LoadP.at 0 rfl _ rfl rfl ?_
    | refine LoadP.at 1 rfl _ rfl rfl ?_
    | refine LoadP.at 2 rfl _ rfl rfl ?_
    | refine StoreD.st 0 rfl rfl rfl ?_
    | refine StoreD.st 1 rfl rfl rfl ?_
    | refine StoreD.st 2 rfl rfl rfl ?_
    | refine CmpD.yes rfl ?_
    | refine CmpD.yes (by decide) ?_
    | refine CmpD.no (by decide) ?_
    | refine Chk.mk ⟨rfl, trivial⟩ ?_
    | refine Chk.mk ⟨rfl, rfl, trivial⟩ ?_
    | refine Chk.mk ⟨rfl, rfl, rfl, trivial⟩ ?_
    | refine Chk.mk ⟨rfl, rfl, rfl, rfl, trivial⟩ ?_
    | refine Chk.mk ⟨rfl, rfl, rfl, rfl, rfl, trivial⟩ ?_
    | refine Chk.mk ⟨rfl, rfl, rfl, rfl, rfl, rfl, trivial⟩ ?_)
  refine CodeF.sched [[], [], [0, 1], [0, 1, 2], [0, 1, 2, 3], [0, 1, 2, 3, 4], [], [], [6, 7], [6, 7, 8], [0, 1, 2, 3, 4, 5, 6, 7, 8, 9], [0, 1, 2, 3, 4, 5, 6, 7, 8, 9, 10]] [0, 1, 2, 3, 6, 7, 8, 9, 4, 5, 10, 11] (by kernel_rfl) ?_
  refine Chk.mk (by omega) ?_
  refine LoadP.imm [.int .i64 sz] ⟨cZ, TZ, fZ, .imm hIZ2, take_get hcZ hcell, rfl⟩ ?_
  refine Chk.mk (by omega) ?_
  refine LoadP.imm [.int .i64 sz] ⟨cZ, TZ, fZ, .imm hIZ2, take_get hcZ hcell, rfl⟩ ?_
  refine Tri.free (low_Pick sz 5 J' hz64 (by unfold In64; omega)) ?_
  rintro v _ _ hJ4 ⟨rfl, rfl⟩
  repeat (first
    | refine LoadD.own 0 rfl _ rfl rfl ?_
    | refine LoadD.own 1 rfl _ rfl rfl ?_
    | refine LoadD.own 2 rfl _ rfl rfl ?_
    | refine LoadP.at 0 rfl _ rfl rfl ?_
    | refine LoadP.at 1 rfl _ rfl rfl ?_
    | refine LoadP.at 2 rfl _ rfl rfl ?_
    | refine StoreD.st 0 rfl rfl rfl ?_
    | refine StoreD.st 1 rfl rfl rfl ?_
    | refine StoreD.st 2 rfl rfl rfl ?_
    | refine CmpD.yes rfl ?_
    | refine CmpD.yes (by decide) ?_
    | refine CmpD.no (by decide) ?_
    | refine Chk.mk ⟨rfl, trivial⟩ ?_
    | refine Chk.mk ⟨rfl, rfl, trivial⟩ ?_
    | refine Chk.mk ⟨rfl, rfl, rfl, trivial⟩ ?_
    | refine Chk.mk ⟨rfl, rfl, rfl, rfl, trivial⟩ ?_
    | refine Chk.mk ⟨rfl, rfl, rfl, rfl, rfl, trivial⟩ ?_
    | refine Chk.mk ⟨rfl, rfl, rfl, rfl, rfl, rfl, trivial⟩ ?_)
  refine ToD.to (ln : Int) (by rw [wrap_i64 (by omega) (by omega)]; exact hln) ?_
  refine Tri.free (images9 ln (by omega) sz J') ?_
  rintro v J5 _ hJ5 ⟨aI, capI, gs, rfl, hgs, hgp⟩
  have hgl : gs.length = ln := by have := congrArg List.length hgp; simpa [im9_length] using this
  repeat (first
    | refine LoadD.own 0 rfl _ rfl rfl ?_
    | refine LoadD.own 1 rfl _ rfl rfl ?_
    | refine LoadD.own 2 rfl _ rfl rfl ?_
    | refine LoadP.at 0 rfl _ rfl rfl ?_
    | refine LoadP.at 1 rfl _ rfl rfl ?_
    | refine LoadP.at 2 rfl _ rfl rfl ?_
    | refine StoreD.st 0 rfl rfl rfl ?_
    | refine StoreD.st 1 rfl rfl rfl ?_
    | refine StoreD.st 2 rfl rfl rfl ?_
    | refine CmpD.yes rfl ?_
    | refine CmpD.yes (by decide) ?_
    | refine CmpD.no (by decide) ?_
    | refine Chk.mk ⟨rfl, trivial⟩ ?_
    | refine Chk.mk ⟨rfl, rfl, trivial⟩ ?_
    | refine Chk.mk ⟨rfl, rfl, rfl, trivial⟩ ?_
    | refine Chk.mk ⟨rfl, rfl, rfl, rfl, trivial⟩ ?_
    | refine Chk.mk ⟨rfl, rfl, rfl, rfl, rfl, trivial⟩ ?_
    | refine Chk.mk ⟨rfl, rfl, rfl, rfl, rfl, rfl, trivial⟩ ?_)
  refine Tri.frame (jk_Append hJk hw.wf (hD.mono hJ5) (hw.few.mono (by omega)) (by rw [hw.groups]; omega) aI capI gs hgs (by omega) false) [1, 0] rfl rfl ?_
  rw [hgp]
  rw [← hln2] at hgp ⊢
  have hxi1 := congrArg (·.1) hxi
  have hxi2 := congrArg (·.2.1) hxi
  have hxi3 := congrArg (·.2.2) hxi
  unfold wrtStep at hxi1 hxi2 hxi3
  dsimp only at hxi1 hxi2 hxi3
  generalize j.appendB d (im9 (1 + pickS sz 5).toNat sz) false = ap at *
  obtain ⟨j2, d2, sq2, e2⟩ := ap
  dsimp only at hxi1 hxi2 hxi3 ⊢
  rintro v J6 A' hJ6 ⟨rfl, chJ2, chD2, hJ2, hD2, rfl⟩
  refine ⟨Nat.le_refl _, ?_⟩
  have hle6 := Imm.le_trans hle (Imm.le_trans hJ5 hJ6)
  have hms6 : ∀ m ∈ ms, ImgsOk J6 m.a m.gs := fun m hm => (hms m hm).mono (Imm.le_trans hJ5 hJ6)
  repeat (first
    | refine LoadD.own 0 rfl _ rfl rfl ?_
    | refine LoadD.own 1 rfl _ rfl rfl ?_
    | refine LoadD.own 2 rfl _ rfl rfl ?_
    | refine LoadP.at 0 rfl _ rfl rfl ?_
    | refine LoadP.at 1 rfl _ rfl rfl ?_
    | refine LoadP.at 2 rfl _ rfl rfl ?_
    | refine StoreD.st 0 rfl rfl rfl ?_
    | refine StoreD.st 1 rfl rfl rfl ?_
    | refine StoreD.st 2 rfl rfl rfl ?_
    | refine CmpD.yes rfl ?_
    | refine CmpD.yes (by decide) ?_
    | refine CmpD.no (by decide) ?_
    | refine Chk.mk ⟨rfl, trivial⟩ ?_
    | refine Chk.mk ⟨rfl, rfl, trivial⟩ ?_
    | refine Chk.mk ⟨rfl, rfl, rfl, trivial⟩ ?_
    | refine Chk.mk ⟨rfl, rfl, rfl, rfl, trivial⟩ ?_
    | refine Chk.mk ⟨rfl, rfl, rfl, rfl, rfl, trivial⟩ ?_
    | refine Chk.mk ⟨rfl, rfl, rfl, rfl, rfl, rfl, trivial⟩ ?_)
  refine CmpD.split (fun c3 => ?_) (fun c3 => ?_)
  · repeat (first
      | refine LoadD.own 0 rfl _ rfl rfl ?_
      | refine LoadD.own 1 rfl _ rfl rfl ?_
      | refine LoadD.own 2 rfl _ rfl rfl ?_
      | refine LoadP.at 0 rfl _ rfl rfl ?_
      | refine LoadP.at 1 rfl _ rfl rfl ?_
      | refine LoadP.at 2 rfl _ rfl rfl ?_
      | refine StoreD.st 0 rfl rfl rfl ?_
      | refine StoreD.st 1 rfl rfl rfl ?_
      | refine StoreD.st 2 rfl rfl rfl ?_
      | refine CmpD.yes rfl ?_
      | refine CmpD.yes (by decide) ?_
      | refine CmpD.no (by decide) ?_
      | refine Chk.mk ⟨rfl, trivial⟩ ?_
      | refine Chk.mk ⟨rfl, rfl, trivial⟩ ?_
      | refine Chk.mk ⟨rfl, rfl, rfl, trivial⟩ ?_
      | refine Chk.mk ⟨rfl, rfl, rfl, rfl, trivial⟩ ?_
      | refine Chk.mk ⟨rfl, rfl, rfl, rfl, rfl, trivial⟩ ?_
      | refine Chk.mk ⟨rfl, rfl, rfl, rfl, rfl, rfl, trivial⟩ ?_)
    conv => whnf
    intro bN
    refine appendD tabOk rfl rfl rfl rfl rfl rfl rfl 2 rfl hS (SrcOk.slice (n := 1) (news := [Ims.cell ⟨aI, capI, gs⟩]) tabOk rfl ((OwnC.whole (len := 1) (size := 1) rfl).slC 3 rfl) (by intro v hv; simp only [List.mem_singleton] at hv; subst hv; rfl)) rfl (by show (ms.length + 1) * 24 ≤ _; omega) (by omega) ?_
    intro a2 cap2 ch2 hO2
    refine ToD.i64 (by omega) (by omega) ?_
    have hml3 : (ms ++ [⟨aI, capI, gs⟩] : List Ims).length = ms.length + 1 := by simp
    refine ⟨_, Drop.pick [0, 1, 2] _ rfl, ⟨i + 1, _, chD2, chJ2, ch2, a2, cap2, ms ++ [⟨aI, capI, gs⟩], by omega, by omega, rfl, by rw [hxi2]; exact hD2, by rw [hxi1]; exact hJ2, by rw [hml3, List.map_append]; exact hO2, ?_, ?_, hle6, by rw [hml3]; rfl, rfl⟩, ?_⟩
    · intro m hm
      rcases List.mem_append.1 hm with hm | hm
      · exact hms6 m hm
      · simp only [List.mem_singleton] at hm
        subst hm
        exact hgs.mono hJ6
    · rw [hxi3, if_pos c3, List.map_append, hmp]
      show _ ++ [gs.map Img.pr] = _
      rw [hgp]
    · show ((n : Int) - ((i : Int) + 1)).toNat < ((n : Int) - (i : Int)).toNat; omega
  · repeat (first
      | refine LoadD.own 0 rfl _ rfl rfl ?_
      | refine LoadD.own 1 rfl _ rfl rfl ?_
      | refine LoadD.own 2 rfl _ rfl rfl ?_
      | refine LoadP.at 0 rfl _ rfl rfl ?_
      | refine LoadP.at 1 rfl _ rfl rfl ?_
      | refine LoadP.at 2 rfl _ rfl rfl ?_
      | refine StoreD.st 0 rfl rfl rfl ?_
      | refine StoreD.st 1 rfl rfl rfl ?_
      | refine StoreD.st 2 rfl rfl rfl ?_
      | refine CmpD.yes rfl ?_
      | refine CmpD.yes (by decide) ?_
      | refine CmpD.no (by decide) ?_
      | refine Chk.mk ⟨rfl, trivial⟩ ?_
      | refine Chk.mk ⟨rfl, rfl, trivial⟩ ?_
      | refine Chk.mk ⟨rfl, rfl, rfl, trivial⟩ ?_
      | refine Chk.mk ⟨rfl, rfl, rfl, rfl, trivial⟩ ?_
      | refine Chk.mk ⟨rfl, rfl, rfl, rfl, rfl, trivial⟩ ?_
      | refine Chk.mk ⟨rfl, rfl, rfl, rfl, rfl, rfl, trivial⟩ ?_)
    refine ToD.i64 (by omega) (by omega) ?_
    refine ⟨_, Drop.pick [0, 1, 2] _ rfl, ⟨i + 1, _, chD2, chJ2, chS, aS, capS, ms, by omega, by omega, rfl, by rw [hxi2]; exact hD2, by rw [hxi1]; exact hJ2, hS, hms6, by rw [hxi3, if_neg c3]; exact hmp, hle6, rfl, rfl⟩, ?_⟩
    show ((n : Int) - ((i : Int) + 1)).toNat < ((n : Int) - (i : Int)).toNat; omega
end Go.Proofs.Ytbpdbgcndfcilaa
namespace Go.Proofs.Ytbpdbgcndfcilaa
open Go.RowKit Go.Sl
set_option maxRecDepth 20000

end Go.Proofs.Ytbpdbgcndfcilaa
namespace Go.Proofs.Ytbpdbgcndfcilaa
open Go.RowKit Go.Sl
set_option maxRecDepth 20000

def DoOk (d : DSt) (l : List PImg) : Prop := ∀ g ∈ l, 2 ≤ g.1 ∧ g.1 < d.now.length ∧ g.2.length = 4096
instance (d : DSt) (l : List PImg) : Decidable (DoOk d l) := by unfold DoOk; infer_instance
end Go.Proofs.Ytbpdbgcndfcilaa
namespace Go.Proofs.Ytbpdbgcndfcilaa
open Go.RowKit Go.Sl
set_option maxRecDepth 20000

@[reducible] def rBox (b : Nat) (s w : Hd) (count : Int) (down : Bool) (arm fault : Int) : List Blk := [(b, row [s.v, w.v, .int .i64 count, .bool down, .int .i64 arm, .int .i64 fault] 79)]
@[reducible] def sBox (b : Nat) (s : Sup) : List Blk := [(b, row [.int .i64 s.blocks, .int .i64 s.epoch, .int .i64 s.seq, .int .i64 s.tail] 56)]
end Go.Proofs.Ytbpdbgcndfcilaa
namespace Go.Proofs.Ytbpdbgcndfcilaa
open Go.RowKit Go.Sl
set_option maxRecDepth 20000

end Go.Proofs.Ytbpdbgcndfcilaa
namespace Go.Proofs.Ytbpdbgcndfcilaa
open Go.RowKit Go.Sl
set_option maxRecDepth 20000

end Go.Proofs.Ytbpdbgcndfcilaa
namespace Go.Proofs.Ytbpdbgcndfcilaa
open Go.RowKit Go.Sl
set_option maxRecDepth 20000

end Go.Proofs.Ytbpdbgcndfcilaa
namespace Go.Proofs.Ytbpdbgcndfcilaa
open Go.RowKit Go.Sl
set_option maxRecDepth 20000

end Go.Proofs.Ytbpdbgcndfcilaa
namespace Go.Proofs.Ytbpdbgcndfcilaa
open Go.RowKit Go.Sl
set_option maxRecDepth 20000

theorem flush_calm {d : DSt} (h : d.Calm) : d.flush = ({ d with safe := d.now, writes := [] }, 0) := by
  unfold DSt.flush; rw [DSt.stop_calm h]; simp
end Go.Proofs.Ytbpdbgcndfcilaa
namespace Go.Proofs.Ytbpdbgcndfcilaa
open Go.RowKit Go.Sl
set_option maxRecDepth 20000

theorem imgsR_of {I : Imm} {S : St} {a : Option Addr} {gs : List Img} (h : ImgsOk I a gs) : ImgsR I S a gs := ⟨h.1.slC, fun g hg => ⟨(h.2 g hg).2.slC⟩⟩
end Go.Proofs.Ytbpdbgcndfcilaa
namespace Go.Proofs.Ytbpdbgcndfcilaa
open Go.RowKit Go.Sl
set_option maxRecDepth 20000

theorem gsP_get (ep : Nat) : ∀ (l : List (List PImg)) (sq i : Nat) (h : i < l.length) (h' : i < (gsP ep sq l).length), (gsP ep sq l)[i] = (ep, sq + i, l[i])
  | [], _, i, h, _ => by simp at h
  | g :: l, sq, 0, _, _ => rfl
  | g :: l, sq, i + 1, h, h' => by
    simp only [gsP, List.getElem_cons_succ]
    rw [gsP_get ep l (sq + 1) i (by simpa using h), show sq + 1 + i = sq + (i + 1) by omega]
theorem grpCells_0 {l : List Grp} {i : Nat} (h : i < l.length) : (grpCells l)[i * 3]? = some (.int .i64 l[i].e) := by
  have := congrArg (·[0]?) (grpCells_at h)
  simpa using this
theorem grpCells_1 {l : List Grp} {i : Nat} (h : i < l.length) : (grpCells l)[i * 3 + 1]? = some (.int .i64 l[i].s) := by
  have := congrArg (·[1]?) (grpCells_at h)
  simpa using this
theorem grpCells_2 {l : List Grp} {i : Nat} (h : i < l.length) : (grpCells l)[i * 3 + 2]? = some (.slice l[i].a l[i].gs.length l[i].cap) := by
  have := congrArg (·[2]?) (grpCells_at h)
  simpa using this
set_option maxHeartbeats 1000000 in
theorem same9 (I : Imm) (aO : Option Addr) (capO : Nat) (gl : List Grp) (L : List G3) (hO : Rds I aO (gl.length * 3) (grpCells gl)) (hg : GrpsOk I gl L) (aS : Option Addr) (capS : Nat) (ms : List Ims) (all : List (List PImg)) (hms : ImsAt I aS ms all) (ep : Nat) (hL : L = gsP ep 1 all) (hfew : all.length ≤ 1000 ∧ ∀ g ∈ all, g.length ≤ 1000) :
    Tri Try.prog 41 #[.slice aO gl.length capO, .slice aS ms.length capS, .int .i64 ep] I [] fun v _ _ => v = .bool true := by
  have hl1 := hg.len
  have hl2 : ms.length = all.length := by rw [← hms.pr, List.length_map]
  rw [hL, gsP_length] at hl1
  refine Tri.of (args := [.slice aO gl.length capO, .slice aS ms.length capS, .int .i64 ep]) tabOk Try.func41 rfl (by kernel_rfl) (by kernel_rfl) ?_
  refine CmpD.yes (by omega) ?_
  refine CodeF.loopD [0, 1, 2, 7] (fun vs J' S' => ∃ i : Nat, i ≤ gl.length ∧ vs = [.slice aO gl.length capO, .slice aS ms.length capS, .int .i64 ep, .int .i64 i] ∧ I = J' ∧ S' = [])
    (fun vs _ _ => match vs with | [_, _, _, .int _ i] => ((gl.length : Int) - i).toNat | _ => 0) ?_ ?_
  · exact ⟨_, Drop.refl _, 0, by omega, rfl, rfl, rfl⟩
  rintro vs gE J' S' hJ' ⟨i, hi, rfl, rfl, rfl⟩
  refine CmpD.split (fun c1 => ?_) (fun c1 => ?_)
  · have hlt : i < gl.length := by omega
    have hlt2 : i < ms.length := by omega
    have k0 := grpCells_0 hlt
    have k1 := grpCells_1 hlt
    have k2 := grpCells_2 hlt
    have hm : (ms.map Ims.cell)[i]? = some ms[i].cell := by rw [List.getElem?_map, List.getElem?_eq_getElem hlt2]; rfl
    have hmo := hms.each _ (List.getElem_mem hlt2)
    have hgo := hg.each _ (List.getElem_mem hlt)
    have hmp : ms[i].gs.map Img.pr = all[i]'(by omega) := by
      have : (ms.map Ims.pr)[i]'(by rw [List.length_map]; exact hlt2) = all[i]'(by omega) := by simp only [hms.pr]
      rw [List.getElem_map] at this; exact this
    have hfi := hfew.2 _ (List.getElem_mem (by omega : i < all.length))
    have hg3 : gl[i].g3 = up3 (ep, 1 + i, all[i]'(by omega)) := by
      have h3 := hg.g3
      have : (gl.map Grp.g3)[i]'(by rw [List.length_map]; exact hlt) = (L.map up3)[i]'(by rw [← h3, List.length_map]; exact hlt) := by simp only [h3]
      rw [List.getElem_map, List.getElem_map] at this
      rw [this]
      congr 1
      have h4 : L[i]'(by rw [hL, gsP_length]; omega) = (gsP ep 1 all)[i]'(by rw [gsP_length]; omega) := by simp only [hL]
      rw [h4, gsP_get ep all 1 i (by omega)]
    rcases hO.mem with q0 | ⟨bO, oO, cO, TO, fO, rfl, hIO, hcO⟩
    · omega
    rcases hms.rd.mem with q0 | ⟨bS, oS, cS, TS, fS, rfl, hIS, hcS⟩
    · omega
    generalize gl[i] = g at *
    generalize ms[i] = m at *
    generalize all[i]'(by omega) = al at *
    unfold Grp.g3 up3 at hg3
    simp only [Prod.mk.injEq] at hg3
    obtain ⟨g1, g2, g3⟩ := hg3
    have hml : m.gs.length = al.length := by rw [← hmp, List.length_map]
    have hgl : g.gs.length = al.length := by rw [← g3, List.length_map]
    have t0 : (cO.drop (oO + i * 3)).take 1 = [.int .i64 g.e] := take_get hcO k0
    have t1 : (cO.drop (oO + (i * 3 + 1))).take 1 = [.int .i64 g.s] := take_get hcO k1
    have t2 : (cO.drop (oO + (i * 3 + 2))).take 1 = [.slice g.a g.gs.length g.cap] := take_get hcO k2
    refine CodeF.sched [[], [], [0, 1], [0, 1, 2], [0, 1, 2, 3], [], [0, 1, 2, 3, 4, 5], [0, 1, 2, 3, 4, 5, 6], [0, 1, 2, 3, 4, 5, 6, 7], [0, 1, 2, 3, 4, 5, 6, 7], [0, 1, 2, 3, 4, 5, 6, 7, 8, 9], [0, 1, 2, 3, 4, 5, 6, 7, 8, 9, 10], [0, 1, 2, 3, 4, 5, 6, 7, 8, 9, 10, 11], [0, 1, 2, 3, 4, 5, 6, 7], [0, 1, 2, 3, 4, 5, 6, 7, 13], [0, 1, 2, 3, 4, 5, 6, 7, 8, 9, 10, 11, 12, 13, 14], [0, 1, 2, 3, 4, 5, 6, 7, 8, 9, 10, 11, 12, 13, 14, 15], [0, 1, 2, 3, 4, 5, 6, 7, 8, 9, 10, 11, 12, 13, 14, 15, 16], [0, 1, 2, 3, 4, 5, 6, 7, 8, 9, 10, 11, 12, 13, 14, 15, 16, 17], [0, 1, 2, 3, 4, 5, 6, 7, 8, 9, 10, 11, 12, 13, 14, 15, 16, 17], [0, 1, 2, 3, 4, 5, 6, 7, 8, 9, 10, 11, 12, 13, 14, 15, 16, 17, 18, 19], [0, 1, 2, 3, 4, 5, 6, 7, 8, 9, 10, 11, 12, 13, 14, 15, 16, 17, 18, 19, 20], [0, 1, 2, 3, 4, 5, 6, 7, 8, 9, 10, 11, 12, 13, 14, 15, 16, 17, 18, 19, 20, 21], [0, 1, 2, 3, 4, 5, 6, 7, 8, 9, 10, 11, 12, 13, 14, 15, 16, 17], [0, 1, 2, 3, 4, 5, 6, 7, 8, 9, 10, 11, 12, 13, 14, 15, 16, 17], [0, 1, 2, 3, 4, 5, 6, 7, 8, 9, 10, 11, 12, 13, 14, 15, 16, 17, 23, 24], [0, 1, 2, 3, 4, 5, 6, 7, 8, 9, 10, 11, 12, 13, 14, 15, 16, 17, 23, 24, 25], [0, 1, 2, 3, 4, 5, 6, 7, 8, 9, 10, 11, 12, 13, 14, 15, 16, 17, 18, 19, 20, 21, 22, 23, 24, 25, 26], [0, 1, 2, 3, 4, 5, 6, 7, 8, 9, 10, 11, 12, 13, 14, 15, 16, 17, 18, 19, 20, 21, 22, 23, 24, 25, 26, 27], [0, 1, 2, 3, 4, 5, 6, 7, 8, 9, 10, 11, 12, 13, 14, 15, 16, 17, 18, 19, 20, 21, 22, 23, 24, 25, 26, 27, 28]] [0, 1, 2, 3, 4, 5, 6, 7, 8, 9, 10, 11, 12, 13, 14, 15, 16, 17, 18, 19, 20, 21, 22, 23, 24, 25, 26, 27, 28, 29] (by kernel_rfl) ?_
    refine Chk.mk (by omega) ?_
    refine LoadP.imm [.int .i64 g.e] ⟨cO, TO, fO, .imm hIO, t0, rfl⟩ ?_
    refine CmpD.yes g1 ?_
    refine Chk.mk (by omega) ?_
    refine LoadP.imm [.int .i64 g.s] ⟨cO, TO, fO, .imm hIO, t1, rfl⟩ ?_
    refine ToD.i64 (by omega) (by omega) ?_
    refine CmpD.yes (by rw [g2]; omega) ?_
    refine Chk.mk (by omega) ?_
    refine LoadP.imm [.slice g.a g.gs.length g.cap] ⟨cO, TO, fO, .imm hIO, t2, rfl⟩ ?_
    refine Chk.mk (by omega) ?_
    refine LoadP.imm [m.cell] ⟨cS, TS, fS, .imm hIS, take_get hcS hm, rfl⟩ ?_
    refine Tri.free (same_imgs (S := []) (imgsR_of hgo) (imgsR_of hmo) (by omega)) ?_
    rintro v _ _ _ ⟨rfl, rfl, rfl⟩
    rw [decide_eq_true (g3.trans hmp.symm)]
    repeat (first
      | refine LoadD.own 0 rfl _ rfl rfl ?_
      | refine LoadP.at 0 rfl _ rfl rfl ?_
      | refine StoreD.st 0 rfl rfl rfl ?_
      | refine CmpD.yes rfl ?_
      | refine CmpD.yes (by decide) ?_
      | refine CmpD.no (by decide) ?_
      | refine Chk.mk ⟨rfl, trivial⟩ ?_
      | refine Chk.mk ⟨rfl, rfl, trivial⟩ ?_
      | refine Chk.mk ⟨rfl, rfl, rfl, trivial⟩ ?_
      | refine Chk.mk ⟨rfl, rfl, rfl, rfl, trivial⟩ ?_
      | refine Chk.mk ⟨rfl, rfl, rfl, rfl, rfl, trivial⟩ ?_
      | refine Chk.mk ⟨rfl, rfl, rfl, rfl, rfl, rfl, trivial⟩ ?_)
    refine ToD.i64 (by omega) (by omega) ?_
    refine ⟨_, Drop.refl _, ⟨i + 1, by omega, rfl, rfl, rfl⟩, ?_⟩
    show ((gl.length : Int) - ((i : Int) + 1)).toNat < ((gl.length : Int) - (i : Int)).toNat
    omega
  · exact Done.mk rfl
theorem WI.fewA {ep tail : Nat} {z : Nat → Dat} {j : JSt} {d : DSt} {all : List (List PImg)} (w : WI ep tail z j d all) : all.length ≤ 1000 ∧ ∀ g ∈ all, g.length ≤ 1000 := by
  have := usedP_ge all
  have := w.used
  refine ⟨by omega, fun g hg => ?_⟩
  obtain ⟨i, hi, rfl⟩ := List.mem_iff_getElem.1 hg
  have := (w.right i hi).2.2.2.2.2.1
  omega
theorem scanOk64 {b ep sq tail : Int} (hb : b = 64) (h1 : 1 ≤ ep ∧ ep ≤ 8388608) (h2 : 1 ≤ sq ∧ sq ≤ 549755813888) (h3 : 0 ≤ tail ∧ tail < 16) : ScanOk 64 (layOf 64) ⟨b, ep, sq, tail⟩ :=
  ⟨by omega, rfl, hb, h3.1, by show tail < layL ((64 : Nat) : Int); rw [layL_64']; exact h3.2, h1.1, h1.2, h2.1, h2.2⟩
def addK (all : List (List PImg)) (sz : Int) : List (List PImg) := if usedP all + ((1 + pickS sz 5).toNat + 1) ≤ 16 then all ++ [im9 (1 + pickS sz 5).toNat sz] else all
theorem WI.addK {ep tail : Nat} {z : Nat → Dat} (hep : 1 ≤ ep ∧ ep ≤ 8388608) {j : JSt} {d : DSt} {all : List (List PImg)} (w : WI ep tail z j d all) (sz : Int) : (wrtStep j d all sz).2.2 = addK all sz := by
  have hge := usedP_ge all
  have hu := w.used
  unfold wrtStep Go.Proofs.Ytbpdbgcndfcilaa.addK
  rcases w.append (im9_pick hep sz all.length (by omega)) with ⟨h0, _, h2⟩ | ⟨h0, _, _, h3⟩
  · rw [im9_length] at h0
    dsimp only; rw [if_pos h2, if_pos h0]
  · rw [im9_length] at h0
    dsimp only; rw [if_neg h3, if_neg (by omega)]
theorem WI.adds {ep tail : Nat} {z : Nat → Dat} (hep : 1 ≤ ep ∧ ep ≤ 8388608) : ∀ (l : List Int) (x : JSt × DSt × List (List PImg)), WI ep tail z x.1 x.2.1 x.2.2 → (wrtK x l).2.2 = l.foldl Go.Proofs.Ytbpdbgcndfcilaa.addK x.2.2
  | [], _, _ => rfl
  | s :: l, x, h => by
    have := WI.adds hep l (wrtStep x.1 x.2.1 x.2.2 s) (h.step hep s)
    rw [h.addK hep s] at this
    exact this
theorem wrt_all {ep tail : Nat} (hep : 1 ≤ ep ∧ ep ≤ 8388608) (ht : tail < 16) (l : List Int) : (wrtP ep tail l).2.2 = (l.take 12).foldl addK [] := WI.adds hep _ _ (WI.fresh hep ht)
theorem addK_yes {all : List (List PImg)} {sz : Int} {n u : Nat} (hn : (1 + pickS sz 5).toNat = n) (hu : usedP all = u) (h : u + (n + 1) ≤ 16) : addK all sz = all ++ [im9 n sz] := by unfold addK; rw [hn, hu, if_pos h]
/-- the examples of chapter 9 -/
theorem adds01 : [0, 1].foldl addK [] = [im9 1 0, im9 2 1] := by
  show addK (addK [] 0) 1 = _
  have h0 : addK [] 0 = [im9 1 0] := addK_yes (n := 1) (u := 0) (by decide) rfl (by decide)
  rw [h0, addK_yes (n := 2) (u := 2) (by decide) (by simp [usedP, im9_length]) (by decide)]; rfl
theorem awk9 : (wrtP ((1 : Nat) : Int) ((14 : Nat) : Int) [0, 1]).2.2 = [im9 1 0, im9 2 1] := by
  rw [wrt_all (by decide) (by decide)]; exact adds01
set_option maxHeartbeats 1000000 in
theorem awake09 (I : Imm) (S : St) : Tri Try.prog 38 #[] I S fun v _ _ => v = .bool true := by
  refine Tri.free (Q := fun v _ _ => v = .bool true) ?_ (fun v J _ _ h => h)
  refine Tri.of (args := []) tabOk Try.func38 rfl (by kernel_rfl) (by kernel_rfl) ?_
  conv => whnf
  intro bZ
  refine Tri.fix 0 rfl fun I1 hI1 hm => ?_
  have hZ : Rds I1 (some ⟨bZ, 0, none⟩) 2 (ints [0, 1]) := Rds.of_own (cap := 2) (OwnC.whole rfl) hm
  refine Tri.frameX (written9 I1 1 14 (by decide) (by decide) _ 2 2 [0, 1] rfl (by intro x hx; simp at hx; unfold In64; omega) hZ) [] rfl rfl ?_
  rintro v J1 A' hJ1 ⟨bD, chD, aS, capS, ms, rfl, hD, hms, hle, rfl⟩
  have w := wrtP_wi (ep := 1) (tail := 14) (by decide) (by decide) [0, 1]
  have hsc := w.scan 64
  have hfew := w.fewA
  have hcalm := w.calm
  have hlen := w.len
  rw [awk9] at hsc hms hfew
  have hml : ms.length = 2 := by have := congrArg List.length hms.pr; simpa using this
  generalize (wrtP 1 14 [0, 1]).2.1 = d at *
  rw [show usedP [im9 1 0, im9 2 1] = 5 from by simp [usedP, im9_length]] at hsc
  repeat (first
    | refine LoadD.own 0 rfl _ rfl rfl ?_
    | refine LoadD.own 1 rfl _ rfl rfl ?_
    | refine LoadD.own 2 rfl _ rfl rfl ?_
    | refine LoadP.at 0 rfl _ rfl rfl ?_
    | refine LoadP.at 1 rfl _ rfl rfl ?_
    | refine LoadP.at 2 rfl _ rfl rfl ?_
    | refine StoreD.st 0 rfl rfl rfl ?_
    | refine StoreD.st 1 rfl rfl rfl ?_
    | refine StoreD.st 2 rfl rfl rfl ?_
    | refine CmpD.yes rfl ?_
    | refine CmpD.yes (by decide) ?_
    | refine CmpD.no (by decide) ?_
    | refine Chk.mk ⟨rfl, trivial⟩ ?_
    | refine Chk.mk ⟨rfl, rfl, trivial⟩ ?_
    | refine Chk.mk ⟨rfl, rfl, rfl, trivial⟩ ?_
    | refine Chk.mk ⟨rfl, rfl, rfl, rfl, trivial⟩ ?_
    | refine Chk.mk ⟨rfl, rfl, rfl, rfl, rfl, trivial⟩ ?_
    | refine Chk.mk ⟨rfl, rfl, rfl, rfl, rfl, rfl, trivial⟩ ?_)
  refine CmpD.yes (by omega) ?_
  repeat (first
    | refine LoadD.own 0 rfl _ rfl rfl ?_
    | refine LoadD.own 1 rfl _ rfl rfl ?_
    | refine LoadD.own 2 rfl _ rfl rfl ?_
    | refine LoadP.at 0 rfl _ rfl rfl ?_
    | refine LoadP.at 1 rfl _ rfl rfl ?_
    | refine LoadP.at 2 rfl _ rfl rfl ?_
    | refine StoreD.st 0 rfl rfl rfl ?_
    | refine StoreD.st 1 rfl rfl rfl ?_
    | refine StoreD.st 2 rfl rfl rfl ?_
    | refine CmpD.yes rfl ?_
    | refine CmpD.yes (by decide) ?_
    | refine CmpD.no (by decide) ?_
    | refine Chk.mk ⟨rfl, trivial⟩ ?_
    | refine Chk.mk ⟨rfl, rfl, trivial⟩ ?_
    | refine Chk.mk ⟨rfl, rfl, rfl, trivial⟩ ?_
    | refine Chk.mk ⟨rfl, rfl, rfl, rfl, trivial⟩ ?_
    | refine Chk.mk ⟨rfl, rfl, rfl, rfl, rfl, trivial⟩ ?_
    | refine Chk.mk ⟨rfl, rfl, rfl, rfl, rfl, rfl, trivial⟩ ?_)
  refine Tri.free (layout9 J1) ?_
  rintro v _ _ _ ⟨rfl, rfl⟩
  repeat (first
    | refine LoadD.own 0 rfl _ rfl rfl ?_
    | refine LoadD.own 1 rfl _ rfl rfl ?_
    | refine LoadD.own 2 rfl _ rfl rfl ?_
    | refine LoadP.at 0 rfl _ rfl rfl ?_
    | refine LoadP.at 1 rfl _ rfl rfl ?_
    | refine LoadP.at 2 rfl _ rfl rfl ?_
    | refine StoreD.st 0 rfl rfl rfl ?_
    | refine StoreD.st 1 rfl rfl rfl ?_
    | refine StoreD.st 2 rfl rfl rfl ?_
    | refine CmpD.yes rfl ?_
    | refine CmpD.yes (by decide) ?_
    | refine CmpD.no (by decide) ?_
    | refine Chk.mk ⟨rfl, trivial⟩ ?_
    | refine Chk.mk ⟨rfl, rfl, trivial⟩ ?_
    | refine Chk.mk ⟨rfl, rfl, rfl, trivial⟩ ?_
    | refine Chk.mk ⟨rfl, rfl, rfl, rfl, trivial⟩ ?_
    | refine Chk.mk ⟨rfl, rfl, rfl, rfl, rfl, trivial⟩ ?_
    | refine Chk.mk ⟨rfl, rfl, rfl, rfl, rfl, rfl, trivial⟩ ?_)
  refine Tri.frame1 1 rfl (scan_Groups hD (layOf 64) ⟨64, 1, 1, 14⟩) ?_
  have hok : ScanOk d.now.length (layOf 64) ⟨64, 1, 1, 14⟩ := by rw [hlen]; exact scanOk64 rfl (by decide) (by decide) (by decide)
  rintro v J2 A' hJ2 ⟨rfl, ⟨h, _⟩ | ⟨_, h, _⟩ | ⟨_, _, aO, capO, gl, rfl, hO, hg⟩⟩
  · exact absurd hok h
  · rw [hcalm.1] at h; cases h
  refine ⟨_, rfl, ?_⟩
  have hpl : placeP (layL d.now.length).toNat ((14 : Int)).toNat (scanL d ⟨64, 1, 1, 14⟩) = 3 := by
    rw [hlen]
    show placeP (layL (64 : Int)).toNat 14 (scanL d ⟨64, ((1 : Nat) : Int), 1, ((14 : Nat) : Int)⟩) = 3
    rw [layL64]
    exact hsc.2
  rw [hpl]
  repeat (first
    | refine LoadD.own 0 rfl _ rfl rfl ?_
    | refine LoadD.own 1 rfl _ rfl rfl ?_
    | refine LoadD.own 2 rfl _ rfl rfl ?_
    | refine LoadP.at 0 rfl _ rfl rfl ?_
    | refine LoadP.at 1 rfl _ rfl rfl ?_
    | refine LoadP.at 2 rfl _ rfl rfl ?_
    | refine StoreD.st 0 rfl rfl rfl ?_
    | refine StoreD.st 1 rfl rfl rfl ?_
    | refine StoreD.st 2 rfl rfl rfl ?_
    | refine CmpD.yes rfl ?_
    | refine CmpD.yes (by decide) ?_
    | refine CmpD.no (by decide) ?_
    | refine Chk.mk ⟨rfl, trivial⟩ ?_
    | refine Chk.mk ⟨rfl, rfl, trivial⟩ ?_
    | refine Chk.mk ⟨rfl, rfl, rfl, trivial⟩ ?_
    | refine Chk.mk ⟨rfl, rfl, rfl, rfl, trivial⟩ ?_
    | refine Chk.mk ⟨rfl, rfl, rfl, rfl, rfl, trivial⟩ ?_
    | refine Chk.mk ⟨rfl, rfl, rfl, rfl, rfl, rfl, trivial⟩ ?_)
  refine Tri.free (same9 J2 aO capO gl _ hO hg aS capS ms _ (hms.mono hJ2) 1 hsc.1 hfew) ?_
  rintro v _ _ _ rfl
  repeat (first
    | refine LoadD.own 0 rfl _ rfl rfl ?_
    | refine LoadD.own 1 rfl _ rfl rfl ?_
    | refine LoadD.own 2 rfl _ rfl rfl ?_
    | refine LoadP.at 0 rfl _ rfl rfl ?_
    | refine LoadP.at 1 rfl _ rfl rfl ?_
    | refine LoadP.at 2 rfl _ rfl rfl ?_
    | refine StoreD.st 0 rfl rfl rfl ?_
    | refine StoreD.st 1 rfl rfl rfl ?_
    | refine StoreD.st 2 rfl rfl rfl ?_
    | refine CmpD.yes rfl ?_
    | refine CmpD.yes (by decide) ?_
    | refine CmpD.no (by decide) ?_
    | refine Chk.mk ⟨rfl, trivial⟩ ?_
    | refine Chk.mk ⟨rfl, rfl, trivial⟩ ?_
    | refine Chk.mk ⟨rfl, rfl, rfl, trivial⟩ ?_
    | refine Chk.mk ⟨rfl, rfl, rfl, rfl, trivial⟩ ?_
    | refine Chk.mk ⟨rfl, rfl, rfl, rfl, rfl, trivial⟩ ?_
    | refine Chk.mk ⟨rfl, rfl, rfl, rfl, rfl, rfl, trivial⟩ ?_)
  exact Done.mk rfl
end Go.Proofs.Ytbpdbgcndfcilaa
namespace Go.Proofs.Ytbpdbgcndfcilaa
open Go.RowKit Go.Sl
set_option maxRecDepth 20000

/-- bytes, as they lie -/
structure Bs where
  a : Option Addr
  len : Nat
  cap : Nat
  data : Dat
@[reducible] def Bs.cell (b : Bs) : Value := .slice b.a b.len b.cap
theorem GrpsOk.at' {J : Imm} {gl : List Grp} {L : List G3} (h : GrpsOk J gl L) (i : Nat) (hi : i < gl.length) : ∃ hl : i < L.length, gl[i].e = (L[i].1 : Int) ∧ gl[i].s = (L[i].2.1 : Int) ∧ gl[i].gs.map Img.pr = L[i].2.2 := by
  have hl : i < L.length := by rw [← h.len]; exact hi
  refine ⟨hl, ?_⟩
  have h3 := h.g3
  have : (gl.map Grp.g3)[i]'(by rw [List.length_map]; exact hi) = (L.map up3)[i]'(by rw [List.length_map]; exact hl) := by simp only [h3]
  rw [List.getElem_map, List.getElem_map] at this
  unfold Grp.g3 up3 at this
  simp only [Prod.mk.injEq] at this
  exact this
end Go.Proofs.Ytbpdbgcndfcilaa
namespace Go.Proofs.Ytbpdbgcndfcilaa
open Go.RowKit Go.Sl
set_option maxRecDepth 20000

theorem scanL_now {d1 d2 : DSt} (h : d1.now = d2.now) (s : Sup) : scanL d1 s = scanL d2 s := by
  unfold scanL rbP
  rw [h]
/-- what a call of 'Groups' tells -/
def Told (J : Imm) (v : Value) (L : List G3) (at_ er : Int) : Prop := ∃ aO capO gl, v = .tuple #[.slice aO gl.length capO, .int .i64 at_, .int .i64 er] ∧ Rds J aO (gl.length * 3) (grpCells gl) ∧ GrpsOk J gl L
end Go.Proofs.Ytbpdbgcndfcilaa
namespace Go.Proofs.Ytbpdbgcndfcilaa
open Go.RowKit Go.Sl
set_option maxRecDepth 20000

theorem scanL64 {d : DSt} (hlen : d.now.length = 64) (s : Sup) : scanL d s = scanK (rbP d 2 16) s.epoch 17 s.tail.toNat s.seq 16 := by
  unfold scanL
  rw [hlen]
  show scanK (rbP d 2 (layL (64 : Int)).toNat) s.epoch ((layL (64 : Int)).toNat + 1) s.tail.toNat s.seq (layL (64 : Int)).toNat = _
  rw [layL64]; rfl
@[reducible] def nA : List PImg := im9 1 0
@[reducible] def nB : List PImg := im9 2 1
theorem nA_right : RightP ((1 : Nat) : Int) ((1 : Nat) : Int) nA := im9_right (by decide) (by decide) 1 (by decide) 0
theorem nB_right : RightP ((1 : Nat) : Int) ((2 : Nat) : Int) nB := im9_right (by decide) (by decide) 2 (by decide) 1
theorem nA_len : nA.length = 1 := im9_length _ _
structure Two (rb : Nat → Dat) : Prop where
  a : ∀ (k : Nat) (h : k < (putP 1 1 nA).length), rb (14 + k) = (putP 1 1 nA)[k]
  b : ∀ (k : Nat) (h : k < (putP 1 2 nB).length), rb (0 + k) = (putP 1 2 nB)[k]
  n : rb 3 = noughts
theorem usedB : usedP [nB] = 3 := by simp [usedP, im9_length]
theorem Two.grpA {rb : Nat → Dat} (h : Two rb) : grpP rb 14 16 = some (1, 1, nA) := grpP_put nA_right (by rw [nA_len]; omega) h.a
theorem Two.m {d : DSt} (h : Two (rbP d 2 16)) (hlen : d.now.length = 64) : scanL d ⟨64, 1, 2, 0⟩ = [(1, 2, nB)] := by
  rw [scanL64 hlen]
  show scanK (rbP d 2 16) ((1 : Nat) : Int) 17 0 ((2 : Nat) : Int) 16 = _
  have e : ringB 1 2 [nB] = putP 1 2 nB := by simp [ringB]
  rw [scan_prefix (rbP d 2 16) 1 [nB] 17 0 2 16 (fun i hi => by
      have : i = 0 := by simpa using hi
      subst this; exact nB_right) (by rw [usedB]; omega) (by simp) (fun k hk => by
      have := h.b k (by rw [← e]; exact hk)
      rw [this]; simp only [e])]
  rw [scan_stop, List.append_nil]; · rfl
  intro e s l hg
  rw [usedB, grpP_none (by rw [show 0 + 3 = 3 from rfl, h.n]; exact hd_noughts)] at hg
  cases hg
theorem Two.no {d : DSt} (h : Two (rbP d 2 16)) (hlen : d.now.length = 64) : scanL d ⟨64, 1, 2, 14⟩ = [] := by
  rw [scanL64 hlen]
  refine scan_stop fun e s l hg h' => ?_
  have hg : grpP (rbP d 2 16) 14 16 = some (e, s, l) := hg
  rw [h.grpA] at hg
  cases hg
  have : ((1 : Nat) : Int) = 2 := h'.2
  omega
/-- a call of 'Groups' of the right form -/
theorem scan9 {I : Imm} {bD : Nat} {d : DSt} {chD : List Blk} (hD : Dk I bD d chD) (hdn : d.down = false) (hlen : d.now.length = 64) (s : Sup) (hok : ScanOk 64 (layOf 64) s) {L : List G3} {pl : Nat} (hL : scanL d s = L) (hpl : placeP 16 s.tail.toNat L = pl) :
    Tri Try.prog 36 #[.pointer (some ⟨bD, 0, none⟩), (layOf 64).v, s.v] I [chD] fun v J S' => S' = [chD] ∧ Told J v L pl 0 := by
  refine Tri.mono (scan_Groups hD (layOf 64) s) ?_
  rintro v J S' hJ ⟨rfl, ⟨h, _⟩ | ⟨_, h, _⟩ | ⟨_, _, aO, capO, gl, rfl, hO, hg⟩⟩
  · exact absurd (by rw [hlen]; exact hok) h
  · rw [hdn] at h; cases h
  · refine ⟨rfl, aO, capO, gl, ?_, hO, by rw [← hL]; exact hg⟩
    rw [hlen, hL]
    show Value.tuple #[_, .int .i64 (placeP (layL (64 : Int)).toNat s.tail.toNat L : Nat), _] = _
    rw [layL64]
    show Value.tuple #[_, .int .i64 (placeP 16 s.tail.toNat L : Nat), _] = _
    rw [hpl]
end Go.Proofs.Ytbpdbgcndfcilaa
namespace Go.Proofs.Ytbpdbgcndfcilaa
open Go.RowKit Go.Sl
set_option maxRecDepth 20000

theorem shr_nat8 (v s : Nat) (hs : s ≤ 8) : (v : Int).fdiv (2 ^ (min ((s : Int)).toNat IntKind.u8.bits)) = ((v / 2 ^ s : Nat) : Int) := by
  have e : min ((s : Int)).toNat IntKind.u8.bits = s := by
    show min s 8 = s; omega
  rw [e, Int.fdiv_eq_ediv_of_nonneg _ (by exact_mod_cast Nat.zero_le _)]
  norm_cast
def put5 (l m : Dat) (i : Nat) : Dat := l.take (i * 512) ++ m ++ l.drop (i * 512 + 512)
def tornK (old new : Dat) (sec : Nat) : Nat → Dat
  | 0 => old
  | k + 1 => if sec / 2 ^ k % 2 = 1 then put5 (tornK old new sec k) ((new.drop (k * 512)).take 512) k else tornK old new sec k
def tornP (old new : Dat) (sec : Nat) : Dat := tornK old new sec 8
theorem tornK_succ (old new : Dat) (sec k : Nat) : tornK old new sec (k + 1) = if sec / 2 ^ k % 2 = 1 then put5 (tornK old new sec k) ((new.drop (k * 512)).take 512) k else tornK old new sec k := rfl
theorem tornK_length {old new : Dat} (h1 : old.length = 4096) (h2 : new.length = 4096) (sec : Nat) : ∀ k, k ≤ 8 → (tornK old new sec k).length = 4096
  | 0, _ => h1
  | k + 1, h => by
    have ih := tornK_length h1 h2 sec k (by omega)
    rw [tornK_succ]
    split
    · simp only [put5, List.length_append, List.length_take, List.length_drop, ih, h2]; omega
    · exact ih
attribute [irreducible] tornK
theorem bts_put5 (l m : Dat) (i : Nat) : bts (put5 l m i) = (bts l).take (i * 512) ++ bts m ++ (bts l).drop (i * 512 + 512) := by
  simp [bts, put5, List.map_take, List.map_drop]
theorem sector_of (I : Imm) (S : St) (b off cap i : Nat) (hi : i < 8) (hcap : 4096 ≤ cap) :
    Tri Try.prog 146 #[.slice (some ⟨b, off, none⟩) 4096 cap, .int .i64 i] I S fun v J S' => v = .slice (some ⟨b, off + i * 512, none⟩) 512 512 ∧ I = J ∧ S' = S := by
  refine Tri.of (args := [.slice (some ⟨b, off, none⟩) 4096 cap, .int .i64 i]) tabOk Try.func146 rfl (by kernel_rfl) (by kernel_rfl) ?_
  refine ToD.to ((i * 512 : Nat) : Int) (by rw [wrap_i64 (by omega) (by omega)]; omega) ?_
  refine ToD.to ((i + 1 : Nat) : Int) (by rw [wrap_i64 (by omega) (by omega)]; omega) ?_
  refine ToD.to ((i * 512 + 512 : Nat) : Int) (by rw [wrap_i64 (by omega) (by omega)]; omega) ?_
  refine ToD.to ((i + 1 : Nat) : Int) (by rw [wrap_i64 (by omega) (by omega)]; omega) ?_
  refine ToD.to ((i * 512 + 512 : Nat) : Int) (by rw [wrap_i64 (by omega) (by omega)]; omega) ?_
  refine sliceD tabOk rfl rfl rfl rfl (i * 512) (i * 512 + 512) (i * 512 + 512) ⟨_, rfl⟩ ⟨_, rfl⟩ ⟨_, rfl⟩ (.inr (by simp)) (by omega) ?_
  refine Done.mk ⟨?_, rfl, rfl⟩
  show Value.slice (slAddr (some ⟨b, off, none⟩) (i * 512) (i * 512 + 512) 1) (i * 512 + 512 - i * 512) (i * 512 + 512 - i * 512) = _
  unfold slAddr
  rw [if_neg (by omega), show i * 512 + 512 - i * 512 = 512 by omega]
  simp [add_none]
set_option maxHeartbeats 4000000 in
theorem torn_own (I : Imm) (a1 : Option Addr) (cap1 : Nat) (old : Dat) (h1 : Rds I a1 4096 (bts old)) (a2 : Option Addr) (cap2 : Nat) (new : Dat) (h2 : Rds I a2 4096 (bts new)) (hc2 : 4096 ≤ cap2) (sec : Nat) (hsec : sec < 256) :
    Tri Try.prog 110 #[.slice a1 4096 cap1, .slice a2 4096 cap2, .int .u8 sec] I [] fun v J S' => ∃ a cap ch, v = .slice a 4096 cap ∧ OwnB ch a 4096 cap (tornP old new sec) ∧ I = J ∧ S' = [ch] := by
  have hl1 : old.length = 4096 := by rw [← bts_length, h1.len]
  have hl2 : new.length = 4096 := by rw [← bts_length, h2.len]
  refine Tri.drop ?_ (fun _ _ _ _ h => h)
  refine Tri.of (args := [.slice a1 4096 cap1, .slice a2 4096 cap2, .int .u8 sec]) tabOk Try.func110 rfl (by kernel_rfl) (by kernel_rfl) ?_
  refine Tri.nf (clone_bytes I [] a1 4096 cap1 (bts old) (by rw [Nat.mul_one]; exact h1.slC) (bts_plain old) (by omega)) ?_
  rintro v J S' hJ ⟨aO, capO, chO, rfl, hO, rfl, rfl⟩
  have hcO := hO.le
  rcases hO.at' with q0 | ⟨bO, pre, post, TO, rfl, rfl, hpost⟩
  · omega
  rcases h2.mem with q0 | ⟨bN, oN, cN, TN, fN, rfl, hIN, hcN⟩
  · omega
  refine CodeF.loopD [1, 2, 7, 11] (fun vs J' S' => ∃ (k : Nat), k ≤ 8 ∧ vs = [.slice (some ⟨bN, oN, none⟩) 4096 cap2, .int .u8 sec, .slice (some ⟨bO, pre.length, none⟩) 4096 capO, .int .i64 k] ∧ I = J' ∧ S' = [[(bO, row (pre ++ bts (tornK old new sec k) ++ post) TO)]])
    (fun vs _ _ => match vs with | [_, _, _, .int _ k] => ((8 : Int) - k).toNat | _ => 0) ?_ ?_
  · exact ⟨_, Drop.refl _, 0, by omega, rfl, rfl, by unfold tornK; rfl⟩
  rintro vs gE J' S' hJ' ⟨k, hk, rfl, rfl, rfl⟩
  have hkl := tornK_length hl1 hl2 sec k hk
  refine CmpD.split (fun c1 => ?_) (fun c1 => ?_)
  · have hdv : sec / 2 ^ k ≤ sec := Nat.div_le_self _ _
    refine Chk.mk (by omega) ?_
    refine ToD.to ((sec / 2 ^ k : Nat) : Int) (shr_nat8 sec k (by omega)) ?_
    refine ToD.to ((sec / 2 ^ k % 2 : Nat) : Int) (by rw [show (1 : Int) = ((1 : Nat) : Int) from rfl, u8_and_nat _ 1 (by omega) (by omega), Nat.and_one_is_mod]) ?_
    refine CmpD.split (fun (c2 : ((sec / 2 ^ k % 2 : Nat) : Int) = 1) => ?_) (fun (c2 : ¬ ((sec / 2 ^ k % 2 : Nat) : Int) = 1) => ?_)
    · refine Tri.nf (sector_of I _ bO pre.length capO k (by omega) hcO) ?_
      rintro v J S' hJ ⟨rfl, rfl, rfl⟩
      refine Tri.nf (sector_of I _ bN oN cap2 k (by omega) hc2) ?_
      rintro v J S' hJ ⟨rfl, rfl, rfl⟩
      have hm : ((new.drop (k * 512)).take 512).length = 512 := by rw [List.length_take, List.length_drop]; omega
      refine copyD tabOk rfl rfl rfl rfl rfl rfl rfl 0 rfl (SrcOk.slice (n := 512) (news := bts ((new.drop (k * 512)).take 512)) tabOk rfl (Rds_part h2 (k * 512) 512 (by omega)).slC (bts_plain _)) (Nat.le_refl _) (by simp only [List.length_append, bts_length, hkl]; show pre.length + k * 512 + 512 * 1 ≤ _; omega) (Nat.le_refl _) ?_
      have hsp : splice (pre ++ bts (tornK old new sec k) ++ post) (pre.length + k * 512) (bts ((new.drop (k * 512)).take 512)) = pre ++ bts (tornK old new sec (k + 1)) ++ post := by
        rw [splice_mid _ _ _ _ _ (by rw [bts_length, bts_length, hkl, hm]; omega), tornK_succ, if_pos (by omega), bts_put5, bts_length, hm]
      rw [hsp]
      refine ToD.i64 (by omega) (by omega) ?_
      refine ⟨_, Drop.refl _, ⟨k + 1, by omega, rfl, rfl, rfl⟩, ?_⟩
      show ((8 : Int) - ((k : Int) + 1)).toNat < ((8 : Int) - (k : Int)).toNat
      omega
    · refine ToD.i64 (by omega) (by omega) ?_
      refine ⟨_, Drop.refl _, ⟨k + 1, by omega, rfl, rfl, by rw [tornK_succ, if_neg (by omega)]⟩, ?_⟩
      show ((8 : Int) - ((k : Int) + 1)).toNat < ((8 : Int) - (k : Int)).toNat
      omega
  · obtain rfl : k = 8 := by omega
    refine Done.mk ⟨_, Drop.refl _, some ⟨bO, pre.length, none⟩, capO, _, rfl, ⟨by rw [bts_length]; exact hkl, hcO, .inr ⟨bO, pre, post, TO, rfl, rfl, hpost⟩⟩, rfl, rfl⟩
theorem torn_fix (I : Imm) (a1 : Option Addr) (cap1 : Nat) (old : Dat) (h1 : Rds I a1 4096 (bts old)) (a2 : Option Addr) (cap2 : Nat) (new : Dat) (h2 : Rds I a2 4096 (bts new)) (hc2 : 4096 ≤ cap2) (sec : Nat) (hsec : sec < 256) :
    Tri Try.prog 110 #[.slice a1 4096 cap1, .slice a2 4096 cap2, .int .u8 sec] I [] fun v J _ => ∃ a cap, v = .slice a 4096 cap ∧ Rds J a 4096 (bts (tornP old new sec)) := by
  refine Tri.fixed (torn_own I a1 cap1 old h1 a2 cap2 new h2 hc2 sec hsec) ?_
  rintro v J S' hJ ⟨a, cap, ch, rfl, hO, rfl, rfl⟩
  exact ⟨0, ch, rfl, fun J' hJ' hm => ⟨a, cap, rfl, Rds.of_own hO hm⟩⟩
end Go.Proofs.Ytbpdbgcndfcilaa
namespace Go.Proofs.Ytbpdbgcndfcilaa
open Go.RowKit Go.Sl
set_option maxRecDepth 20000

/-- what a crash leaves of the blocks -/
def crash1 (keep : List Bool) (tn : Int) (sec i : Nat) (n : Nat) (b : Dat) (s : List Dat) : List Dat :=
  if (i : Int) = tn then s.set n (tornP (s.getD n []) b sec) else if keep.getD i false then s.set n b else s
def crashK (keep : List Bool) (tn : Int) (sec : Nat) : Nat → List (Int × Dat) → List Dat → List Dat
  | _, [], s => s
  | i, w :: ws, s => crashK keep tn sec (i + 1) ws (crash1 keep tn sec i w.1.toNat w.2 s)
theorem crashK_snoc (keep : List Bool) (tn : Int) (sec : Nat) : ∀ (ws : List (Int × Dat)) (i : Nat) (s : List Dat) (w : Int × Dat), crashK keep tn sec i (ws ++ [w]) s = crash1 keep tn sec (i + ws.length) w.1.toNat w.2 (crashK keep tn sec i ws s)
  | [], i, s, w => by simp [crashK]
  | x :: ws, i, s, w => by
    rw [List.cons_append, crashK, crashK_snoc keep tn sec ws, crashK, List.length_cons, show i + 1 + ws.length = i + (ws.length + 1) by omega]
theorem crash1_length (keep : List Bool) (tn : Int) (sec i n : Nat) (b : Dat) (s : List Dat) : (crash1 keep tn sec i n b s).length = s.length := by
  unfold crash1; split
  · simp
  · split <;> simp
theorem crash1_mem {keep : List Bool} {tn : Int} {sec i n : Nat} {b : Dat} {s : List Dat} (hb : b.length = 4096) (hs : ∀ x ∈ s, x.length = 4096) (hn : n < s.length) : ∀ x ∈ crash1 keep tn sec i n b s, x.length = 4096 := by
  intro x hx
  unfold crash1 at hx
  split at hx
  · rcases List.mem_or_eq_of_mem_set hx with hx | rfl
    · exact hs x hx
    · refine tornK_length ?_ hb sec 8 (by omega)
      rw [List.getD_eq_getElem?_getD, List.getElem?_eq_getElem hn]
      exact hs _ (List.getElem_mem hn)
  · split at hx
    · rcases List.mem_or_eq_of_mem_set hx with hx | rfl
      · exact hs x hx
      · exact hb
    · exact hs x hx
theorem crashK_length (keep : List Bool) (tn : Int) (sec : Nat) : ∀ (ws : List (Int × Dat)) (i : Nat) (s : List Dat), (crashK keep tn sec i ws s).length = s.length
  | [], _, _ => rfl
  | w :: ws, i, s => by rw [crashK, crashK_length keep tn sec ws, crash1_length]
theorem crashK_mem {keep : List Bool} {tn : Int} {sec : Nat} : ∀ (ws : List (Int × Dat)) (i : Nat) (s : List Dat), (∀ w ∈ ws, w.1.toNat < s.length ∧ w.2.length = 4096) → (∀ x ∈ s, x.length = 4096) → ∀ x ∈ crashK keep tn sec i ws s, x.length = 4096
  | [], _, _, _, hs => hs
  | w :: ws, i, s, hw, hs => by
    have h1 := hw w (by simp)
    exact crashK_mem ws (i + 1) _ (fun y hy => by rw [crash1_length]; exact hw y (by simp [hy])) (crash1_mem h1.2 hs h1.1)
def DSt.crash (d : DSt) (keep : List Bool) (tn : Int) (sec : Nat) : DSt := ⟨crashK keep tn sec 0 d.writes d.safe, crashK keep tn sec 0 d.writes d.safe, [], d.count, false, ⟨false, 0⟩, ⟨false, 0⟩⟩
theorem DSt.Wf.crash {d : DSt} (h : d.Wf) (keep : List Bool) (tn : Int) (sec : Nat) : (d.crash keep tn sec).Wf := by
  have hl := crashK_length keep tn sec d.writes 0 d.safe
  have hm := crashK_mem (keep := keep) (tn := tn) (sec := sec) d.writes 0 d.safe (fun w hw => by have h1 := h.writes w hw; have h2 := h.len; exact ⟨by omega, h1.2.2⟩) h.safe
  have h1 := h.len
  have h2 := h.range
  exact ⟨rfl, by show 1 ≤ (crashK keep tn sec 0 d.writes d.safe).length ∧ (crashK keep tn sec 0 d.writes d.safe).length ≤ 512; omega, hm, hm, fun w hw => (List.not_mem_nil hw).elim, fun h => (Bool.false_ne_true h).elim, fun h => (Bool.false_ne_true h).elim⟩
def bools (l : List Bool) : List Value := l.map Value.bool
theorem bools_get {l : List Bool} {i : Nat} (h : i < l.length) : (bools l)[i]? = some (.bool (l.getD i false)) := by
  rw [List.getD_eq_getElem?_getD, List.getElem?_eq_getElem h]
  simp [bools, h]
theorem pend_fix {I : Imm} {bD : Nat} {st : DSt} {ch : List Blk} (h : Dk I bD st ch) (hf : st.Few 1000000) :
    Tri Try.prog 56 #[.pointer (some ⟨bD, 0, none⟩)] I [ch] fun v J S' => ∃ a cap, v = .slice a st.writes.length cap ∧ Rds J a st.writes.length (ints (st.writes.map Prod.fst)) ∧ S' = [ch] := by
  obtain ⟨hw, d, chS, chN, chW, bS, bN, bW, rfl, hD, q1, q2, q3, q4, q5, q6, q7⟩ := h
  have hl := hD.hN.len1
  have hl' : st.now.length = d.now.len := by rw [← q2]; simpa using hl
  have hr := hw.range
  have hW := hD.hW.n
  rw [wCells_length] at hW
  have hW' : st.writes.length = d.writes.len := by rw [← q3, List.length_map]; omega
  obtain ⟨f1, f2, f3⟩ := hf
  have he : bW.map Prod.fst = st.writes.map Prod.fst := by rw [← q3, List.map_map]; rfl
  refine Tri.drop (Tri.fixed (Q := fun v J S' => ∃ a cap chP, v = .slice a d.writes.len cap ∧ OwnC chP 1 a d.writes.len cap (ints (bW.map Prod.fst)) ∧ S' = [dChunk bD d ++ (chS ++ (chN ++ chW)), chP]) ?_
    (K := fun v J S' => ∃ a cap, v = .slice a d.writes.len cap ∧ Rds J a d.writes.len (ints (bW.map Prod.fst)) ∧ S' = [dChunk bD d ++ (chS ++ (chN ++ chW)), []]) ?_) ?_
  · refine Tri.lay (S2 := [dChunk bD d, chS, chN, chW]) (by simp) ?_
    refine Tri.drop ?_ (fun _ _ _ _ h => h)
    refine Tri.frame (disk_Pending bD d (by omega) (by omega) chW bW I hD.hW) [0, 3] rfl rfl ?_
    rintro v J A' hJ ⟨a, cap, chP, rfl, hP, rfl, rfl⟩
    refine ⟨by simp, ?_⟩
    exact ⟨[dChunk bD d ++ (chS ++ (chN ++ chW)), chP], Drop.flat (by simp), a, cap, chP, rfl, hP, rfl⟩
  · rintro v J S' hJ ⟨a, cap, chP, rfl, hP, rfl⟩
    exact ⟨1, chP, rfl, fun J' hJ' hm => ⟨a, cap, rfl, Rds.of_own hP hm, rfl⟩⟩
  · rintro v J S' hJ ⟨a, cap, rfl, hP, rfl⟩
    exact ⟨_, Drop.pick [0] _ rfl, a, cap, by rw [hW'], by rw [hW', ← he]; exact hP, rfl⟩
set_option maxHeartbeats 4000000 in
theorem disk_Crash (b : Nat) (d : DRec) (hnl : 1 ≤ d.now.len) (hsl : d.safe.len ≤ 1000000) (hwl : d.writes.len ≤ 1000000) (chS chN chW : List Blk) (safe now : List Bk) (ws : List (Int × Bk)) (I : Imm) (hD : DiskAt I d chS chN chW safe now ws) (hws : ∀ w ∈ ws, 0 ≤ w.1 ∧ w.1 < d.safe.len)
    (aK : Option Addr) (nK capK : Nat) (keep : List Bool) (hK : Rds I aK nK (bools keep)) (tn : Int) (sec : Nat) (hsec : sec < 256) :
    Tri Try.prog 57 #[.pointer (some ⟨b, 0, none⟩), .slice aK nK capK, .int .i64 tn, .int .u8 sec] I [dChunk b d, chS, chN, chW] fun v J S' =>
      v = .int .i64 0 ∧ ∃ (hS hN : Hd) (chS' chN' : List Blk) (bks : List Bk), bks.map Bk.data = crashK keep tn sec 0 (ws.map fun w => (w.1, w.2.data)) (safe.map Bk.data) ∧
        S' = [dChunk b ⟨hS, hN, ⟨none, 0, 0⟩, d.count, false, ⟨false, 0⟩, ⟨false, 0⟩⟩, chS', chN', []] ∧ DiskAt J ⟨hS, hN, ⟨none, 0, 0⟩, d.count, false, ⟨false, 0⟩, ⟨false, 0⟩⟩ chS' chN' [] bks bks [] := by
  refine Tri.drop ?_ (fun _ _ _ _ h => h)
  refine Tri.of (args := [.pointer (some ⟨b, 0, none⟩), .slice aK nK capK, .int .i64 tn, .int .u8 sec]) tabOk Try.func57 rfl (by kernel_rfl) (by kernel_rfl) ?_
  refine Tri.frame1 0 rfl (disk_none b d I) ?_
  rintro v J S' hJ ⟨rfl, rfl, rfl⟩
  refine ⟨_, rfl, ?_⟩
  rw [decide_eq_false (show ¬ d.now.len = 0 by omega)]
  have hKl : keep.length = nK := by have := hK.len; simpa [bools] using this
  obtain ⟨hSo, hNo, hWo, hokS, _, hokW⟩ := hD
  obtain ⟨⟨sa, sl, sc⟩, ⟨na, nl, nc⟩, ⟨wa, wl, wc⟩, count, down, ⟨ao, al⟩, ⟨fo, fl⟩⟩ := d
  dsimp only at hnl hsl hwl hSo hNo hWo hws
  have hwn : ws.length = wl := by have := hWo.n; rw [wCells_length] at this; omega
  refine LoadD.own 0 rfl [.slice wa wl wc] rfl rfl ?_
  refine CodeF.loopD [0, 1, 2, 3, 16, 17, 18] (fun vs J' S' => ∃ (i : Nat) (chS : List Blk) (bks : List Bk), i ≤ wl ∧ OwnC chS 1 sa sl sc (bks.map Bk.cell) ∧ bks.map Bk.data = crashK keep tn sec 0 ((ws.take i).map fun w => (w.1, w.2.data)) (safe.map Bk.data) ∧ (∀ b ∈ bks, BkOk J' b) ∧ I.le J' ∧
      vs = [.pointer (some ⟨b, 0, none⟩), .slice aK nK capK, .int .i64 tn, .int .u8 sec, .slice wa wl wc, .int .i64 wl, .int .i64 i] ∧ S' = [dChunk b ⟨⟨sa, sl, sc⟩, ⟨na, nl, nc⟩, ⟨wa, wl, wc⟩, count, down, ⟨ao, al⟩, ⟨fo, fl⟩⟩, chS, chN, chW])
    (fun vs _ _ => match vs with | [_, _, _, _, _, _, .int _ i] => ((wl : Int) - i).toNat | _ => 0) ?_ ?_
  · exact ⟨_, Drop.refl _, 0, chS, safe, by omega, hSo, rfl, hokS, Imm.le_refl _, rfl, rfl⟩
  rintro vs gE J' S' hJ' ⟨i, chS, bks, hi, hS, hdat, hbok, hle, rfl, rfl⟩
  have hbl : bks.length = sl := by have := hS.n; rw [List.length_map] at this; omega
  refine CmpD.split (fun (c1 : (i : Int) < wl) => ?_) (fun (c1 : ¬ (i : Int) < wl) => ?_)
  · have hil : i < ws.length := by omega
    have hwi := hws _ (List.getElem_mem hil)
    obtain ⟨hwo, hwc⟩ := hokW _ (List.getElem_mem hil)
    have hcell := wCells_at hil
    have htake : ws.take (i + 1) = ws.take i ++ [ws[i]] := by rw [List.take_add_one, List.getElem?_eq_getElem hil]; rfl
    have hlt : (ws.take i).length = i := by rw [List.length_take]; omega
    obtain ⟨bW, oW, rfl, hcW⟩ := SlC.cells (hWo.slC (I := J') (S := [dChunk b ⟨⟨sa, sl, sc⟩, ⟨na, nl, nc⟩, ⟨wa, wl, wc⟩, count, down, ⟨ao, al⟩, ⟨fo, fl⟩⟩, chS, chN, chW]) 3 rfl) (by omega)
    generalize ws[i] = w at *
    obtain ⟨wn, wb⟩ := w
    dsimp only at hwi hwo hwc hcell
    obtain ⟨n, rfl⟩ : ∃ n : Nat, wn = n := ⟨wn.toNat, by omega⟩
    have hwo' := BkOk.mono hwo hle
    have hnew : ∀ bks' : List Bk, bks'.map Bk.data = crash1 keep tn sec i n wb.data (bks.map Bk.data) → bks'.map Bk.data = crashK keep tn sec 0 ((ws.take (i + 1)).map fun w => (w.1, w.2.data)) (safe.map Bk.data) := by
      intro bks' h
      rw [htake, List.map_append, List.map_singleton, crashK_snoc, List.length_map, hlt, Nat.zero_add, ← hdat, h]; rfl
    refine Chk.mk (by omega) ?_
    refine LoadD.mk [.int .i64 n, wb.cell] (by have := hcW.part (i := i * 2) (m := 2) (by omega); rw [hcell] at this; exact this) ?_
    conv => whnf
    intro b10
    refine StoreD.st 4 rfl rfl rfl ?_
    rcases hS.at' with q0 | ⟨bX, pre, post, TX, rfl, rfl, hpost⟩
    · have := hS.le; omega
    have hnb : n < bks.length := by omega
    have hset : ∀ bk : Bk, splice (pre ++ bks.map Bk.cell ++ post) (pre.length + n) [bk.cell] = pre ++ (bks.set n bk).map Bk.cell ++ post := by
      intro bk
      rw [splice_mid _ _ _ _ _ (by simp; omega), List.map_set, List.set_eq_take_append_cons_drop, if_pos (by simp; omega)]
      simp
    have hown : ∀ bk : Bk, OwnC [(bX, row (pre ++ (bks.set n bk).map Bk.cell ++ post) TX)] 1 (some ⟨bX, pre.length, none⟩) sl sc ((bks.set n bk).map Bk.cell) := fun bk => ⟨by simp [hbl], hS.le, .inr ⟨bX, pre, post, TX, rfl, rfl, hpost⟩⟩
    have hXc : Cells J' [[(bX, row (pre ++ bks.map Bk.cell ++ post) TX)]] bX pre.length sl (bks.map Bk.cell) := ⟨_, TX, (0, 0), .one 0 rfl, by have := own_take pre (bks.map Bk.cell) post; rwa [List.length_map, hbl] at this, by rw [List.length_map, hbl]⟩
    refine CmpD.split (fun (c2 : (i : Int) = tn) => ?_) (fun (c2 : ¬ (i : Int) = tn) => ?_)
    · refine CodeF.sched [[], [0], [0, 1], [0, 1, 2], [], [4], [], [6], [6, 7], [6, 7, 8], [], [10], [6, 7, 8, 9, 10, 11], [6, 7, 8, 9, 10, 11, 12], [], [14], [], [6, 7, 8, 9, 10, 11, 12, 13, 14, 15, 16], [0, 1, 2, 3, 4, 5, 6, 7, 8, 9, 10, 11, 12, 13, 14, 15, 16, 17], [0, 1, 2, 3, 4, 5, 6, 7, 8, 9, 10, 11, 12, 13, 14, 15, 16, 17, 18]] [0, 1, 2, 3, 4, 5, 6, 7, 8, 9, 10, 11, 12, 13, 14, 15, 16, 17, 18, 19] (by kernel_rfl) ?_
      repeat (first
        | refine LoadD.own 0 rfl _ rfl rfl ?_
        | refine LoadD.own 1 rfl _ rfl rfl ?_
        | refine LoadD.own 2 rfl _ rfl rfl ?_
        | refine LoadD.own 3 rfl _ rfl rfl ?_
        | refine LoadD.own 4 rfl _ rfl rfl ?_
        | refine LoadP.at 0 rfl _ rfl rfl ?_
        | refine LoadP.at 1 rfl _ rfl rfl ?_
        | refine LoadP.at 2 rfl _ rfl rfl ?_
        | refine LoadP.at 3 rfl _ rfl rfl ?_
        | refine LoadP.at 4 rfl _ rfl rfl ?_
        | refine StoreD.st 0 rfl rfl rfl ?_
        | refine StoreD.st 1 rfl rfl rfl ?_
        | refine StoreD.st 2 rfl rfl rfl ?_
        | refine StoreD.st 3 rfl rfl rfl ?_
        | refine StoreD.st 4 rfl rfl rfl ?_
        | refine CmpD.yes rfl ?_
        | refine CmpD.yes (by decide) ?_
        | refine CmpD.no (by decide) ?_
        | refine Chk.mk ⟨rfl, trivial⟩ ?_
        | refine Chk.mk ⟨rfl, rfl, trivial⟩ ?_
        | refine Chk.mk ⟨rfl, rfl, rfl, trivial⟩ ?_
        | refine Chk.mk ⟨rfl, rfl, rfl, rfl, trivial⟩ ?_
        | refine Chk.mk ⟨rfl, rfl, rfl, rfl, rfl, trivial⟩ ?_
        | refine Chk.mk ⟨rfl, rfl, rfl, rfl, rfl, rfl, trivial⟩ ?_)
      refine Chk.mk (by omega) ?_
      refine LoadP.own 1 [(bks[n]).cell] (hXc.at (by rw [Int.toNat_natCast, List.getElem?_map, List.getElem?_eq_getElem hnb]; rfl)) ?_
      repeat (first
        | refine LoadD.own 0 rfl _ rfl rfl ?_
        | refine LoadD.own 1 rfl _ rfl rfl ?_
        | refine LoadD.own 2 rfl _ rfl rfl ?_
        | refine LoadD.own 3 rfl _ rfl rfl ?_
        | refine LoadD.own 4 rfl _ rfl rfl ?_
        | refine LoadP.at 0 rfl _ rfl rfl ?_
        | refine LoadP.at 1 rfl _ rfl rfl ?_
        | refine LoadP.at 2 rfl _ rfl rfl ?_
        | refine LoadP.at 3 rfl _ rfl rfl ?_
        | refine LoadP.at 4 rfl _ rfl rfl ?_
        | refine StoreD.st 0 rfl rfl rfl ?_
        | refine StoreD.st 1 rfl rfl rfl ?_
        | refine StoreD.st 2 rfl rfl rfl ?_
        | refine StoreD.st 3 rfl rfl rfl ?_
        | refine StoreD.st 4 rfl rfl rfl ?_
        | refine CmpD.yes rfl ?_
        | refine CmpD.yes (by decide) ?_
        | refine CmpD.no (by decide) ?_
        | refine Chk.mk ⟨rfl, trivial⟩ ?_
        | refine Chk.mk ⟨rfl, rfl, trivial⟩ ?_
        | refine Chk.mk ⟨rfl, rfl, rfl, trivial⟩ ?_
        | refine Chk.mk ⟨rfl, rfl, rfl, rfl, trivial⟩ ?_
        | refine Chk.mk ⟨rfl, rfl, rfl, rfl, rfl, trivial⟩ ?_
        | refine Chk.mk ⟨rfl, rfl, rfl, rfl, rfl, rfl, trivial⟩ ?_)
      have hbo := hbok _ (List.getElem_mem hnb)
      refine Tri.free (torn_fix J' (bks[n]).a (bks[n]).cap (bks[n]).data hbo wb.a wb.cap wb.data hwo' hwc sec hsec) ?_
      rintro v J2 _ hJ2 ⟨aT, capT, rfl, hT⟩
      repeat (first
        | refine LoadD.own 0 rfl _ rfl rfl ?_
        | refine LoadD.own 1 rfl _ rfl rfl ?_
        | refine LoadD.own 2 rfl _ rfl rfl ?_
        | refine LoadD.own 3 rfl _ rfl rfl ?_
        | refine LoadD.own 4 rfl _ rfl rfl ?_
        | refine LoadP.at 0 rfl _ rfl rfl ?_
        | refine LoadP.at 1 rfl _ rfl rfl ?_
        | refine LoadP.at 2 rfl _ rfl rfl ?_
        | refine LoadP.at 3 rfl _ rfl rfl ?_
        | refine LoadP.at 4 rfl _ rfl rfl ?_
        | refine StoreD.st 0 rfl rfl rfl ?_
        | refine StoreD.st 1 rfl rfl rfl ?_
        | refine StoreD.st 2 rfl rfl rfl ?_
        | refine StoreD.st 3 rfl rfl rfl ?_
        | refine StoreD.st 4 rfl rfl rfl ?_
        | refine CmpD.yes rfl ?_
        | refine CmpD.yes (by decide) ?_
        | refine CmpD.no (by decide) ?_
        | refine Chk.mk ⟨rfl, trivial⟩ ?_
        | refine Chk.mk ⟨rfl, rfl, trivial⟩ ?_
        | refine Chk.mk ⟨rfl, rfl, rfl, trivial⟩ ?_
        | refine Chk.mk ⟨rfl, rfl, rfl, rfl, trivial⟩ ?_
        | refine Chk.mk ⟨rfl, rfl, rfl, rfl, rfl, trivial⟩ ?_
        | refine Chk.mk ⟨rfl, rfl, rfl, rfl, rfl, rfl, trivial⟩ ?_)
      refine Chk.mk (by omega) ?_
      refine StoreD.to 1 rfl _ (hset ⟨aT, capT, tornP (bks[n]).data wb.data sec⟩) (by simp only [List.length_append, List.length_map, hbl]; show pre.length + n + 1 ≤ _; omega) (.inr (.inr (Nat.le_refl _))) _ rfl ?_
      refine ToD.i64 (by omega) (by omega) ?_
      refine ⟨_, Drop.pick [0, 1, 2, 3] _ rfl, ⟨i + 1, _, bks.set n ⟨aT, capT, tornP (bks[n]).data wb.data sec⟩, by omega, hown _, hnew _ ?_, ?_, Imm.le_trans hle hJ2, rfl, rfl⟩, ?_⟩
      · rw [crash1, if_pos c2, List.map_set, List.getD_eq_getElem?_getD, List.getElem?_map, List.getElem?_eq_getElem hnb]; rfl
      · intro y hy
        rcases List.mem_or_eq_of_mem_set hy with hy | rfl
        · exact (hbok y hy).mono hJ2
        · exact hT
      · show ((wl : Int) - ((i : Int) + 1)).toNat < ((wl : Int) - (i : Int)).toNat; omega
    · have hskip : keep.getD i false = false → bks.map Bk.data = crash1 keep tn sec i n wb.data (bks.map Bk.data) := fun h => by rw [crash1, if_neg c2, h]; rfl
      refine CmpD.split (fun (c3 : (i : Int) < nK) => ?_) (fun (c3 : ¬ (i : Int) < nK) => ?_)
      · have hkb := bools_get (l := keep) (i := i) (by omega)
        rcases hK.mem with q0 | ⟨bK, oK, cK, TK, fK, rfl, hIK, hcK⟩
        · omega
        refine Chk.mk (by omega) ?_
        refine LoadD.imm (hle _ _ hIK) [.bool (keep.getD i false)] (take_get hcK hkb) rfl ?_
        cases hkv : keep.getD i false with
        | true =>
          repeat (first
            | refine LoadD.own 0 rfl _ rfl rfl ?_
            | refine LoadD.own 1 rfl _ rfl rfl ?_
            | refine LoadD.own 2 rfl _ rfl rfl ?_
            | refine LoadD.own 3 rfl _ rfl rfl ?_
            | refine LoadD.own 4 rfl _ rfl rfl ?_
            | refine LoadP.at 0 rfl _ rfl rfl ?_
            | refine LoadP.at 1 rfl _ rfl rfl ?_
            | refine LoadP.at 2 rfl _ rfl rfl ?_
            | refine LoadP.at 3 rfl _ rfl rfl ?_
            | refine LoadP.at 4 rfl _ rfl rfl ?_
            | refine StoreD.st 0 rfl rfl rfl ?_
            | refine StoreD.st 1 rfl rfl rfl ?_
            | refine StoreD.st 2 rfl rfl rfl ?_
            | refine StoreD.st 3 rfl rfl rfl ?_
            | refine StoreD.st 4 rfl rfl rfl ?_
            | refine CmpD.yes rfl ?_
            | refine CmpD.yes (by decide) ?_
            | refine CmpD.no (by decide) ?_
            | refine Chk.mk ⟨rfl, trivial⟩ ?_
            | refine Chk.mk ⟨rfl, rfl, trivial⟩ ?_
            | refine Chk.mk ⟨rfl, rfl, rfl, trivial⟩ ?_
            | refine Chk.mk ⟨rfl, rfl, rfl, rfl, trivial⟩ ?_
            | refine Chk.mk ⟨rfl, rfl, rfl, rfl, rfl, trivial⟩ ?_
            | refine Chk.mk ⟨rfl, rfl, rfl, rfl, rfl, rfl, trivial⟩ ?_)
          refine CodeF.sched [[], [0], [0, 1], [0, 1, 2], [], [4], [], [6], [0, 1, 2, 3, 4, 5, 6, 7], [0, 1, 2, 3, 4, 5, 6, 7, 8]] [0, 1, 2, 3, 4, 5, 6, 7, 8, 9] (by kernel_rfl) ?_
          repeat (first
            | refine LoadD.own 0 rfl _ rfl rfl ?_
            | refine LoadD.own 1 rfl _ rfl rfl ?_
            | refine LoadD.own 2 rfl _ rfl rfl ?_
            | refine LoadD.own 3 rfl _ rfl rfl ?_
            | refine LoadD.own 4 rfl _ rfl rfl ?_
            | refine LoadP.at 0 rfl _ rfl rfl ?_
            | refine LoadP.at 1 rfl _ rfl rfl ?_
            | refine LoadP.at 2 rfl _ rfl rfl ?_
            | refine LoadP.at 3 rfl _ rfl rfl ?_
            | refine LoadP.at 4 rfl _ rfl rfl ?_
            | refine StoreD.st 0 rfl rfl rfl ?_
            | refine StoreD.st 1 rfl rfl rfl ?_
            | refine StoreD.st 2 rfl rfl rfl ?_
            | refine StoreD.st 3 rfl rfl rfl ?_
            | refine StoreD.st 4 rfl rfl rfl ?_
            | refine CmpD.yes rfl ?_
            | refine CmpD.yes (by decide) ?_
            | refine CmpD.no (by decide) ?_
            | refine Chk.mk ⟨rfl, trivial⟩ ?_
            | refine Chk.mk ⟨rfl, rfl, trivial⟩ ?_
            | refine Chk.mk ⟨rfl, rfl, rfl, trivial⟩ ?_
            | refine Chk.mk ⟨rfl, rfl, rfl, rfl, trivial⟩ ?_
            | refine Chk.mk ⟨rfl, rfl, rfl, rfl, rfl, trivial⟩ ?_
            | refine Chk.mk ⟨rfl, rfl, rfl, rfl, rfl, rfl, trivial⟩ ?_)
          refine Chk.mk (by omega) ?_
          refine StoreD.to 1 rfl _ (hset wb) (by simp only [List.length_append, List.length_map, hbl]; show pre.length + n + 1 ≤ _; omega) (.inr (.inr (Nat.le_refl _))) _ rfl ?_
          refine ToD.i64 (by omega) (by omega) ?_
          refine ⟨_, Drop.pick [0, 1, 2, 3] _ rfl, ⟨i + 1, _, bks.set n wb, by omega, hown _, hnew _ ?_, ?_, hle, rfl, rfl⟩, ?_⟩
          · rw [crash1, if_neg c2, hkv, if_pos rfl, List.map_set]
          · intro y hy
            rcases List.mem_or_eq_of_mem_set hy with hy | rfl
            · exact hbok y hy
            · exact hwo'
          · show ((wl : Int) - ((i : Int) + 1)).toNat < ((wl : Int) - (i : Int)).toNat; omega
        | false =>
          repeat (first
            | refine LoadD.own 0 rfl _ rfl rfl ?_
            | refine LoadD.own 1 rfl _ rfl rfl ?_
            | refine LoadD.own 2 rfl _ rfl rfl ?_
            | refine LoadD.own 3 rfl _ rfl rfl ?_
            | refine LoadD.own 4 rfl _ rfl rfl ?_
            | refine LoadP.at 0 rfl _ rfl rfl ?_
            | refine LoadP.at 1 rfl _ rfl rfl ?_
            | refine LoadP.at 2 rfl _ rfl rfl ?_
            | refine LoadP.at 3 rfl _ rfl rfl ?_
            | refine LoadP.at 4 rfl _ rfl rfl ?_
            | refine StoreD.st 0 rfl rfl rfl ?_
            | refine StoreD.st 1 rfl rfl rfl ?_
            | refine StoreD.st 2 rfl rfl rfl ?_
            | refine StoreD.st 3 rfl rfl rfl ?_
            | refine StoreD.st 4 rfl rfl rfl ?_
            | refine CmpD.yes rfl ?_
            | refine CmpD.yes (by decide) ?_
            | refine CmpD.no (by decide) ?_
            | refine Chk.mk ⟨rfl, trivial⟩ ?_
            | refine Chk.mk ⟨rfl, rfl, trivial⟩ ?_
            | refine Chk.mk ⟨rfl, rfl, rfl, trivial⟩ ?_
            | refine Chk.mk ⟨rfl, rfl, rfl, rfl, trivial⟩ ?_
            | refine Chk.mk ⟨rfl, rfl, rfl, rfl, rfl, trivial⟩ ?_
            | refine Chk.mk ⟨rfl, rfl, rfl, rfl, rfl, rfl, trivial⟩ ?_)
          refine ToD.i64 (by omega) (by omega) ?_
          refine ⟨_, Drop.pick [0, 1, 2, 3] _ rfl, ⟨i + 1, _, bks, by omega, hS, hnew _ (hskip hkv), hbok, hle, rfl, rfl⟩, ?_⟩
          show ((wl : Int) - ((i : Int) + 1)).toNat < ((wl : Int) - (i : Int)).toNat; omega
      · refine ToD.i64 (by omega) (by omega) ?_
        refine ⟨_, Drop.pick [0, 1, 2, 3] _ rfl, ⟨i + 1, _, bks, by omega, hS, hnew _ (hskip (by rw [List.getD_eq_getElem?_getD, List.getElem?_eq_none (by omega)]; rfl)), hbok, hle, rfl, rfl⟩, ?_⟩
        show ((wl : Int) - ((i : Int) + 1)).toNat < ((wl : Int) - (i : Int)).toNat; omega
  · obtain rfl : i = wl := by omega
    rw [← hwn, List.take_length] at hdat
    refine LoadD.own 0 rfl [.slice sa sl sc] rfl rfl ?_
    refine (clone_blocks J' _ sa sl sc (bks.map Bk.cell) (hS.slC 1 rfl) (by intro v hv; obtain ⟨b, _, rfl⟩ := List.mem_map.1 hv; rfl) (by omega)).mono ?_
    rintro v J3 S3 hJ3 ⟨aN, capN, chN', rfl, hN', rfl, rfl⟩
    refine StoreD.st 0 rfl rfl rfl ?_
    refine StoreD.st 0 rfl rfl rfl ?_
    refine StoreD.st 0 rfl rfl rfl ?_
    refine StoreD.st 0 rfl rfl rfl ?_
    refine StoreD.st 0 rfl rfl rfl ?_
    refine Done.mk ⟨[dChunk b ⟨⟨sa, sl, sc⟩, ⟨aN, sl, capN⟩, ⟨none, 0, 0⟩, count, false, ⟨false, 0⟩, ⟨false, 0⟩⟩, chS, chN', []], Drop.and (Drop.pick [0, 1, 4] _ rfl), rfl, ⟨sa, sl, sc⟩, ⟨aN, sl, capN⟩, chS, chN', bks, hdat, rfl, ⟨hS, hN', OwnC.nil _ _, hbok, hbok, by simp⟩⟩
theorem dk_Crash {I : Imm} {bD : Nat} {st : DSt} {ch : List Blk} (h : Dk I bD st ch) (hf : st.Few 1000000) (aK : Option Addr) (nK capK : Nat) (keep : List Bool) (hK : Rds I aK nK (bools keep)) (tn : Int) (sec : Nat) (hsec : sec < 256) :
    Tri Try.prog 57 #[.pointer (some ⟨bD, 0, none⟩), .slice aK nK capK, .int .i64 tn, .int .u8 sec] I [ch] fun v J S' => v = .int .i64 0 ∧ ∃ ch', Dk J bD (st.crash keep tn sec) ch' ∧ S' = [ch'] := by
  have hwf := h.wf.crash keep tn sec
  obtain ⟨hw, d, chS, chN, chW, bS, bN, bW, rfl, hD, q1, q2, q3, q4, q5, q6, q7⟩ := h
  have hl := hD.hN.len1
  have hl' : st.now.length = d.now.len := by rw [← q2]; simpa using hl
  have hls := hD.hS.len1
  have hls' : st.safe.length = d.safe.len := by rw [← q1]; simpa using hls
  have hr := hw.range
  have hwl := hw.len
  have hW := hD.hW.n
  rw [wCells_length] at hW
  have hW' : st.writes.length = d.writes.len := by rw [← q3, List.length_map]; omega
  obtain ⟨f1, f2, f3⟩ := hf
  refine Tri.abs (S2 := [dChunk bD d, chS, chN, chW]) (by simp) (disk_Crash bD d (by omega) (by omega) (by omega) chS chN chW bS bN bW I hD (fun w hw2 => by
    have := hw.writes (w.1, w.2.data) (by rw [← q3]; exact List.mem_map.2 ⟨w, hw2, rfl⟩)
    dsimp only at this
    omega) aK nK capK keep hK tn sec hsec) ?_
  rintro v J S' hJ ⟨rfl, hS, hN, chS', chN', bks, hbd, rfl, hDA⟩
  rw [q1, q3] at hbd
  exact ⟨[dChunk bD ⟨hS, hN, ⟨none, 0, 0⟩, d.count, false, ⟨false, 0⟩, ⟨false, 0⟩⟩ ++ (chS' ++ (chN' ++ []))], Drop.flat (by simp), rfl, _, ⟨hwf, _, chS', chN', [], bks, bks, [], rfl, hDA, hbd, hbd, rfl, q4, rfl, rfl, rfl⟩, rfl⟩
end Go.Proofs.Ytbpdbgcndfcilaa
namespace Go.Proofs.Ytbpdbgcndfcilaa
open Go.RowKit Go.Sl
set_option maxRecDepth 20000

theorem put5_at {l m : Dat} {k j : Nat} (hm : m.length = 512) (hl : l.length = 4096) (hk : k < 8) :
    (put5 l m k)[j]? = if j / 512 = k then m[j % 512]? else l[j]? := by
  unfold put5
  have h1 : (l.take (k * 512)).length = k * 512 := by rw [List.length_take]; omega
  rw [List.append_assoc]
  rcases Nat.lt_or_ge j (k * 512) with g | g
  · rw [List.getElem?_append_left (by omega), List.getElem?_take, if_pos g, if_neg (by omega)]
  rw [List.getElem?_append_right (by omega), h1]
  rcases Nat.lt_or_ge (j - k * 512) 512 with g2 | g2
  · rw [List.getElem?_append_left (by omega), if_pos (by omega)]
    congr 1; omega
  · rw [List.getElem?_append_right (by omega), hm, List.getElem?_drop]
    have e : k * 512 + 512 + (j - k * 512 - 512) = j := by omega
    rw [e, if_neg (by omega)]
theorem tornK_at {old new : Dat} (h1 : old.length = 4096) (h2 : new.length = 4096) (sec : Nat) : ∀ (n : Nat), n ≤ 8 → ∀ j, j < 4096 → (tornK old new sec n)[j]? = if j / 512 < n ∧ sec / 2 ^ (j / 512) % 2 = 1 then new[j]? else old[j]?
  | 0, _, j, _ => by unfold tornK; rw [if_neg (by omega)]
  | n + 1, hn, j, hj => by
    have ih := tornK_at h1 h2 sec n (by omega) j hj
    have hl := tornK_length h1 h2 sec n (by omega)
    rw [tornK_succ]
    by_cases hs : sec / 2 ^ n % 2 = 1
    · rw [if_pos hs, put5_at (by rw [List.length_take, List.length_drop]; omega) hl (by omega), ih]
      by_cases hj2 : j / 512 = n
      · rw [if_pos hj2, if_pos ⟨by omega, by rw [hj2]; exact hs⟩, List.getElem?_take, if_pos (by omega), List.getElem?_drop]
        congr 1; omega
      · rw [if_neg hj2]
        by_cases h3 : j / 512 < n ∧ sec / 2 ^ (j / 512) % 2 = 1
        · rw [if_pos h3, if_pos ⟨by omega, h3.2⟩]
        · rw [if_neg h3, if_neg (fun h => h3 ⟨by omega, h.2⟩)]
    · rw [if_neg hs, ih]
      by_cases h3 : j / 512 < n ∧ sec / 2 ^ (j / 512) % 2 = 1
      · rw [if_pos h3, if_pos ⟨by omega, h3.2⟩]
      · rw [if_neg h3]
        by_cases h4 : j / 512 < n + 1 ∧ sec / 2 ^ (j / 512) % 2 = 1
        · exfalso
          by_cases hj2 : j / 512 = n
          · exact hs (hj2 ▸ h4.2)
          · exact h3 ⟨by omega, h4.2⟩
        · rw [if_neg h4]
/-- no sector bears this stamp -/
def Foreign (m b : Dat) : Prop := ∀ k, k < 8 → (b.drop (k * 512)).take 8 ≠ m
theorem torn_bears {old new m : Dat} (h1 : old.length = 4096) (h2 : new.length = 4096) (hm : m.length = 8) (hf : Foreign m old) {sec : Nat} (hb : Bears m (tornP old new sec)) : tornP old new sec = new := by
  have hl : (tornP old new sec).length = 4096 := tornK_length h1 h2 sec 8 (by omega)
  have hat := tornK_at h1 h2 sec 8 (by omega)
  have hbit : ∀ k, k < 8 → sec / 2 ^ k % 2 = 1 := by
    intro k hk
    by_cases h : sec / 2 ^ k % 2 = 1
    · exact h
    exfalso
    refine hf k hk (extN 8 (by rw [List.length_take, List.length_drop]; omega) hm fun i hi => ?_)
    have := (bears_at hm hl).1 hb (k * 512 + i) (by omega) (by omega)
    rw [tornP, hat _ (by omega), if_neg (by rw [show (k * 512 + i) / 512 = k by omega]; exact fun h' => h h'.2)] at this
    rw [List.getElem?_take, if_pos hi, List.getElem?_drop, this]
    congr 1; omega
  refine ext4096 hl h2 fun j hj => ?_
  rw [tornP, hat j hj, if_pos ⟨by omega, hbit _ (by omega)⟩]
theorem stamp_ne {e e' s s' : Nat} (he : e ≤ 8388608) (he' : e' ≤ 8388608) (hs : s ≤ 549755813888) (hs' : s' ≤ 549755813888) (h : e ≠ e') : stampB e s ≠ stampB e' s' := by
  intro hh
  have := congrArg nb hh
  rw [stamp_num he hs, stamp_num he' hs'] at this
  omega
theorem bears_foreign {m m' b : Dat} (h : Bears m b) (hn : m ≠ m') : Foreign m' b := fun k hk => by rw [h k hk]; exact hn
theorem noughts_foreign {e s : Nat} (he : 1 ≤ e ∧ e ≤ 8388608) (hs : s ≤ 549755813888) : Foreign (stampB e s) noughts := by
  intro k hk h
  have h1 := congrArg nb h
  rw [stamp_num he.2 hs] at h1
  have e0 : (noughts.drop (k * 512)).take 8 = List.replicate 8 0 := by
    unfold noughts
    rw [List.drop_replicate, List.take_replicate]
    congr 1; omega
  rw [e0] at h1
  have : nb (List.replicate 8 0) = 0 := by decide
  omega
theorem ringB_bears {ep : Nat} : ∀ (l : List (List PImg)) (sq : Nat), (∀ (i : Nat) (h : i < l.length), RightP ep ((sq + i : Nat) : Int) l[i]) → ∀ b ∈ ringB ep sq l, b.length = 4096 ∧ ∃ s', s' ≤ 549755813888 ∧ Bears (stampB ep s') b
  | [], _, _, b, hb => by simp [ringB] at hb
  | g :: l, sq, hR, b, hb => by
    rw [ringB] at hb
    have h0 : RightP ep ((sq : Nat) : Int) g := by have := hR 0 (by simp); rw [Nat.add_zero] at this; exact this
    rcases List.mem_append.1 hb with hb | hb
    · have hl := h0.lens
      have h32 := h0.2.2.2.2.2.1
      have hsq : (sq : Int) ≤ 549755813888 := h0.2.2.2.1
      rw [putP_eq] at hb
      rcases List.mem_cons.1 hb with rfl | hb
      · exact ⟨hblk_length h32 hl, sq, by omega, hblk_bears h32 hl⟩
      · obtain ⟨x, hx, rfl⟩ := List.mem_map.1 hb
        have hx4 := hl x hx
        exact ⟨by rw [markK_length (stampB_length _ _) 8 (by omega) (by omega)]; exact hx4, sq, by omega, mark_bears (stampB_length _ _) hx4⟩
    · exact ringB_bears l (sq + 1) (fun i hi => by
        have := hR (i + 1) (by simpa using hi)
        rw [show sq + (i + 1) = sq + 1 + i by omega] at this
        simpa using this) b hb
/-- a beginning of the groups is told -/
theorem scan_kept {rb : Nat → Dat} {ep : Nat} : ∀ (l : List (List PImg)) (f at_ sq room : Nat), (∀ (i : Nat) (h : i < l.length), RightP ep ((sq + i : Nat) : Int) l[i]) → usedP l ≤ room → sq + l.length ≤ 549755813888 →
    (∀ (k : Nat) (h : k < (ringB ep sq l).length) (s : Nat), s ≤ 549755813888 → Bears (stampB ep s) (rb (at_ + k)) → rb (at_ + k) = (ringB ep sq l)[k]) →
    (∀ k s, usedP l ≤ k → k < room → s ≤ 549755813888 → ¬ Bears (stampB ep s) (rb (at_ + k))) →
    ∃ n, n ≤ l.length ∧ scanK rb ep f at_ sq room = gsP ep sq (l.take n)
  | [], f, at_, sq, room, _, _, hsq, _, h2 => by
    refine ⟨0, by simp, ?_⟩
    rw [scan_stop]; · rfl
    intro e s l hg h'
    have hr := (grpP_room hg).1
    obtain ⟨l', hd, _, _⟩ := grpP_hd hg
    have hb := (hdP_some hd).2.2.2.2.2.2
    have hs : (s : Int) = sq := h'.2
    have he : (e : Int) = ep := h'.1
    obtain rfl : e = ep := by omega
    exact h2 0 s (by simp [usedP]) (by omega) (by simp at hsq; omega) (by rw [Nat.add_zero]; exact hb)
  | g :: l, 0, at_, sq, room, _, _, _, _, _ => ⟨0, by simp, rfl⟩
  | g :: l, f + 1, at_, sq, room, hR, hu, hsq, h1, h2 => by
    have e : usedP (g :: l) = g.length + 1 + usedP l := by simp [usedP]
    have hpl := putP_length ep sq g
    have hrl := ringB_length ep l (sq + 1)
    have hRl : ringB ep sq (g :: l) = putP ep sq g ++ ringB ep (sq + 1) l := rfl
    have hlen : (ringB ep sq (g :: l)).length = usedP (g :: l) := ringB_length ep (g :: l) sq
    have h0 : RightP ep ((sq : Nat) : Int) g := by have := hR 0 (by simp); rw [Nat.add_zero] at this; exact this
    have hat : ∀ (k : Nat) (hk : k < (putP ep sq g).length), Bears (stampB ep sq) (rb (at_ + k)) → rb (at_ + k) = (putP ep sq g)[k] := by
      intro k hk hb
      have := h1 k (by rw [hlen]; omega) sq (by simp at hsq; omega) hb
      rw [this]
      simp only [hRl]
      rw [List.getElem_append_left hk]
    rw [scanK]
    cases hg : grpP rb at_ room with
    | none => exact ⟨0, by simp, rfl⟩
    | some p =>
      obtain ⟨e2, s2, l2⟩ := p
      dsimp only
      by_cases hc : (e2 : Int) = ep ∧ (s2 : Int) = sq
      · rw [if_pos hc]
        obtain ⟨he, hs⟩ := hc
        obtain rfl : e2 = ep := by omega
        obtain rfl : s2 = sq := by omega
        obtain ⟨l', hd, hll, hroom⟩ := grpP_hd hg
        have hb0 := (hdP_some hd).2.2.2.2.2.2
        have hr0 := hat 0 (by omega) (by rw [Nat.add_zero]; exact hb0)
        rw [Nat.add_zero] at hr0
        have hr0' : rb at_ = hblk e2 s2 g := by rw [hr0]; rfl
        have hd' := hd
        rw [hr0', hdP_put h0, Option.some.injEq] at hd'
        have hl'g : l'.length = g.length := by
          have := congrArg (fun x => x.2.2.length) hd'
          simpa using this.symm
        rw [grpP_get hd (by omega)] at hg
        have hbs : ∀ i, i < l'.length → Bears (stampB e2 s2) (rb (at_ + (i + 1))) := by
          rw [List.range_succ_eq_map, List.map_cons, Nat.add_zero] at hg
          by_cases hrest : ((List.map Nat.succ (List.range l'.length)).map fun i => rb (at_ + i)).length = l'.length ∧ RestOk e2 s2 ((List.map Nat.succ (List.range l'.length)).map fun i => rb (at_ + i))
          · intro i hi
            exact (hrest.2 (rb (at_ + (i + 1))) (by
              rw [List.map_map]
              exact List.mem_map.2 ⟨i, List.mem_range.2 hi, rfl⟩)).2
          · rw [getP_bad hd hrest] at hg
            cases hg
        have hall : ((List.range (l'.length + 1)).map fun i => rb (at_ + i)) = putP e2 s2 g := by
          refine getElem_eq_of (by simp [hpl, hl'g]) fun i i1 i2 => ?_
          simp only [List.getElem_map, List.getElem_range]
          rw [List.length_map, List.length_range] at i1
          cases i with
          | zero => exact hr0
          | succ i => exact hat (i + 1) i2 (hbs i (by omega))
        rw [hall, getP_put h0, Option.some.injEq] at hg
        have hl2 : g = l2 := by
          have := congrArg (fun x => x.2.2) hg
          exact this
        subst hl2
        obtain ⟨n, hn, hrec⟩ := scan_kept l f (at_ + (g.length + 1)) (s2 + 1) (room - (g.length + 1)) (fun i hi => by
            have := hR (i + 1) (by simpa using hi)
            rw [show s2 + (i + 1) = s2 + 1 + i by omega] at this
            simpa using this) (by omega) (by simp at hsq; omega) (fun k hk s hs hb => by
            rw [show at_ + (g.length + 1) + k = at_ + (g.length + 1 + k) by omega] at hb ⊢
            have := h1 (g.length + 1 + k) (by rw [hlen, e]; omega) s hs hb
            rw [this]
            simp only [hRl]
            rw [List.getElem_append_right (by omega)]
            congr 1
            omega) (fun k s hk1 hk2 hs hb => by
            rw [show at_ + (g.length + 1) + k = at_ + (g.length + 1 + k) by omega] at hb
            exact h2 (g.length + 1 + k) s (by omega) (by omega) hs hb)
        refine ⟨n + 1, by simp; omega, ?_⟩
        rw [show ((s2 : Nat) : Int) + 1 = ((s2 + 1 : Nat) : Int) by omega, hrec]
        rfl
      · rw [if_neg hc]
        exact ⟨0, by simp, rfl⟩
end Go.Proofs.Ytbpdbgcndfcilaa
namespace Go.Proofs.Ytbpdbgcndfcilaa
open Go.RowKit Go.Sl
set_option maxRecDepth 20000

def wL (tail : Nat) : Nat → List Dat → List (Int × Dat)
  | _, [] => []
  | o, b :: bs => (((2 + (tail + o) % 16 : Nat) : Int), b) :: wL tail (o + 1) bs
theorem wL_append (tail : Nat) : ∀ (a b : List Dat) (o : Nat), wL tail o (a ++ b) = wL tail o a ++ wL tail (o + a.length) b
  | [], b, o => by simp [wL]
  | x :: a, b, o => by rw [List.cons_append, wL, wL_append tail a b, wL, List.length_cons, show o + 1 + a.length = o + (a.length + 1) by omega]; rfl
theorem wL_length (tail : Nat) : ∀ (a : List Dat) (o : Nat), (wL tail o a).length = a.length
  | [], _ => rfl
  | _ :: a, o => by rw [wL, List.length_cons, wL_length tail a, List.length_cons]
theorem wL_get (tail : Nat) : ∀ (a : List Dat) (o i : Nat) (h : i < a.length), (wL tail o a)[i]? = some (((2 + (tail + (o + i)) % 16 : Nat) : Int), a[i])
  | [], _, i, h => by simp at h
  | b :: a, o, 0, h => rfl
  | b :: a, o, i + 1, h => by
    rw [wL, List.getElem?_cons_succ, wL_get tail a (o + 1) i (by simpa using h), show o + 1 + i = o + (i + 1) by omega]; rfl
theorem wrD_wL (tail u : Nat) : ∀ (bs : List Dat) (i : Nat) (d : DSt), (wrD (fun k : Nat => ((2 + (tail + u + k) % 16 : Nat) : Int)) bs i d).writes = d.writes ++ wL tail (u + i) bs
  | [], _, _ => by simp [wrD, wL]
  | b :: bs, i, d => by
    rw [wrD, wrD_wL tail u bs (i + 1), wL, show u + (i + 1) = u + i + 1 by omega]
    show (d.writes ++ [_]) ++ _ = _
    rw [List.append_assoc, show tail + u + i = tail + (u + i) by omega]; rfl
theorem WI.wr {ep tail : Nat} {z : Nat → Dat} {j : JSt} {d : DSt} {all : List (List PImg)} (w : WI ep tail z j d all) (hw : d.writes = wL tail 0 (ringB ep 1 all)) {l : List PImg} (hR : RightP ep ((all.length + 1 : Nat) : Int) l) (hf : usedP all + (l.length + 1) ≤ 16) :
    (j.appendB d l false).2.1.writes = wL tail 0 (ringB ep 1 (all ++ [l])) := by
  have hge := usedP_ge all
  have hR' : RightP j.epoch j.next l := by rw [w.epoch, w.next]; exact hR
  have hok := w.wf.ring
  have hokd : Ok 16 tail (usedP all : Nat) 0 := by have := hok; rw [w.s, w.t, w.u, w.h] at this; exact this
  have htl : (tail : Int) < 16 := hokd.2.2.2.1
  have hp : putS j.s j.t j.u j.h ((l.length : Int) + 1) (if false = true then (l.length : Int) + 1 else 0) = ((j.s, (tail : Int), ((usedP all : Nat) : Int) + ((l.length : Int) + 1), 0, 0), ((tail : Int) + (usedP all : Nat)) % 16) := by
    rw [w.s, w.t, w.u, w.h]
    unfold putS
    rw [if_neg (by simp only [Bool.false_eq_true, if_false]; rintro (h | h | h | h | h); exact h hokd; omega; omega; omega; omega), if_neg (by simp only [Bool.false_eq_true, if_false]; omega)]
    simp only [Bool.false_eq_true, if_false, Int.sub_zero]
  have hlen16 : j.s + 2 ≤ d.now.length := by rw [w.s, w.len]; decide
  have hs1 : (l.length : Int) + 1 ≤ j.s := by rw [w.s]; omega
  obtain ⟨j', a, _⟩ := JSt.append_next w.wf (by rw [w.groups]; omega) w.broken hR' hs1 w.calm hlen16 hp
  rw [a]
  have hff : (fun k : Nat => (2 : Int) + (((tail : Int) + (usedP all : Nat)) % 16 + k) % j.s) = fun k : Nat => ((2 + (tail + usedP all + k) % 16 : Nat) : Int) := by
    funext k
    rw [w.s]; omega
  have he1 : j.epoch.toNat = ep := by rw [w.epoch]; rfl
  have he2 : j.next.toNat = 1 + all.length := by rw [w.next]; omega
  show (wrD _ _ 0 d).writes = _
  rw [hff, he1, he2, wrD_wL, hw, ringB_snoc, wL_append, ringB_length, Nat.zero_add, Nat.add_zero]
theorem WI.wrs {ep tail : Nat} {z : Nat → Dat} (hep : 1 ≤ ep ∧ ep ≤ 8388608) : ∀ (l : List Int) (x : JSt × DSt × List (List PImg)), WI ep tail z x.1 x.2.1 x.2.2 → x.2.1.writes = wL tail 0 (ringB ep 1 x.2.2) → (wrtK x l).2.1.writes = wL tail 0 (ringB ep 1 (wrtK x l).2.2)
  | [], _, _, h => h
  | s :: l, x, w, h => by
    refine WI.wrs hep l _ (w.step hep s) ?_
    have hge := usedP_ge x.2.2
    have hu := w.used
    have hR := im9_pick hep s x.2.2.length (by omega)
    unfold wrtStep
    rcases w.append hR with ⟨h0, _, h2⟩ | ⟨_, _, h2, h3⟩
    · dsimp only; rw [if_pos h2]; exact w.wr h hR h0
    · dsimp only; rw [if_neg h3, h2]; exact h
theorem wrtP_wr {ep tail : Nat} (hep : 1 ≤ ep ∧ ep ≤ 8388608) (ht : tail < 16) (l : List Int) : (wrtP ep tail l).2.1.writes = wL tail 0 (ringB ep 1 (wrtP ep tail l).2.2) := WI.wrs hep _ _ (WI.fresh hep ht) rfl
theorem crash1_get (keep : List Bool) (tn : Int) (sec i n : Nat) (b : Dat) (s : List Dat) (p : Nat) (hn : n < s.length) :
    (n ≠ p → (crash1 keep tn sec i n b s).getD p [] = s.getD p []) ∧ (n = p → (crash1 keep tn sec i n b s).getD p [] = s.getD p [] ∨ (crash1 keep tn sec i n b s).getD p [] = b ∨ (crash1 keep tn sec i n b s).getD p [] = tornP (s.getD p []) b sec) := by
  have h1 : ∀ y : Dat, n ≠ p → (s.set n y).getD p [] = s.getD p [] := fun y h => by
    rw [List.getD_eq_getElem?_getD, List.getD_eq_getElem?_getD, List.getElem?_set_ne h]
  have h2 : ∀ y : Dat, n = p → (s.set n y).getD p [] = y := fun y h => by
    subst h
    rw [List.getD_eq_getElem?_getD, List.getElem?_set_self hn]; rfl
  unfold crash1
  constructor
  · intro h
    split
    · exact h1 _ h
    · split
      · exact h1 _ h
      · rfl
  · intro h
    split
    · right; right; rw [h2 _ h, h]
    · split
      · right; left; exact h2 _ h
      · left; rfl
theorem crash_wL (keep : List Bool) (tn : Int) (sec tail : Nat) : ∀ (bs : List Dat) (u i : Nat) (s : List Dat), s.length = 64 → u + bs.length ≤ 16 → ∀ o, o < 16 →
    (∀ (_ : u ≤ o) (h : o - u < bs.length), (crashK keep tn sec i (wL tail u bs) s).getD (2 + (tail + o) % 16) [] = s.getD (2 + (tail + o) % 16) [] ∨ (crashK keep tn sec i (wL tail u bs) s).getD (2 + (tail + o) % 16) [] = bs[o - u] ∨ (crashK keep tn sec i (wL tail u bs) s).getD (2 + (tail + o) % 16) [] = tornP (s.getD (2 + (tail + o) % 16) []) bs[o - u] sec) ∧
    (¬ (u ≤ o ∧ o - u < bs.length) → (crashK keep tn sec i (wL tail u bs) s).getD (2 + (tail + o) % 16) [] = s.getD (2 + (tail + o) % 16) [])
  | [], u, i, s, _, _, o, _ => ⟨fun _ h => by simp at h, fun _ => rfl⟩
  | b :: bs, u, i, s, hs, hu, o, ho => by
    rw [wL, crashK]
    dsimp only
    rw [Int.toNat_natCast]
    simp only [List.length_cons] at hu
    obtain ⟨g1, g2⟩ := crash1_get keep tn sec i (2 + (tail + u) % 16) b s (2 + (tail + o) % 16) (by omega)
    obtain ⟨r1, r2⟩ := crash_wL keep tn sec tail bs (u + 1) (i + 1) (crash1 keep tn sec i (2 + (tail + u) % 16) b s) (by rw [crash1_length]; exact hs) (by omega) o ho
    by_cases huo : u = o
    · subst huo
      have hr := r2 (by omega)
      rw [hr]
      refine ⟨fun _ h => ?_, fun h => absurd ⟨Nat.le_refl _, by simp⟩ h⟩
      simp only [Nat.sub_self, List.getElem_cons_zero]
      exact g2 rfl
    · have hg := g1 (by omega)
      rw [hg] at r1 r2
      refine ⟨fun h1 h => ?_, fun h => r2 (fun h' => h ⟨by omega, by simp; omega⟩)⟩
      have e : o - u = (o - (u + 1)) + 1 := by omega
      have := r1 (by omega) (by simp only [List.length_cons] at h; omega)
      simp only [e, List.getElem_cons_succ]
      exact this
/-- the old content bears no stamp of the new epoch -/
theorem WI.foreign {tail : Nat} {j : JSt} {d : DSt} {all : List (List PImg)} (w : WI 1 tail (fun _ => noughts) j d all) {o : Nat} (ho : o < 16) {s : Nat} (hs : s ≤ 549755813888) : (rbP d 2 16 (tail + o)).length = 4096 ∧ Foreign (stampB 2 s) (rbP d 2 16 (tail + o)) := by
  rw [w.ring o ho, List.getD_eq_getElem?_getD]
  rcases Nat.lt_or_ge o (ringB 1 1 all).length with g | g
  · rw [List.getElem?_eq_getElem g]
    obtain ⟨h1, s', h2, h3⟩ := ringB_bears all 1 (fun i hi => by have := w.right i hi; rwa [show i + 1 = 1 + i by omega] at this) _ (List.getElem_mem g)
    exact ⟨h1, bears_foreign h3 (stamp_ne (by omega) (by omega) h2 hs (by omega))⟩
  · rw [List.getElem?_eq_none g]
    exact ⟨noughts_length, noughts_foreign (by omega) hs⟩
theorem foreign_not {m b : Dat} (h : Foreign m b) : ¬ Bears m b := fun hb => h 0 (by omega) (hb 0 (by omega))
/-- behind a crash -/
theorem kept_scan {tail : Nat} {j : JSt} {f : DSt} {all : List (List PImg)} {z : Nat → Dat} (w : WI 2 tail z j f all) {safe : List Dat} (hs : safe.length = 64) (hO : ∀ o, o < 16 → (safe.getD (2 + (tail + o) % 16) []).length = 4096 ∧ ∀ s, s ≤ 549755813888 → Foreign (stampB 2 s) (safe.getD (2 + (tail + o) % 16) []))
    {d : DSt} (keep : List Bool) (tn : Int) (sec : Nat) (hd : d.now = crashK keep tn sec 0 (wL tail 0 (ringB 2 1 all)) safe) : ∃ n, n ≤ all.length ∧ scanL d ⟨64, 2, 1, tail⟩ = gsP 2 1 (all.take n) := by
  have hu := w.used
  have hge := usedP_ge all
  have hrl := ringB_length 2 all 1
  have hcl := crash_wL keep tn sec tail (ringB 2 1 all) 0 0 safe hs (by omega)
  have hrb : ∀ o, rbP d 2 16 (tail + o) = (crashK keep tn sec 0 (wL tail 0 (ringB 2 1 all)) safe).getD (2 + (tail + o) % 16) [] := fun o => by unfold rbP; rw [hd]
  have hRR : ∀ (i : Nat) (h : i < all.length), RightP (2 : Nat) ((1 + i : Nat) : Int) all[i] := fun i hi => by have := w.right i hi; rwa [show i + 1 = 1 + i by omega] at this
  rw [scanL64 (by rw [hd, crashK_length]; exact hs)]
  show ∃ n, n ≤ all.length ∧ scanK (rbP d 2 16) ((2 : Nat) : Int) 17 ((tail : Nat) : Int).toNat ((1 : Nat) : Int) 16 = _
  rw [Int.toNat_natCast]
  refine scan_kept all 17 tail 1 16 hRR hu (by omega) (fun k hk s hs2 hb => ?_) (fun k s hk1 hk2 hs2 hb => ?_)
  · obtain ⟨h1, h2⟩ := hO k (by omega)
    obtain ⟨c1, _⟩ := hcl k (by omega)
    have hN := (ringB_bears all 1 hRR _ (List.getElem_mem hk)).1
    rw [hrb k] at hb ⊢
    rcases c1 (by omega) (by omega) with c | c | c
    · rw [c] at hb
      exact absurd hb (foreign_not (h2 s hs2))
    · exact c
    · rw [c] at hb ⊢
      exact torn_bears h1 hN (stampB_length _ _) (h2 s hs2) hb
  · obtain ⟨h1, h2⟩ := hO k (by omega)
    obtain ⟨_, c2⟩ := hcl k (by omega)
    rw [hrb k, c2 (by omega)] at hb
    exact foreign_not (h2 s hs2) hb
/-- behind a flush -/
theorem full_scan {tail : Nat} {j : JSt} {f : DSt} {all : List (List PImg)} {z : Nat → Dat} (w : WI 2 tail z j f all) {d : DSt} (hlen : d.now.length = 64) (hN : ∀ (k : Nat) (h : k < (ringB 2 1 all).length), rbP d 2 16 (tail + k) = (ringB 2 1 all)[k]) (hO : ∀ o, usedP all ≤ o → o < 16 → ∀ s, s ≤ 549755813888 → Foreign (stampB 2 s) (rbP d 2 16 (tail + o))) :
    scanL d ⟨64, 2, 1, tail⟩ = gsP 2 1 all := by
  have hu := w.used
  have hge := usedP_ge all
  have hRR : ∀ (i : Nat) (h : i < all.length), RightP (2 : Nat) ((1 + i : Nat) : Int) all[i] := fun i hi => by have := w.right i hi; rwa [show i + 1 = 1 + i by omega] at this
  rw [scanL64 hlen]
  show scanK (rbP d 2 16) ((2 : Nat) : Int) 17 ((tail : Nat) : Int).toNat ((1 : Nat) : Int) 16 = _
  rw [Int.toNat_natCast, scan_prefix (rbP d 2 16) 2 all 17 tail 1 16 hRR hu (by omega) hN, scan_stop, List.append_nil]
  intro e s l hg h'
  rcases Nat.lt_or_ge (usedP all) 16 with g | g
  · obtain ⟨l', hd, _, _⟩ := grpP_hd hg
    have hb := (hdP_some hd).2.2.2.2.2.2
    have hs := (hdP_some hd).2.2.2.1.2.2.2.1
    have he : (e : Int) = ((2 : Nat) : Int) := h'.1
    obtain rfl : e = 2 := by omega
    exact foreign_not (hO _ (Nat.le_refl _) g s (by omega)) hb
  · rw [show 16 - usedP all = 0 by omega, grpP_zero] at hg; cases hg
end Go.Proofs.Ytbpdbgcndfcilaa
namespace Go.Proofs.Ytbpdbgcndfcilaa
open Go.RowKit Go.Sl
set_option maxRecDepth 20000

end Go.Proofs.Ytbpdbgcndfcilaa
namespace Go.Proofs.Ytbpdbgcndfcilaa
open Go.RowKit Go.Sl
set_option maxRecDepth 20000

theorem Rds_sub {I : Imm} {a : Option Addr} {n cap : Nat} {vs : List Value} (h : Rds I a n vs) (lo m : Nat) (hm : 0 < m) (hle : lo + m ≤ n) (hc : n ≤ cap) : Rds I (slAddr a lo cap 1) m ((vs.drop lo).take m) := (slC_part (h.slC (S := [])) lo m hm hle hc).rds
end Go.Proofs.Ytbpdbgcndfcilaa
namespace Go.Proofs.Ytbpdbgcndfcilaa
open Go.RowKit Go.Sl
set_option maxRecDepth 20000

theorem ims_take {J : Imm} {aS : Option Addr} {ms : List Ims} {all : List (List PImg)} (h : ImsAt J aS ms all) (n : Nat) (hn : n ≤ ms.length) (cap : Nat) (hc : ms.length ≤ cap) : ImsAt J (slAddr aS 0 cap 1) (ms.take n) (all.take n) := by
  have hl : (ms.take n).length = n := by rw [List.length_take]; omega
  refine ⟨?_, fun m hm => h.each m (List.mem_of_mem_take hm), by rw [List.map_take, h.pr]⟩
  rw [hl, List.map_take]
  rcases Nat.eq_zero_or_pos n with h0 | h0
  · subst h0; exact ⟨rfl, .inl rfl⟩
  · have := Rds_sub h.rd 0 n h0 (by omega) hc
    rwa [List.drop_zero] at this
set_option maxHeartbeats 8000000 in
theorem scanKept_walk {I : Imm} (t0 : Int) (h0 : In64 t0) (aO : Option Addr) (nO capO : Nat) (zO : List Int) (hzO : zO.length = nO) (hO : Rds I aO nO (zO.map (Value.int .i64))) (hzO2 : ∀ x ∈ zO, (Lit.int .i64 x).wf = true)
    (aZ : Option Addr) (nZ capZ : Nat) (z : List Int) (hz : z.length = nZ) (hZ : Rds I aZ nZ (z.map (Value.int .i64))) (hz2 : ∀ x ∈ z, (Lit.int .i64 x).wf = true)
    (aK : Option Addr) (nK capK : Nat) (keep : List Bool) (hK : Rds I aK nK (bools keep)) (tn : Int) (_htn : In64 tn) (sec : Nat) (hsec : sec < 256) (fl : Bool) :
    Tri Try.prog 10 #[.int .i64 t0, .slice aO nO capO, .slice aZ nZ capZ, .slice aK nK capK, .int .i64 tn, .int .u8 sec, .bool fl] I [] fun v _ _ => v = .bool true := by
  have hO : Rds I aO nO (ints zO) := hO
  have hZ : Rds I aZ nZ (ints z) := hZ
  have hzO3 : ∀ x ∈ zO, In64 x := fun x hx => int_of_wf (hzO2 x hx)
  have hz3 : ∀ x ∈ z, In64 x := fun x hx => int_of_wf (hz2 x hx)
  clear hzO2 hz2
  refine Tri.of (args := [.int .i64 t0, .slice aO nO capO, .slice aZ nZ capZ, .slice aK nK capK, .int .i64 tn, .int .u8 sec, .bool fl]) tabOk Try.func10 rfl (by kernel_rfl) (by kernel_rfl) ?_
  have hp0 := pickS_range (n := t0) (m := 16) (by decide)
  refine Tri.free (low_Pick t0 16 I h0 (by unfold In64; omega)) ?_
  rintro v _ _ hJ ⟨rfl, rfl⟩
  obtain ⟨tail, htl⟩ : ∃ tail : Nat, pickS t0 16 = tail := ⟨(pickS t0 16).toNat, by omega⟩
  rw [htl]
  have ht16 : tail < 16 := by omega
  refine Tri.frameX (written9 I 1 tail (by omega) ht16 aO nO capO zO hzO hzO3 hO) [] rfl rfl ?_
  rintro v J1 A' hJ1 ⟨bD, chD, aS1, capS1, ms1, rfl, hD, _, _, rfl⟩
  have w1 := wrtP_wi (ep := 1) (tail := tail) (by omega) ht16 zO
  generalize wrtP ((1 : Nat) : Int) (tail : Int) zO = x1 at *
  obtain ⟨j1, d1, all1⟩ := x1
  dsimp only at hD w1
  repeat (first
    | refine LoadD.own 0 rfl _ rfl rfl ?_
    | refine LoadD.own 1 rfl _ rfl rfl ?_
    | refine LoadD.own 2 rfl _ rfl rfl ?_
    | refine LoadP.at 0 rfl _ rfl rfl ?_
    | refine LoadP.at 1 rfl _ rfl rfl ?_
    | refine LoadP.at 2 rfl _ rfl rfl ?_
    | refine StoreD.st 0 rfl rfl rfl ?_
    | refine StoreD.st 1 rfl rfl rfl ?_
    | refine StoreD.st 2 rfl rfl rfl ?_
    | refine CmpD.yes rfl ?_
    | refine CmpD.yes (by decide) ?_
    | refine CmpD.no (by decide) ?_
    | refine Chk.mk ⟨rfl, trivial⟩ ?_
    | refine Chk.mk ⟨rfl, rfl, trivial⟩ ?_
    | refine Chk.mk ⟨rfl, rfl, rfl, trivial⟩ ?_
    | refine Chk.mk ⟨rfl, rfl, rfl, rfl, trivial⟩ ?_
    | refine Chk.mk ⟨rfl, rfl, rfl, rfl, rfl, trivial⟩ ?_
    | refine Chk.mk ⟨rfl, rfl, rfl, rfl, rfl, rfl, trivial⟩ ?_)
  have hfl1 := dk_Flush hD
  rw [flush_calm w1.calm] at hfl1
  refine Tri.frame1 0 rfl hfl1 ?_
  rintro v J2 A' hJ2 ⟨rfl, chD2, hD2, rfl⟩
  refine ⟨_, rfl, ?_⟩
  repeat (first
    | refine LoadD.own 0 rfl _ rfl rfl ?_
    | refine LoadD.own 1 rfl _ rfl rfl ?_
    | refine LoadD.own 2 rfl _ rfl rfl ?_
    | refine LoadP.at 0 rfl _ rfl rfl ?_
    | refine LoadP.at 1 rfl _ rfl rfl ?_
    | refine LoadP.at 2 rfl _ rfl rfl ?_
    | refine StoreD.st 0 rfl rfl rfl ?_
    | refine StoreD.st 1 rfl rfl rfl ?_
    | refine StoreD.st 2 rfl rfl rfl ?_
    | refine CmpD.yes rfl ?_
    | refine CmpD.yes (by decide) ?_
    | refine CmpD.no (by decide) ?_
    | refine Chk.mk ⟨rfl, trivial⟩ ?_
    | refine Chk.mk ⟨rfl, rfl, trivial⟩ ?_
    | refine Chk.mk ⟨rfl, rfl, rfl, trivial⟩ ?_
    | refine Chk.mk ⟨rfl, rfl, rfl, rfl, trivial⟩ ?_
    | refine Chk.mk ⟨rfl, rfl, rfl, rfl, rfl, trivial⟩ ?_
    | refine Chk.mk ⟨rfl, rfl, rfl, rfl, rfl, rfl, trivial⟩ ?_)
  refine Tri.frameX (written9 J2 2 tail (by omega) ht16 aZ nZ capZ z hz hz3 (hZ.mono (Imm.le_trans hJ1 hJ2))) [] rfl rfl ?_
  rintro v J3 A' hJ3 ⟨bF, chF, aS, capS, ms, rfl, hF, hms, hle, rfl⟩
  have w2 := wrtP_wi (ep := 2) (tail := tail) (by omega) ht16 z
  have hwr := wrtP_wr (ep := 2) (tail := tail) (by omega) ht16 z
  generalize wrtP ((2 : Nat) : Int) (tail : Int) z = x2 at *
  obtain ⟨j2, f, all2⟩ := x2
  dsimp only at hF w2 hwr hms
  have hfewA := w2.fewA
  have hmsl : ms.length = all2.length := by rw [← hms.pr, List.length_map]
  have hu := w2.used
  have hrl := ringB_length 2 all2 1
  have hge := usedP_ge all2
  have hN4 : ∀ b ∈ ringB 2 1 all2, b.length = 4096 := fun b hb => (ringB_bears all2 1 (fun i hi => by have := w2.right i hi; rwa [show i + 1 = 1 + i by omega] at this) b hb).1
  repeat (first
    | refine LoadD.own 0 rfl _ rfl rfl ?_
    | refine LoadD.own 1 rfl _ rfl rfl ?_
    | refine LoadD.own 2 rfl _ rfl rfl ?_
    | refine LoadP.at 0 rfl _ rfl rfl ?_
    | refine LoadP.at 1 rfl _ rfl rfl ?_
    | refine LoadP.at 2 rfl _ rfl rfl ?_
    | refine StoreD.st 0 rfl rfl rfl ?_
    | refine StoreD.st 1 rfl rfl rfl ?_
    | refine StoreD.st 2 rfl rfl rfl ?_
    | refine CmpD.yes rfl ?_
    | refine CmpD.yes (by decide) ?_
    | refine CmpD.no (by decide) ?_
    | refine Chk.mk ⟨rfl, trivial⟩ ?_
    | refine Chk.mk ⟨rfl, rfl, trivial⟩ ?_
    | refine Chk.mk ⟨rfl, rfl, rfl, trivial⟩ ?_
    | refine Chk.mk ⟨rfl, rfl, rfl, rfl, trivial⟩ ?_
    | refine Chk.mk ⟨rfl, rfl, rfl, rfl, rfl, trivial⟩ ?_
    | refine Chk.mk ⟨rfl, rfl, rfl, rfl, rfl, rfl, trivial⟩ ?_)
  refine Tri.frame1 1 rfl (pend_fix hF (w2.few.mono (by omega))) ?_
  rintro v J4 A' hJ4 ⟨aP, capP, rfl, hP, rfl⟩
  refine ⟨_, rfl, ?_⟩
  rw [hwr] at hP ⊢
  rw [wL_length, hrl] at hP ⊢
  obtain ⟨B, hB⟩ : ∃ B, B = ringB 2 1 all2 := ⟨_, rfl⟩
  rw [← hB] at hP hrl hN4
  refine CodeF.loopD [0, 3, 4, 5, 6, 15, 18, 19, 20, 21] (fun vs J' S' => ∃ (i : Nat) (d : DSt) (chD chF : List Blk), i ≤ usedP all2 ∧ Dk J' bD d chD ∧ d.Calm ∧ d.now.length = 64 ∧ d.Few (16 + i) ∧ d.safe = d1.now ∧ d.writes = wL tail 0 (B.take i) ∧ (∀ o, o < 16 → rbP d 2 16 (tail + o) = if o < i then B.getD o [] else rbP d1 2 16 (tail + o)) ∧ Dk J' bF f chF ∧ J4.le J' ∧
      vs = [.int .i64 tail, .slice aK nK capK, .int .i64 tn, .int .u8 sec, .bool fl, .pointer (some ⟨bD, 0, none⟩), .pointer (some ⟨bF, 0, none⟩), .slice aS ms.length capS, .slice aP (usedP all2) capP, .int .i64 i] ∧ S' = [chD, chF])
    (fun vs _ _ => match vs with | [_, _, _, _, _, _, _, _, _, .int _ i] => ((usedP all2 : Int) - i).toNat | _ => 0) ?_ ?_
  · refine ⟨_, Drop.refl _, 0, _, chD2, chF, by omega, hD2.mono (Imm.le_trans hJ3 hJ4), w1.calm, w1.len, ?_, rfl, rfl, fun o _ => rfl, hF.mono hJ4, Imm.le_refl _, rfl, rfl⟩
    obtain ⟨q1, q2, q3⟩ := w1.few.mono (m := 16) w1.used
    exact ⟨by show ([] : List PImg).length ≤ _; simp, q2, q3⟩
  rintro vs gE J' S' hJ' ⟨i, d, chD3, chF3, hi, hD3, hcalm, hlen, hfew, hsafe, hwrt, hring, hF3, hle4, rfl, rfl⟩
  refine CmpD.split (fun c1 => ?_) (fun c1 => ?_)
  · have hlt : i < B.length := by omega
    have hcell : (ints ((wL tail 0 B).map Prod.fst))[i]? = some (.int .i64 ((2 + (tail + i) % 16 : Nat) : Int)) := by
      refine ints_get ?_
      rw [List.getElem?_map, wL_get tail B 0 i hlt, Nat.zero_add]; rfl
    rcases hP.mem with q0 | ⟨bP, oP, cP, TP, fP, rfl, hIP, hcP⟩
    · omega
    have hrd := read_up hF.wf w2.calm.1 (k := 2 + (tail + i) % 16) (by rw [w2.len]; omega)
    have hbi : f.now.getD (2 + (tail + i) % 16) [] = B[i] := by
      have := w2.ring i (by omega)
      rw [← hB, List.getD_eq_getElem?_getD, List.getElem?_eq_getElem hlt] at this
      exact this
    have hb4 := hN4 _ (List.getElem_mem hlt)
    have hdr := dk_Read hF3 ((2 + (tail + i) % 16 : Nat) : Int)
    rw [hrd, hbi] at hdr
    dsimp only at hdr
    rw [hb4] at hdr
    have htk : B.take (i + 1) = B.take i ++ [B[i]] := by rw [List.take_add_one, List.getElem?_eq_getElem hlt]; rfl
    have htl2 : (B.take i).length = i := by rw [List.length_take]; omega
    refine Chk.mk (by omega) ?_
    refine LoadD.imm (hle4 _ _ hIP) [.int .i64 ((2 + (tail + i) % 16 : Nat) : Int)] (take_get hcP hcell) rfl ?_
    refine Tri.frame hdr [1] rfl rfl ?_
    rintro v J5 A' hJ5 ⟨aB, capB, chB, rfl, hBB, rfl, rfl⟩
    refine ⟨by simp, ?_⟩
    repeat (first
      | refine LoadD.own 0 rfl _ rfl rfl ?_
      | refine LoadD.own 1 rfl _ rfl rfl ?_
      | refine LoadD.own 2 rfl _ rfl rfl ?_
      | refine LoadP.at 0 rfl _ rfl rfl ?_
      | refine LoadP.at 1 rfl _ rfl rfl ?_
      | refine LoadP.at 2 rfl _ rfl rfl ?_
      | refine StoreD.st 0 rfl rfl rfl ?_
      | refine StoreD.st 1 rfl rfl rfl ?_
      | refine StoreD.st 2 rfl rfl rfl ?_
      | refine CmpD.yes rfl ?_
      | refine CmpD.yes (by decide) ?_
      | refine CmpD.no (by decide) ?_
      | refine Chk.mk ⟨rfl, trivial⟩ ?_
      | refine Chk.mk ⟨rfl, rfl, trivial⟩ ?_
      | refine Chk.mk ⟨rfl, rfl, rfl, trivial⟩ ?_
      | refine Chk.mk ⟨rfl, rfl, rfl, rfl, trivial⟩ ?_
      | refine Chk.mk ⟨rfl, rfl, rfl, rfl, rfl, trivial⟩ ?_
      | refine Chk.mk ⟨rfl, rfl, rfl, rfl, rfl, rfl, trivial⟩ ?_)
    refine Chk.mk (by omega) ?_
    refine LoadD.imm (hle4 _ _ hIP) [.int .i64 ((2 + (tail + i) % 16 : Nat) : Int)] (take_get hcP hcell) rfl ?_
    refine Tri.fix 2 rfl fun I6 hI6 hm => ?_
    refine Tri.frame1 0 rfl (dk_Write (hD3.mono hI6) (hfew.mono (by omega)) ((2 + (tail + i) % 16 : Nat) : Int) _ 4096 capB _ (Rds.of_own hBB hm)) ?_
    rw [DSt.write_calm hcalm (n := ((2 + (tail + i) % 16 : Nat) : Int)) (by omega) hb4]
    rintro v J7 A' hJ7 ⟨rfl, chD7, hD7, rfl⟩
    refine ⟨_, rfl, ?_⟩
    repeat (first
      | refine LoadD.own 0 rfl _ rfl rfl ?_
      | refine LoadD.own 1 rfl _ rfl rfl ?_
      | refine LoadD.own 2 rfl _ rfl rfl ?_
      | refine LoadP.at 0 rfl _ rfl rfl ?_
      | refine LoadP.at 1 rfl _ rfl rfl ?_
      | refine LoadP.at 2 rfl _ rfl rfl ?_
      | refine StoreD.st 0 rfl rfl rfl ?_
      | refine StoreD.st 1 rfl rfl rfl ?_
      | refine StoreD.st 2 rfl rfl rfl ?_
      | refine CmpD.yes rfl ?_
      | refine CmpD.yes (by decide) ?_
      | refine CmpD.no (by decide) ?_
      | refine Chk.mk ⟨rfl, trivial⟩ ?_
      | refine Chk.mk ⟨rfl, rfl, trivial⟩ ?_
      | refine Chk.mk ⟨rfl, rfl, rfl, trivial⟩ ?_
      | refine Chk.mk ⟨rfl, rfl, rfl, rfl, trivial⟩ ?_
      | refine Chk.mk ⟨rfl, rfl, rfl, rfl, rfl, trivial⟩ ?_
      | refine Chk.mk ⟨rfl, rfl, rfl, rfl, rfl, rfl, trivial⟩ ?_)
    refine ToD.i64 (by omega) (by omega) ?_
    refine ⟨_, Drop.pick [0, 1] _ rfl, ⟨i + 1, _, chD7, chF3, by omega, hD7, hcalm, by rw [DSt.put_len]; exact hlen, ?_, hsafe, ?_, ?_, hF3.mono (Imm.le_trans hI6 hJ7), Imm.le_trans hle4 (Imm.le_trans hI6 hJ7), rfl, rfl⟩, ?_⟩
    · obtain ⟨q1, q2, q3⟩ := hfew
      exact ⟨by show (d.writes ++ [_]).length ≤ _; simp; omega, by show 0 ≤ d.count + 1; omega, by show d.count + 1 ≤ _; omega⟩
    · show d.writes ++ [_] = _
      rw [htk, wL_append, htl2, hwrt, Nat.zero_add]; rfl
    · intro o ho
      have hr := hring o ho
      unfold rbP at hr ⊢
      show (d.now.set (((2 + (tail + i) % 16 : Nat) : Int)).toNat B[i]).getD _ [] = _
      rw [Int.toNat_natCast, List.getD_eq_getElem?_getD]
      by_cases hio : i = o
      · subst hio
        rw [List.getElem?_set_self (by omega), if_pos (by omega), List.getD_eq_getElem?_getD, List.getElem?_eq_getElem hlt]
      · rw [List.getElem?_set_ne (by omega), ← List.getD_eq_getElem?_getD, hr]
        by_cases h1 : o < i
        · rw [if_pos h1, if_pos (by omega)]
        · rw [if_neg h1, if_neg (by omega)]
    · show ((usedP all2 : Int) - ((i : Int) + 1)).toNat < ((usedP all2 : Int) - (i : Int)).toNat; omega
  obtain rfl : i = usedP all2 := by omega
  rw [← hrl, List.take_length] at hwrt
  have hK := hK.mono (Imm.le_trans hJ1 (Imm.le_trans hJ2 (Imm.le_trans hJ3 (Imm.le_trans hJ4 hle4))))
  have hfor : ∀ o, o < 16 → (d1.now.getD (2 + (tail + o) % 16) []).length = 4096 ∧ ∀ s, s ≤ 549755813888 → Foreign (stampB 2 s) (d1.now.getD (2 + (tail + o) % 16) []) := fun o ho => ⟨(w1.foreign ho (s := 1) (by omega)).1, fun s hs => (w1.foreign ho hs).2⟩
  have hfulls : scanL d ⟨64, 2, 1, tail⟩ = gsP 2 1 all2 := by
    refine full_scan w2 hlen (fun k hk => ?_) (fun o h1 h2 s hs => ?_)
    · rw [← hB] at hk
      rw [hring k (by omega), if_pos (by omega), List.getD_eq_getElem?_getD, List.getElem?_eq_getElem hk]
      simp only [hB]; rfl
    · rw [hring o h2, if_neg (by omega)]
      exact (hfor o h2).2 s hs
  have hle0 : J3.le J' := Imm.le_trans hJ4 hle4
  have hfewB := hfew.mono (m := 100) (by omega)
  cases fl with
  | true =>
    repeat (first
      | refine LoadD.own 0 rfl _ rfl rfl ?_
      | refine LoadD.own 1 rfl _ rfl rfl ?_
      | refine LoadD.own 2 rfl _ rfl rfl ?_
      | refine LoadP.at 0 rfl _ rfl rfl ?_
      | refine LoadP.at 1 rfl _ rfl rfl ?_
      | refine LoadP.at 2 rfl _ rfl rfl ?_
      | refine StoreD.st 0 rfl rfl rfl ?_
      | refine StoreD.st 1 rfl rfl rfl ?_
      | refine StoreD.st 2 rfl rfl rfl ?_
      | refine CmpD.yes rfl ?_
      | refine CmpD.yes (by decide) ?_
      | refine CmpD.no (by decide) ?_
      | refine Chk.mk ⟨rfl, trivial⟩ ?_
      | refine Chk.mk ⟨rfl, rfl, trivial⟩ ?_
      | refine Chk.mk ⟨rfl, rfl, rfl, trivial⟩ ?_
      | refine Chk.mk ⟨rfl, rfl, rfl, rfl, trivial⟩ ?_
      | refine Chk.mk ⟨rfl, rfl, rfl, rfl, rfl, trivial⟩ ?_
      | refine Chk.mk ⟨rfl, rfl, rfl, rfl, rfl, rfl, trivial⟩ ?_)
    have hfl2 := dk_Flush hD3
    rw [flush_calm hcalm] at hfl2
    refine Tri.frame1 0 rfl hfl2 ?_
    rintro v J5 A' hJ5 ⟨rfl, chE, hE, rfl⟩
    refine ⟨_, rfl, ?_⟩
    repeat (first
      | refine LoadD.own 0 rfl _ rfl rfl ?_
      | refine LoadD.own 1 rfl _ rfl rfl ?_
      | refine LoadD.own 2 rfl _ rfl rfl ?_
      | refine LoadP.at 0 rfl _ rfl rfl ?_
      | refine LoadP.at 1 rfl _ rfl rfl ?_
      | refine LoadP.at 2 rfl _ rfl rfl ?_
      | refine StoreD.st 0 rfl rfl rfl ?_
      | refine StoreD.st 1 rfl rfl rfl ?_
      | refine StoreD.st 2 rfl rfl rfl ?_
      | refine CmpD.yes rfl ?_
      | refine CmpD.yes (by decide) ?_
      | refine CmpD.no (by decide) ?_
      | refine Chk.mk ⟨rfl, trivial⟩ ?_
      | refine Chk.mk ⟨rfl, rfl, trivial⟩ ?_
      | refine Chk.mk ⟨rfl, rfl, rfl, trivial⟩ ?_
      | refine Chk.mk ⟨rfl, rfl, rfl, rfl, trivial⟩ ?_
      | refine Chk.mk ⟨rfl, rfl, rfl, rfl, rfl, trivial⟩ ?_
      | refine Chk.mk ⟨rfl, rfl, rfl, rfl, rfl, rfl, trivial⟩ ?_)
    obtain ⟨n, hnd⟩ : ∃ n, n = all2.length := ⟨_, rfl⟩
    have hEf : (⟨d.now, d.now, [], d.count, d.down, d.arm, d.fault⟩ : DSt).Few 1000000 := ⟨by show ([] : List PImg).length ≤ _; simp, hfewB.2.1, by have := hfewB.2.2; show d.count ≤ _; omega⟩
    have hGl : ((⟨d.now, d.now, [], d.count, d.down, d.arm, d.fault⟩ : DSt).crash keep tn sec).now.length = 64 := hlen
    have hGs : scanL ((⟨d.now, d.now, [], d.count, d.down, d.arm, d.fault⟩ : DSt).crash keep tn sec) ⟨64, 2, 1, tail⟩ = gsP 2 1 (all2.take n) := by
      rw [hnd, List.take_length, ← hfulls]
      exact scanL_now rfl _
    have hK := hK.mono hJ5
    have hn : n ≤ all2.length := by omega
    have hJ56 := hJ5
    refine Tri.frame1 0 rfl (dk_Crash hE hEf aK nK capK keep hK tn sec hsec) ?_
    rintro v J6 A' hJ6 ⟨rfl, chG, hG, rfl⟩
    refine ⟨_, rfl, ?_⟩
    repeat (first
      | refine LoadD.own 0 rfl _ rfl rfl ?_
      | refine LoadD.own 1 rfl _ rfl rfl ?_
      | refine LoadD.own 2 rfl _ rfl rfl ?_
      | refine LoadP.at 0 rfl _ rfl rfl ?_
      | refine LoadP.at 1 rfl _ rfl rfl ?_
      | refine LoadP.at 2 rfl _ rfl rfl ?_
      | refine StoreD.st 0 rfl rfl rfl ?_
      | refine StoreD.st 1 rfl rfl rfl ?_
      | refine StoreD.st 2 rfl rfl rfl ?_
      | refine CmpD.yes rfl ?_
      | refine CmpD.yes (by decide) ?_
      | refine CmpD.no (by decide) ?_
      | refine Chk.mk ⟨rfl, trivial⟩ ?_
      | refine Chk.mk ⟨rfl, rfl, trivial⟩ ?_
      | refine Chk.mk ⟨rfl, rfl, rfl, trivial⟩ ?_
      | refine Chk.mk ⟨rfl, rfl, rfl, rfl, trivial⟩ ?_
      | refine Chk.mk ⟨rfl, rfl, rfl, rfl, rfl, trivial⟩ ?_
      | refine Chk.mk ⟨rfl, rfl, rfl, rfl, rfl, rfl, trivial⟩ ?_)
    refine Tri.free (layout9 J6) ?_
    rintro v _ _ _ ⟨rfl, rfl⟩
    refine Tri.frame1 0 rfl (scan9 hG rfl hGl ⟨64, 2, 1, tail⟩ (scanOk64 rfl (by decide) (by decide) (by omega)) hGs (pl := placeP 16 tail (gsP 2 1 (all2.take n))) rfl) ?_
    rintro v J7 A' hJ7 ⟨rfl, aX, capX, gX, rfl, hX, hXg⟩
    refine ⟨_, rfl, ?_⟩
    have hXl : gX.length = n := by rw [hXg.len, gsP_length, List.length_take]; omega
    repeat (first
      | refine LoadD.own 0 rfl _ rfl rfl ?_
      | refine LoadD.own 1 rfl _ rfl rfl ?_
      | refine LoadD.own 2 rfl _ rfl rfl ?_
      | refine LoadP.at 0 rfl _ rfl rfl ?_
      | refine LoadP.at 1 rfl _ rfl rfl ?_
      | refine LoadP.at 2 rfl _ rfl rfl ?_
      | refine StoreD.st 0 rfl rfl rfl ?_
      | refine StoreD.st 1 rfl rfl rfl ?_
      | refine StoreD.st 2 rfl rfl rfl ?_
      | refine CmpD.yes rfl ?_
      | refine CmpD.yes (by decide) ?_
      | refine CmpD.no (by decide) ?_
      | refine Chk.mk ⟨rfl, trivial⟩ ?_
      | refine Chk.mk ⟨rfl, rfl, trivial⟩ ?_
      | refine Chk.mk ⟨rfl, rfl, rfl, trivial⟩ ?_
      | refine Chk.mk ⟨rfl, rfl, rfl, rfl, trivial⟩ ?_
      | refine Chk.mk ⟨rfl, rfl, rfl, rfl, rfl, trivial⟩ ?_
      | refine Chk.mk ⟨rfl, rfl, rfl, rfl, rfl, rfl, trivial⟩ ?_)
    rw [hXl]
    refine CmpD.no (by omega) ?_
    repeat (first
      | refine LoadD.own 0 rfl _ rfl rfl ?_
      | refine LoadD.own 1 rfl _ rfl rfl ?_
      | refine LoadD.own 2 rfl _ rfl rfl ?_
      | refine LoadP.at 0 rfl _ rfl rfl ?_
      | refine LoadP.at 1 rfl _ rfl rfl ?_
      | refine LoadP.at 2 rfl _ rfl rfl ?_
      | refine StoreD.st 0 rfl rfl rfl ?_
      | refine StoreD.st 1 rfl rfl rfl ?_
      | refine StoreD.st 2 rfl rfl rfl ?_
      | refine CmpD.yes rfl ?_
      | refine CmpD.yes (by decide) ?_
      | refine CmpD.no (by decide) ?_
      | refine Chk.mk ⟨rfl, trivial⟩ ?_
      | refine Chk.mk ⟨rfl, rfl, trivial⟩ ?_
      | refine Chk.mk ⟨rfl, rfl, rfl, trivial⟩ ?_
      | refine Chk.mk ⟨rfl, rfl, rfl, rfl, trivial⟩ ?_
      | refine Chk.mk ⟨rfl, rfl, rfl, rfl, rfl, trivial⟩ ?_
      | refine Chk.mk ⟨rfl, rfl, rfl, rfl, rfl, rfl, trivial⟩ ?_)
    refine CmpD.yes (by omega) ?_
    repeat (first
      | refine LoadD.own 0 rfl _ rfl rfl ?_
      | refine LoadD.own 1 rfl _ rfl rfl ?_
      | refine LoadD.own 2 rfl _ rfl rfl ?_
      | refine LoadP.at 0 rfl _ rfl rfl ?_
      | refine LoadP.at 1 rfl _ rfl rfl ?_
      | refine LoadP.at 2 rfl _ rfl rfl ?_
      | refine StoreD.st 0 rfl rfl rfl ?_
      | refine StoreD.st 1 rfl rfl rfl ?_
      | refine StoreD.st 2 rfl rfl rfl ?_
      | refine CmpD.yes rfl ?_
      | refine CmpD.yes (by decide) ?_
      | refine CmpD.no (by decide) ?_
      | refine Chk.mk ⟨rfl, trivial⟩ ?_
      | refine Chk.mk ⟨rfl, rfl, trivial⟩ ?_
      | refine Chk.mk ⟨rfl, rfl, rfl, trivial⟩ ?_
      | refine Chk.mk ⟨rfl, rfl, rfl, rfl, trivial⟩ ?_
      | refine Chk.mk ⟨rfl, rfl, rfl, rfl, rfl, trivial⟩ ?_
      | refine Chk.mk ⟨rfl, rfl, rfl, rfl, rfl, rfl, trivial⟩ ?_)
    refine sliceD tabOk rfl rfl rfl rfl 0 n capS rfl ⟨_, rfl⟩ rfl (.inl rfl) (by omega) ?_
    have hmsn := ims_take (hms.mono (Imm.le_trans hle0 (Imm.le_trans hJ56 (Imm.le_trans hJ6 hJ7)))) n (by omega) capS hle
    have hml2 : (ms.take n).length = n := by rw [List.length_take]; omega
    have hsm := same9 J7 aX capX gX _ hX hXg (slAddr aS 0 capS 1) (capS - 0) (ms.take n) (all2.take n) hmsn 2 rfl ⟨by rw [List.length_take]; omega, fun g hg => hfewA.2 g (List.mem_of_mem_take hg)⟩
    rw [hml2, hXl] at hsm
    refine Tri.free hsm ?_
    rintro v _ _ _ rfl
    repeat (first
      | refine LoadD.own 0 rfl _ rfl rfl ?_
      | refine LoadD.own 1 rfl _ rfl rfl ?_
      | refine LoadD.own 2 rfl _ rfl rfl ?_
      | refine LoadP.at 0 rfl _ rfl rfl ?_
      | refine LoadP.at 1 rfl _ rfl rfl ?_
      | refine LoadP.at 2 rfl _ rfl rfl ?_
      | refine StoreD.st 0 rfl rfl rfl ?_
      | refine StoreD.st 1 rfl rfl rfl ?_
      | refine StoreD.st 2 rfl rfl rfl ?_
      | refine CmpD.yes rfl ?_
      | refine CmpD.yes (by decide) ?_
      | refine CmpD.no (by decide) ?_
      | refine Chk.mk ⟨rfl, trivial⟩ ?_
      | refine Chk.mk ⟨rfl, rfl, trivial⟩ ?_
      | refine Chk.mk ⟨rfl, rfl, rfl, trivial⟩ ?_
      | refine Chk.mk ⟨rfl, rfl, rfl, rfl, trivial⟩ ?_
      | refine Chk.mk ⟨rfl, rfl, rfl, rfl, rfl, trivial⟩ ?_
      | refine Chk.mk ⟨rfl, rfl, rfl, rfl, rfl, rfl, trivial⟩ ?_)
    refine Tri.mono (awake09 _ _) ?_
    rintro v J8 S8 hJ8 rfl
    repeat (first
      | refine LoadD.own 0 rfl _ rfl rfl ?_
      | refine LoadP.at 0 rfl _ rfl rfl ?_
      | refine StoreD.st 0 rfl rfl rfl ?_
      | refine CmpD.yes rfl ?_
      | refine CmpD.yes (by decide) ?_
      | refine CmpD.no (by decide) ?_
      | refine Chk.mk ⟨rfl, trivial⟩ ?_
      | refine Chk.mk ⟨rfl, rfl, trivial⟩ ?_
      | refine Chk.mk ⟨rfl, rfl, rfl, trivial⟩ ?_
      | refine Chk.mk ⟨rfl, rfl, rfl, rfl, trivial⟩ ?_
      | refine Chk.mk ⟨rfl, rfl, rfl, rfl, rfl, trivial⟩ ?_
      | refine Chk.mk ⟨rfl, rfl, rfl, rfl, rfl, rfl, trivial⟩ ?_)
    exact Done.mk rfl
  | false =>
    repeat (first
      | refine LoadD.own 0 rfl _ rfl rfl ?_
      | refine LoadD.own 1 rfl _ rfl rfl ?_
      | refine LoadD.own 2 rfl _ rfl rfl ?_
      | refine LoadP.at 0 rfl _ rfl rfl ?_
      | refine LoadP.at 1 rfl _ rfl rfl ?_
      | refine LoadP.at 2 rfl _ rfl rfl ?_
      | refine StoreD.st 0 rfl rfl rfl ?_
      | refine StoreD.st 1 rfl rfl rfl ?_
      | refine StoreD.st 2 rfl rfl rfl ?_
      | refine CmpD.yes rfl ?_
      | refine CmpD.yes (by decide) ?_
      | refine CmpD.no (by decide) ?_
      | refine Chk.mk ⟨rfl, trivial⟩ ?_
      | refine Chk.mk ⟨rfl, rfl, trivial⟩ ?_
      | refine Chk.mk ⟨rfl, rfl, rfl, trivial⟩ ?_
      | refine Chk.mk ⟨rfl, rfl, rfl, rfl, trivial⟩ ?_
      | refine Chk.mk ⟨rfl, rfl, rfl, rfl, rfl, trivial⟩ ?_
      | refine Chk.mk ⟨rfl, rfl, rfl, rfl, rfl, rfl, trivial⟩ ?_)
    obtain ⟨n, hn, hGs⟩ := kept_scan w2 (z := fun _ => noughts) w1.len hfor (d := d.crash keep tn sec) keep tn sec (by show crashK keep tn sec 0 d.writes d.safe = _; rw [hwrt, hsafe, hB])
    have hJ56 := Imm.le_refl J'
    have hE := hD3
    have hEf := hfewB.mono (m := 1000000) (by omega)
    have hGl : (d.crash keep tn sec).now.length = 64 := by
      show (crashK keep tn sec 0 d.writes d.safe).length = 64
      rw [crashK_length, hsafe]; exact w1.len
    refine Tri.frame1 0 rfl (dk_Crash hE hEf aK nK capK keep hK tn sec hsec) ?_
    rintro v J6 A' hJ6 ⟨rfl, chG, hG, rfl⟩
    refine ⟨_, rfl, ?_⟩
    repeat (first
      | refine LoadD.own 0 rfl _ rfl rfl ?_
      | refine LoadD.own 1 rfl _ rfl rfl ?_
      | refine LoadD.own 2 rfl _ rfl rfl ?_
      | refine LoadP.at 0 rfl _ rfl rfl ?_
      | refine LoadP.at 1 rfl _ rfl rfl ?_
      | refine LoadP.at 2 rfl _ rfl rfl ?_
      | refine StoreD.st 0 rfl rfl rfl ?_
      | refine StoreD.st 1 rfl rfl rfl ?_
      | refine StoreD.st 2 rfl rfl rfl ?_
      | refine CmpD.yes rfl ?_
      | refine CmpD.yes (by decide) ?_
      | refine CmpD.no (by decide) ?_
      | refine Chk.mk ⟨rfl, trivial⟩ ?_
      | refine Chk.mk ⟨rfl, rfl, trivial⟩ ?_
      | refine Chk.mk ⟨rfl, rfl, rfl, trivial⟩ ?_
      | refine Chk.mk ⟨rfl, rfl, rfl, rfl, trivial⟩ ?_
      | refine Chk.mk ⟨rfl, rfl, rfl, rfl, rfl, trivial⟩ ?_
      | refine Chk.mk ⟨rfl, rfl, rfl, rfl, rfl, rfl, trivial⟩ ?_)
    refine Tri.free (layout9 J6) ?_
    rintro v _ _ _ ⟨rfl, rfl⟩
    refine Tri.frame1 0 rfl (scan9 hG rfl hGl ⟨64, 2, 1, tail⟩ (scanOk64 rfl (by decide) (by decide) (by omega)) hGs (pl := placeP 16 tail (gsP 2 1 (all2.take n))) rfl) ?_
    rintro v J7 A' hJ7 ⟨rfl, aX, capX, gX, rfl, hX, hXg⟩
    refine ⟨_, rfl, ?_⟩
    have hXl : gX.length = n := by rw [hXg.len, gsP_length, List.length_take]; omega
    repeat (first
      | refine LoadD.own 0 rfl _ rfl rfl ?_
      | refine LoadD.own 1 rfl _ rfl rfl ?_
      | refine LoadD.own 2 rfl _ rfl rfl ?_
      | refine LoadP.at 0 rfl _ rfl rfl ?_
      | refine LoadP.at 1 rfl _ rfl rfl ?_
      | refine LoadP.at 2 rfl _ rfl rfl ?_
      | refine StoreD.st 0 rfl rfl rfl ?_
      | refine StoreD.st 1 rfl rfl rfl ?_
      | refine StoreD.st 2 rfl rfl rfl ?_
      | refine CmpD.yes rfl ?_
      | refine CmpD.yes (by decide) ?_
      | refine CmpD.no (by decide) ?_
      | refine Chk.mk ⟨rfl, trivial⟩ ?_
      | refine Chk.mk ⟨rfl, rfl, trivial⟩ ?_
      | refine Chk.mk ⟨rfl, rfl, rfl, trivial⟩ ?_
      | refine Chk.mk ⟨rfl, rfl, rfl, rfl, trivial⟩ ?_
      | refine Chk.mk ⟨rfl, rfl, rfl, rfl, rfl, trivial⟩ ?_
      | refine Chk.mk ⟨rfl, rfl, rfl, rfl, rfl, rfl, trivial⟩ ?_)
    rw [hXl]
    refine CmpD.no (by omega) ?_
    repeat (first
      | refine LoadD.own 0 rfl _ rfl rfl ?_
      | refine LoadD.own 1 rfl _ rfl rfl ?_
      | refine LoadD.own 2 rfl _ rfl rfl ?_
      | refine LoadP.at 0 rfl _ rfl rfl ?_
      | refine LoadP.at 1 rfl _ rfl rfl ?_
      | refine LoadP.at 2 rfl _ rfl rfl ?_
      | refine StoreD.st 0 rfl rfl rfl ?_
      | refine StoreD.st 1 rfl rfl rfl ?_
      | refine StoreD.st 2 rfl rfl rfl ?_
      | refine CmpD.yes rfl ?_
      | refine CmpD.yes (by decide) ?_
      | refine CmpD.no (by decide) ?_
      | refine Chk.mk ⟨rfl, trivial⟩ ?_
      | refine Chk.mk ⟨rfl, rfl, trivial⟩ ?_
      | refine Chk.mk ⟨rfl, rfl, rfl, trivial⟩ ?_
      | refine Chk.mk ⟨rfl, rfl, rfl, rfl, trivial⟩ ?_
      | refine Chk.mk ⟨rfl, rfl, rfl, rfl, rfl, trivial⟩ ?_
      | refine Chk.mk ⟨rfl, rfl, rfl, rfl, rfl, rfl, trivial⟩ ?_)
    refine sliceD tabOk rfl rfl rfl rfl 0 n capS rfl ⟨_, rfl⟩ rfl (.inl rfl) (by omega) ?_
    have hmsn := ims_take (hms.mono (Imm.le_trans hle0 (Imm.le_trans hJ56 (Imm.le_trans hJ6 hJ7)))) n (by omega) capS hle
    have hml2 : (ms.take n).length = n := by rw [List.length_take]; omega
    have hsm := same9 J7 aX capX gX _ hX hXg (slAddr aS 0 capS 1) (capS - 0) (ms.take n) (all2.take n) hmsn 2 rfl ⟨by rw [List.length_take]; omega, fun g hg => hfewA.2 g (List.mem_of_mem_take hg)⟩
    rw [hml2, hXl] at hsm
    refine Tri.free hsm ?_
    rintro v _ _ _ rfl
    repeat (first
      | refine LoadD.own 0 rfl _ rfl rfl ?_
      | refine LoadD.own 1 rfl _ rfl rfl ?_
      | refine LoadD.own 2 rfl _ rfl rfl ?_
      | refine LoadP.at 0 rfl _ rfl rfl ?_
      | refine LoadP.at 1 rfl _ rfl rfl ?_
      | refine LoadP.at 2 rfl _ rfl rfl ?_
      | refine StoreD.st 0 rfl rfl rfl ?_
      | refine StoreD.st 1 rfl rfl rfl ?_
      | refine StoreD.st 2 rfl rfl rfl ?_
      | refine CmpD.yes rfl ?_
      | refine CmpD.yes (by decide) ?_
      | refine CmpD.no (by decide) ?_
      | refine Chk.mk ⟨rfl, trivial⟩ ?_
      | refine Chk.mk ⟨rfl, rfl, trivial⟩ ?_
      | refine Chk.mk ⟨rfl, rfl, rfl, trivial⟩ ?_
      | refine Chk.mk ⟨rfl, rfl, rfl, rfl, trivial⟩ ?_
      | refine Chk.mk ⟨rfl, rfl, rfl, rfl, rfl, trivial⟩ ?_
      | refine Chk.mk ⟨rfl, rfl, rfl, rfl, rfl, rfl, trivial⟩ ?_)
    refine Tri.mono (awake09 _ _) ?_
    rintro v J8 S8 hJ8 rfl
    repeat (first
      | refine LoadD.own 0 rfl _ rfl rfl ?_
      | refine LoadP.at 0 rfl _ rfl rfl ?_
      | refine StoreD.st 0 rfl rfl rfl ?_
      | refine CmpD.yes rfl ?_
      | refine CmpD.yes (by decide) ?_
      | refine CmpD.no (by decide) ?_
      | refine Chk.mk ⟨rfl, trivial⟩ ?_
      | refine Chk.mk ⟨rfl, rfl, trivial⟩ ?_
      | refine Chk.mk ⟨rfl, rfl, rfl, trivial⟩ ?_
      | refine Chk.mk ⟨rfl, rfl, rfl, rfl, trivial⟩ ?_
      | refine Chk.mk ⟨rfl, rfl, rfl, rfl, rfl, trivial⟩ ?_
      | refine Chk.mk ⟨rfl, rfl, rfl, rfl, rfl, rfl, trivial⟩ ?_)
    exact Done.mk rfl
end Go.Proofs.Ytbpdbgcndfcilaa
namespace Go.Proofs.Ytbpdbgcndfcilaa
open Go.RowKit Go.Sl
set_option maxRecDepth 20000

theorem open_bools {H : Type} {enc : TypeId × Value → H} {W : World} {held : Bool} {fuel : Nat} {c0 : Value} {x : DataW H × List MemPlace} (h : DataW.trod enc Try.prog W 0 (fun _ => true) held fuel 100 [c0] = some x) :
    ∃ (a : Option Addr) (len cap : Nat) (l : List Bool), c0 = .slice a len cap ∧ Rds (base W) a len (bools l) := by
  obtain ⟨a, len, cap, vs, D, rfl, _, _, hel, hR, _⟩ := open_elems Try.underlying100 (k := 1) (by kernel_rfl) (by omega) h
  obtain ⟨z, hz⟩ := Go.Deep.choose_lt (α := Bool) (n := len) (p := fun i z => vs i = [.bool z]) (fun i hi => by
    obtain ⟨_, n, Pl, ht⟩ := hel i hi
    obtain ⟨b, h1, _⟩ := DataW.trod_bool Try.underlying4 ht
    exact ⟨b, h1⟩)
  refine ⟨a, len, cap, (List.range len).map z, rfl, ?_⟩
  rw [Nat.mul_one] at hR
  have e : (List.range len).flatMap vs = bools ((List.range len).map z) := by
    rw [Go.Deep.flatMap_congr_range (fun i hi => hz i hi)]
    unfold bools
    rw [List.map_map]
    induction List.range len with
    | nil => rfl
    | cons y l ih => simp [ih]
  rw [← e]; exact hR
theorem u8_of_wf {n : Int} (h : (Lit.int .u8 n).wf = true) : ∃ m : Nat, n = m ∧ m < 256 := by
  simp [Lit.wf, IntKind.min, IntKind.max, IntKind.signed, IntKind.bits] at h
  exact ⟨n.toNat, by omega, by omega⟩
end Go.Proofs.Ytbpdbgcndfcilaa
