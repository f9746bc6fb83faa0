/- Texts of this claim laid together: ScanA, VolP, Vol, Vol2, Awake08, Awk08, LowPick, Img9, JNum, Wi, ScanP, WhP, WhL, Mount, Ckpt, Rf10c, Rf4c, Rf4d, Rf4e, Rf4f, Rf4g, Rf4h, Rf10d, Ref03b, Ref03c, Rf10a, Image, JournalNumbers, ReplayNumbers, ReplayTells, R6a, R6b, R6g. -/
import Derived.Test.YtegdcjnjnoeinaaGreatBVolumeFormats4
import Derived.Test.YtegdcjnjnoeinaaGreatBVolumeFormats3
import Derived.Test.YtegdcjnjnoeinaaGreatBVolumeFormats2
import Derived.Test.YtegdcjnjnoeinaaGreatBVolumeFormats1
namespace Go.Proofs.YtegdcjnjnoeinaaGreat
open Go.RowKit Go.Sl
set_option maxRecDepth 20000

/-- the arguments are as they must be -/
def ScanOk (n : Nat) (x : Lay) (s : Sup) : Prop := 64 ≤ n ∧ x = layOf n ∧ s.blocks = n ∧ 0 ≤ s.tail ∧ s.tail < layL n ∧ 1 ≤ s.epoch ∧ s.epoch ≤ 8388608 ∧ 1 ≤ s.seq ∧ s.seq ≤ 549755813888
noncomputable def scanL (d : DSt) (s : Sup) : List G3 := scanK (rbP d 2 (layL (d.now.length : Int)).toNat) s.epoch ((layL (d.now.length : Int)).toNat + 1) s.tail.toNat s.seq (layL (d.now.length : Int)).toNat
def placeP (lb tail : Nat) (l : List G3) : Nat := (tail + (l.map fun g => g.2.2.length + 1).sum) % lb
structure GrpsOk (J : Imm) (gl : List Grp) (l : List G3) : Prop where
  each : ∀ g ∈ gl, ImgsOk J g.a g.gs
  g3 : gl.map Grp.g3 = l.map up3
theorem GrpsOk.mono {I J : Imm} {gl : List Grp} {l : List G3} (h : GrpsOk I gl l) (hJ : I.le J) : GrpsOk J gl l := ⟨fun g hg => (h.each g hg).mono hJ, h.g3⟩
theorem GrpsOk.len {J : Imm} {gl : List Grp} {l : List G3} (h : GrpsOk J gl l) : gl.length = l.length := by have := congrArg List.length h.g3; simpa using this
theorem grpCells_snoc (l : List Grp) (g : Grp) : grpCells (l ++ [g]) = grpCells l ++ [.int .i64 g.e, .int .i64 g.s, .slice g.a g.gs.length g.cap] := by simp [grpCells]
theorem scan_bound {rb : Nat → Dat} {ep : Int} : ∀ (f at_ : Nat) (seq : Int) (room : Nat), (scanK rb ep f at_ seq room).length ≤ room ∧ ((scanK rb ep f at_ seq room).map fun g => g.2.2.length + 1).sum ≤ room
  | 0, _, _, _ => by simp [scanK]
  | f + 1, at_, seq, room => by
    rw [scanK]
    cases hg : grpP rb at_ room with
    | none => simp
    | some p =>
      obtain ⟨e, s, l⟩ := p
      dsimp only
      split
      · have h1 := grpP_room hg
        obtain ⟨h2, h3⟩ := scan_bound f (at_ + (l.length + 1)) (seq + 1) (room - (l.length + 1)) (rb := rb) (ep := ep)
        simp only [List.length_cons, List.map_cons, List.sum_cons]
        omega
      · simp
theorem ring_groups (bR : Nat) (s : Sup) (I : Imm) : Tri Tryz.prog 169 #[.pointer (some ⟨bR, 0, none⟩), s.v] I [] fun v J S' => ∃ bS bP, v = .func (.func 198) #[] #[.pointer (some ⟨bS, 0, none⟩), .pointer (some ⟨bP, 0, none⟩)] ∧ I = J ∧ S' = [[(bP, row [.pointer (some ⟨bR, 0, none⟩)] 224)], sBoxS bS s] := by
  refine Tri.of (args := [.pointer (some ⟨bR, 0, none⟩), s.v]) tabOk Tryz.func169 rfl (by kernel_rfl) (by kernel_rfl) ?_
  conv => whnf
  intro bP
  conv => whnf
  intro bS
  exact Done.mk ⟨bS, bP, rfl, rfl, rfl⟩
theorem placeP_snoc (lb tail : Nat) (l : List G3) (g : G3) : placeP lb tail (l ++ [g]) = (tail + (l.map fun g => g.2.2.length + 1).sum + (g.2.2.length + 1)) % lb := by
  unfold placeP
  rw [List.map_append, List.sum_append]
  simp [Nat.add_assoc]
set_option maxHeartbeats 8000000 in
theorem scan_Groups {I : Imm} {bD : Nat} {d : DSt} {chD : List Blk} (hD : Dk I bD d chD) (x : Lay) (s : Sup) :
    Tri Tryz.prog 107 #[.pointer (some ⟨bD, 0, none⟩), x.v, s.v] I [chD] fun v J S' => S' = [chD] ∧
      ((¬ ScanOk d.now.length x s ∧ v = .tuple #[.slice none 0 0, .int .i64 0, .int .i64 2]) ∨
       (ScanOk d.now.length x s ∧ d.down = true ∧ v = .tuple #[.slice none 0 0, .int .i64 0, .int .i64 6]) ∨
       (ScanOk d.now.length x s ∧ d.down = false ∧ ∃ aO capO gl, v = .tuple #[.slice aO gl.length capO, .int .i64 (placeP (layL d.now.length).toNat s.tail.toNat (scanL d s) : Nat), .int .i64 0] ∧ Rds J aO (gl.length * 3) (grpCells gl) ∧ GrpsOk J gl (scanL d s))) := by
  have hr := hD.wf.range
  refine Tri.drop (Tri.fixed (Q := fun v J S' => ∃ chO, S' = [chD, chO] ∧
      ((¬ ScanOk d.now.length x s ∧ v = .tuple #[.slice none 0 0, .int .i64 0, .int .i64 2]) ∨
       (ScanOk d.now.length x s ∧ d.down = true ∧ v = .tuple #[.slice none 0 0, .int .i64 0, .int .i64 6]) ∨
       (ScanOk d.now.length x s ∧ d.down = false ∧ ∃ aO capO gl, v = .tuple #[.slice aO gl.length capO, .int .i64 (placeP (layL d.now.length).toNat s.tail.toNat (scanL d s) : Nat), .int .i64 0] ∧ OwnC chO 3 aO gl.length capO (grpCells gl) ∧ GrpsOk J gl (scanL d s)))) ?_
    (K := fun v J S' => S' = [chD, []] ∧
      ((¬ ScanOk d.now.length x s ∧ v = .tuple #[.slice none 0 0, .int .i64 0, .int .i64 2]) ∨
       (ScanOk d.now.length x s ∧ d.down = true ∧ v = .tuple #[.slice none 0 0, .int .i64 0, .int .i64 6]) ∨
       (ScanOk d.now.length x s ∧ d.down = false ∧ ∃ aO capO gl, v = .tuple #[.slice aO gl.length capO, .int .i64 (placeP (layL d.now.length).toNat s.tail.toNat (scanL d s) : Nat), .int .i64 0] ∧ Rds J aO (gl.length * 3) (grpCells gl) ∧ GrpsOk J gl (scanL d s)))) ?_) ?_
  rotate_left
  · rintro v J S' hJ ⟨chO, rfl, h⟩
    refine ⟨1, chO, rfl, fun J' hJ' hm => ⟨rfl, ?_⟩⟩
    rcases h with h | h | ⟨h1, h2, aO, capO, gl, rfl, hO, hg⟩
    · exact .inl h
    · exact .inr (.inl h)
    · exact .inr (.inr ⟨h1, h2, aO, capO, gl, rfl, Rds.of_ownS hO hm, hg.mono hJ'⟩)
  · rintro v J S' hJ ⟨rfl, h⟩
    exact ⟨[chD], Drop.pick [0] _ rfl, rfl, h⟩
  refine Tri.drop ?_ (fun _ _ _ _ h => h)
  obtain ⟨s1, s2, s3, s4⟩ := s
  refine Tri.of (args := [.pointer (some ⟨bD, 0, none⟩), x.v, (⟨s1, s2, s3, s4⟩ : Sup).v]) tabOk Tryz.func107 rfl (by kernel_rfl) (by kernel_rfl) ?_
  conv => whnf
  intro b4
  conv => whnf
  intro b5
  refine Tri.frame1 0 rfl (dk_Size hD) ?_
  rintro v J S' hJ ⟨rfl, rfl, rfl⟩
  refine ⟨_, rfl, ?_⟩
  refine CmpD.no (by omega) ?_
  skip
  refine Tri.frame1 0 rfl (dk_Size hD) ?_
  rintro v J S' hJ ⟨rfl, rfl, rfl⟩
  refine ⟨_, rfl, ?_⟩
  skip
  obtain ⟨n, hn⟩ : ∃ n, n = d.now.length := ⟨_, rfl⟩
  rw [← hn] at hr ⊢
  refine Tri.free (layout_Of n I) ?_
  rintro v J _ hJ ⟨rfl, rfl⟩
  have badS : ∀ (J : Imm) (S : St), Drop S [chD] → ¬ ScanOk n x ⟨s1, s2, s3, s4⟩ → ∃ S'', Drop S S'' ∧ ∃ chO, S'' = [chD, chO] ∧
      ((¬ ScanOk n x ⟨s1, s2, s3, s4⟩ ∧ Value.tuple #[.slice none 0 0, .int .i64 0, .int .i64 2] = .tuple #[.slice none 0 0, .int .i64 0, .int .i64 2]) ∨
       (ScanOk n x ⟨s1, s2, s3, s4⟩ ∧ d.down = true ∧ Value.tuple #[.slice none 0 0, .int .i64 0, .int .i64 2] = .tuple #[.slice none 0 0, .int .i64 0, .int .i64 6]) ∨
       (ScanOk n x ⟨s1, s2, s3, s4⟩ ∧ d.down = false ∧ ∃ aO capO gl, Value.tuple #[.slice none 0 0, .int .i64 0, .int .i64 2] = .tuple #[.slice aO gl.length capO, .int .i64 (placeP (layL n).toNat s4.toNat (scanL d ⟨s1, s2, s3, s4⟩) : Nat), .int .i64 0] ∧ OwnC chO 3 aO gl.length capO (grpCells gl) ∧ GrpsOk J gl (scanL d ⟨s1, s2, s3, s4⟩))) :=
    fun J S hd hno => ⟨[chD, []], hd.and, [], rfl, .inl ⟨hno, rfl⟩⟩
  by_cases hb : (n : Int) < 64 ∨ 512 < (n : Int)
  · rw [layA, if_pos hb]
    conv => whnf
    intro b9
    repeat (first | refine StoreD.st 3 rfl rfl rfl ?_)
    refine CodeF.sched [[], [0], [0, 1], [0, 1, 2], [0, 1, 2], [0, 1, 2, 3, 4], [0, 1, 2, 3, 4, 5], [0, 1, 2, 3, 4, 5, 6], [0, 1, 2, 3, 4, 5, 6, 7], [0, 1, 2, 3, 4, 5, 6, 7, 8], [0, 1, 2, 3, 4, 5, 6, 7], [0, 1, 2, 3, 4, 5, 6, 7, 10], [0, 1, 2, 3, 4, 5, 6, 7, 8, 9, 10, 11], [0, 1, 2, 3, 4, 5, 6, 7, 8, 9, 10, 11, 12], [0, 1, 2, 3, 4, 5, 6, 7, 8, 9, 10, 11, 12, 13], [0, 1, 2, 3, 4, 5, 6, 7, 8, 9, 10, 11, 12, 13, 14], [0, 1, 2, 3, 4, 5, 6, 7, 8, 9, 10, 11, 12, 13, 14, 15], [0, 1, 2, 3, 4, 5, 6, 7, 8, 9, 10, 11, 12, 13, 14, 15, 16], [0, 1, 2, 3, 4, 5, 6, 7, 8, 9, 10, 11, 12, 13, 14, 15, 16, 17], [0, 1, 2, 3, 4, 5, 6, 7, 8, 9, 10, 11, 12, 13, 14, 15, 16, 17, 18], [0, 1, 2, 3, 4, 5, 6, 7, 8, 9, 10, 11, 12, 13, 14, 15, 16, 17, 18, 19], [0, 1, 2, 3, 4, 5, 6, 7, 8, 9, 10, 11, 12, 13, 14, 15, 16, 17, 18, 19, 20], [0, 1, 2, 3, 4, 5, 6, 7, 8, 9, 10, 11, 12, 13, 14, 15, 16, 17, 18, 19], [0, 1, 2, 3, 4, 5, 6, 7, 8, 9, 10, 11, 12, 13, 14, 15, 16, 17, 18, 19, 22], [0, 1, 2, 3, 4, 5, 6, 7, 8, 9, 10, 11, 12, 13, 14, 15, 16, 17, 18, 19, 20, 21, 22, 23], [0, 1, 2, 3, 4, 5, 6, 7, 8, 9, 10, 11, 12, 13, 14, 15, 16, 17, 18, 19, 20, 21, 22, 23, 24], [0, 1, 2, 3, 4, 5, 6, 7, 8, 9, 10, 11, 12, 13, 14, 15, 16, 17, 18, 19, 20, 21, 22, 23, 24, 25], [0, 1, 2, 3, 4, 5, 6, 7, 8, 9, 10, 11, 12, 13, 14, 15, 16, 17, 18, 19, 20, 21, 22, 23, 24, 25, 26], [0, 1, 2, 3, 4, 5, 6, 7, 8, 9, 10, 11, 12, 13, 14, 15, 16, 17, 18, 19, 20, 21, 22, 23, 24, 25, 26, 27], [0, 1, 2, 3, 4, 5, 6, 7, 8, 9, 10, 11, 12, 13, 14, 15, 16, 17, 18, 19, 20, 21, 22, 23, 24, 25, 26, 27, 28], [0, 1, 2, 3, 4, 5, 6, 7, 8, 9, 10, 11, 12, 13, 14, 15, 16, 17, 18, 19, 20, 21, 22, 23, 24, 25, 26, 27, 28, 29], [0, 1, 2, 3, 4, 5, 6, 7, 8, 9, 10, 11, 12, 13, 14, 15, 16, 17, 18, 19, 20, 21, 22, 23, 24, 25, 26, 27, 28, 29, 30], [0, 1, 2, 3, 4, 5, 6, 7, 8, 9, 10, 11, 12, 13, 14, 15, 16, 17, 18, 19, 20, 21, 22, 23, 24, 25, 26, 27, 28, 29, 30, 31], [0, 1, 2, 3, 4, 5, 6, 7, 8, 9, 10, 11, 12, 13, 14, 15, 16, 17, 18, 19, 20, 21, 22, 23, 24, 25, 26, 27, 28, 29, 30, 31, 32], [0, 1, 2, 3, 4, 5, 6, 7, 8, 9, 10, 11, 12, 13, 14, 15, 16, 17, 18, 19, 20, 21, 22, 23, 24, 25, 26, 27, 28, 29, 30, 31, 32, 33], [0, 1, 2, 3, 4, 5, 6, 7, 8, 9, 10, 11, 12, 13, 14, 15, 16, 17, 18, 19, 20, 21, 22, 23, 24, 25, 26, 27, 28, 29, 30, 31, 32, 33, 34], [0, 1, 2, 3, 4, 5, 6, 7, 8, 9, 10, 11, 12, 13, 14, 15, 16, 17, 18, 19, 20, 21, 22, 23, 24, 25, 26, 27, 28, 29, 30, 31, 32, 33, 34, 35], [0, 1, 2, 3, 4, 5, 6, 7, 8, 9, 10, 11, 12, 13, 14, 15, 16, 17, 18, 19, 20, 21, 22, 23, 24, 25, 26, 27, 28, 29, 30, 31, 32, 33, 34, 35, 36], [0, 1, 2, 3, 4, 5, 6, 7, 8, 9, 10, 11, 12, 13, 14, 15, 16, 17, 18, 19, 20, 21, 22, 23, 24, 25, 26, 27, 28, 29, 30, 31, 32, 33, 34, 35, 36, 37], [0, 1, 2, 3, 4, 5, 6, 7, 8, 9, 10, 11, 12, 13, 14, 15, 16, 17, 18, 19, 20, 21, 22, 23, 24, 25, 26, 27, 28, 29, 30, 31, 32, 33, 34, 35, 36, 37, 38], [0, 1, 2, 3, 4, 5, 6, 7, 8, 9, 10, 11, 12, 13, 14, 15, 16, 17, 18, 19, 20, 21, 22, 23, 24, 25, 26, 27, 28, 29, 30, 31, 32, 33, 34, 35, 36, 37, 38, 39], [0, 1, 2, 3, 4, 5, 6, 7, 8, 9, 10, 11, 12, 13, 14, 15, 16, 17, 18, 19, 20, 21, 22, 23, 24, 25, 26, 27, 28, 29, 30, 31, 32, 33, 34, 35, 36, 37, 38, 39, 40], [0, 1, 2, 3, 4, 5, 6, 7, 8, 9, 10, 11, 12, 13, 14, 15, 16, 17, 18, 19, 20, 21, 22, 23, 24, 25, 26, 27, 28, 29, 30, 31, 32, 33, 34, 35, 36, 37, 38, 39, 40, 41], [0, 1, 2, 3, 4, 5, 6, 7, 8, 9, 10, 11, 12, 13, 14, 15, 16, 17, 18, 19, 20, 21, 22, 23, 24, 25, 26, 27, 28, 29, 30, 31, 32, 33, 34, 35, 36, 37, 38, 39, 40, 41, 42], [0, 1, 2, 3, 4, 5, 6, 7, 8, 9, 10, 11, 12, 13, 14, 15, 16, 17, 18, 19, 20, 21, 22, 23, 24, 25, 26, 27, 28, 29, 30, 31, 32, 33, 34, 35, 36, 37, 38, 39, 40, 41, 42, 43], [0, 1, 2, 3, 4, 5, 6, 7, 8, 9, 10, 11, 12, 13, 14, 15, 16, 17, 18, 19, 20, 21, 22, 23, 24, 25, 26, 27, 28, 29, 30, 31, 32, 33, 34, 35, 36, 37, 38, 39, 40, 41, 42, 43, 44]] [0, 1, 2, 3, 4, 5, 6, 7, 8, 9, 10, 11, 12, 13, 14, 15, 16, 17, 18, 19, 20, 21, 22, 23, 24, 25, 26, 27, 28, 29, 30, 31, 32, 33, 34, 35, 36, 37, 38, 39, 40, 41, 42, 43, 44, 45] (by kernel_rfl) ?_
    repeat (first | refine CmpD.no (by decide) ?_)
    exact Done.mk (badS _ _ (Drop.pick [0] _ rfl) (fun h => by have := h.1; omega))
  rw [layA, if_neg hb]
  have hL := layL_range (n := (n : Int)) (by omega)
  conv => whnf
  intro b9
  repeat (first | refine StoreD.st 3 rfl rfl rfl ?_)
  refine CodeF.sched [[], [0], [0, 1], [0, 1, 2], [0, 1, 2], [0, 1, 2, 3, 4], [0, 1, 2, 3, 4, 5], [0, 1, 2, 3, 4, 5, 6], [0, 1, 2, 3, 4, 5, 6, 7], [0, 1, 2, 3, 4, 5, 6, 7, 8], [0, 1, 2, 3, 4, 5, 6, 7], [0, 1, 2, 3, 4, 5, 6, 7, 10], [0, 1, 2, 3, 4, 5, 6, 7, 8, 9, 10, 11], [0, 1, 2, 3, 4, 5, 6, 7, 8, 9, 10, 11, 12], [0, 1, 2, 3, 4, 5, 6, 7, 8, 9, 10, 11, 12, 13], [0, 1, 2, 3, 4, 5, 6, 7, 8, 9, 10, 11, 12, 13, 14], [0, 1, 2, 3, 4, 5, 6, 7, 8, 9, 10, 11, 12, 13, 14, 15], [0, 1, 2, 3, 4, 5, 6, 7, 8, 9, 10, 11, 12, 13, 14, 15, 16], [0, 1, 2, 3, 4, 5, 6, 7, 8, 9, 10, 11, 12, 13, 14, 15, 16, 17], [0, 1, 2, 3, 4, 5, 6, 7, 8, 9, 10, 11, 12, 13, 14, 15, 16, 17, 18], [0, 1, 2, 3, 4, 5, 6, 7, 8, 9, 10, 11, 12, 13, 14, 15, 16, 17, 18, 19], [0, 1, 2, 3, 4, 5, 6, 7, 8, 9, 10, 11, 12, 13, 14, 15, 16, 17, 18, 19, 20], [0, 1, 2, 3, 4, 5, 6, 7, 8, 9, 10, 11, 12, 13, 14, 15, 16, 17, 18, 19], [0, 1, 2, 3, 4, 5, 6, 7, 8, 9, 10, 11, 12, 13, 14, 15, 16, 17, 18, 19, 22], [0, 1, 2, 3, 4, 5, 6, 7, 8, 9, 10, 11, 12, 13, 14, 15, 16, 17, 18, 19, 20, 21, 22, 23], [0, 1, 2, 3, 4, 5, 6, 7, 8, 9, 10, 11, 12, 13, 14, 15, 16, 17, 18, 19, 20, 21, 22, 23, 24], [0, 1, 2, 3, 4, 5, 6, 7, 8, 9, 10, 11, 12, 13, 14, 15, 16, 17, 18, 19, 20, 21, 22, 23, 24, 25], [0, 1, 2, 3, 4, 5, 6, 7, 8, 9, 10, 11, 12, 13, 14, 15, 16, 17, 18, 19, 20, 21, 22, 23, 24, 25, 26], [0, 1, 2, 3, 4, 5, 6, 7, 8, 9, 10, 11, 12, 13, 14, 15, 16, 17, 18, 19, 20, 21, 22, 23, 24, 25, 26, 27], [0, 1, 2, 3, 4, 5, 6, 7, 8, 9, 10, 11, 12, 13, 14, 15, 16, 17, 18, 19, 20, 21, 22, 23, 24, 25, 26, 27, 28], [0, 1, 2, 3, 4, 5, 6, 7, 8, 9, 10, 11, 12, 13, 14, 15, 16, 17, 18, 19, 20, 21, 22, 23, 24, 25, 26, 27, 28, 29], [0, 1, 2, 3, 4, 5, 6, 7, 8, 9, 10, 11, 12, 13, 14, 15, 16, 17, 18, 19, 20, 21, 22, 23, 24, 25, 26, 27, 28, 29, 30], [0, 1, 2, 3, 4, 5, 6, 7, 8, 9, 10, 11, 12, 13, 14, 15, 16, 17, 18, 19, 20, 21, 22, 23, 24, 25, 26, 27, 28, 29, 30, 31], [0, 1, 2, 3, 4, 5, 6, 7, 8, 9, 10, 11, 12, 13, 14, 15, 16, 17, 18, 19, 20, 21, 22, 23, 24, 25, 26, 27, 28, 29, 30, 31, 32], [0, 1, 2, 3, 4, 5, 6, 7, 8, 9, 10, 11, 12, 13, 14, 15, 16, 17, 18, 19, 20, 21, 22, 23, 24, 25, 26, 27, 28, 29, 30, 31, 32, 33], [0, 1, 2, 3, 4, 5, 6, 7, 8, 9, 10, 11, 12, 13, 14, 15, 16, 17, 18, 19, 20, 21, 22, 23, 24, 25, 26, 27, 28, 29, 30, 31, 32, 33, 34], [0, 1, 2, 3, 4, 5, 6, 7, 8, 9, 10, 11, 12, 13, 14, 15, 16, 17, 18, 19, 20, 21, 22, 23, 24, 25, 26, 27, 28, 29, 30, 31, 32, 33, 34, 35], [0, 1, 2, 3, 4, 5, 6, 7, 8, 9, 10, 11, 12, 13, 14, 15, 16, 17, 18, 19, 20, 21, 22, 23, 24, 25, 26, 27, 28, 29, 30, 31, 32, 33, 34, 35, 36], [0, 1, 2, 3, 4, 5, 6, 7, 8, 9, 10, 11, 12, 13, 14, 15, 16, 17, 18, 19, 20, 21, 22, 23, 24, 25, 26, 27, 28, 29, 30, 31, 32, 33, 34, 35, 36, 37], [0, 1, 2, 3, 4, 5, 6, 7, 8, 9, 10, 11, 12, 13, 14, 15, 16, 17, 18, 19, 20, 21, 22, 23, 24, 25, 26, 27, 28, 29, 30, 31, 32, 33, 34, 35, 36, 37, 38], [0, 1, 2, 3, 4, 5, 6, 7, 8, 9, 10, 11, 12, 13, 14, 15, 16, 17, 18, 19, 20, 21, 22, 23, 24, 25, 26, 27, 28, 29, 30, 31, 32, 33, 34, 35, 36, 37, 38, 39], [0, 1, 2, 3, 4, 5, 6, 7, 8, 9, 10, 11, 12, 13, 14, 15, 16, 17, 18, 19, 20, 21, 22, 23, 24, 25, 26, 27, 28, 29, 30, 31, 32, 33, 34, 35, 36, 37, 38, 39, 40], [0, 1, 2, 3, 4, 5, 6, 7, 8, 9, 10, 11, 12, 13, 14, 15, 16, 17, 18, 19, 20, 21, 22, 23, 24, 25, 26, 27, 28, 29, 30, 31, 32, 33, 34, 35, 36, 37, 38, 39, 40, 41], [0, 1, 2, 3, 4, 5, 6, 7, 8, 9, 10, 11, 12, 13, 14, 15, 16, 17, 18, 19, 20, 21, 22, 23, 24, 25, 26, 27, 28, 29, 30, 31, 32, 33, 34, 35, 36, 37, 38, 39, 40, 41, 42], [0, 1, 2, 3, 4, 5, 6, 7, 8, 9, 10, 11, 12, 13, 14, 15, 16, 17, 18, 19, 20, 21, 22, 23, 24, 25, 26, 27, 28, 29, 30, 31, 32, 33, 34, 35, 36, 37, 38, 39, 40, 41, 42, 43], [0, 1, 2, 3, 4, 5, 6, 7, 8, 9, 10, 11, 12, 13, 14, 15, 16, 17, 18, 19, 20, 21, 22, 23, 24, 25, 26, 27, 28, 29, 30, 31, 32, 33, 34, 35, 36, 37, 38, 39, 40, 41, 42, 43, 44]] [0, 1, 2, 3, 4, 5, 6, 7, 8, 9, 10, 11, 12, 13, 14, 15, 16, 17, 18, 19, 20, 21, 22, 23, 24, 25, 26, 27, 28, 29, 30, 31, 32, 33, 34, 35, 36, 37, 38, 39, 40, 41, 42, 43, 44, 45] (by kernel_rfl) ?_
  repeat (first | refine LoadP.at 1 rfl _ rfl rfl ?_ | refine LoadP.at 3 rfl _ rfl rfl ?_ | refine CmpD.yes rfl ?_)
  refine lay_cmp (layOf n) x rfl (.inr rfl) rfl rfl ?_
  refine CmpD.split (fun c1 => ?_) (fun c1 => ?_)
  rotate_left
  · skip
    refine Done.mk (badS _ _ (Drop.pick [0] _ rfl) (fun h => c1 ?_))
    rw [← h.2.1]
  have hx : x = layOf n := by
    simp only [List.cons.injEq, and_true] at c1
    obtain ⟨q1, q2, q3, q4, q5, q6, q7⟩ := c1
    obtain ⟨x1, x2, x3, x4, x5, x6, x7⟩ := x
    dsimp only at q1 q2 q3 q4 q5 q6 q7 ⊢
    rw [Lay.mk.injEq]
    exact ⟨q1.symm, q2.symm, q3.symm, q4.symm, q5.symm, q6.symm, q7.symm⟩
  have hxl : x.lb = layL n := by rw [hx]; rfl
  repeat (first | refine LoadP.at 2 rfl _ rfl rfl ?_)
  refine Tri.frame1 0 rfl (dk_Size hD) ?_
  rintro v J S' hJ ⟨rfl, rfl, rfl⟩
  refine ⟨_, rfl, ?_⟩
  rw [← hn]
  repeat (first | refine Chk.mk ⟨rfl, trivial⟩ ?_)
  refine CmpD.split (fun (c2 : s1 = (n : Int)) => ?_) (fun (c2 : ¬ (s1 = (n : Int))) => ?_)
  rotate_left
  · skip
    exact Done.mk (badS _ _ (Drop.pick [0] _ rfl) (fun h => c2 h.2.2.1))
  repeat (first | refine LoadP.at 2 rfl _ rfl rfl ?_)
  refine CmpD.split (fun (c3 : s4 < 0) => ?_) (fun (c3 : ¬ (s4 < 0)) => ?_)
  · skip
    exact Done.mk (badS _ _ (Drop.pick [0] _ rfl) (fun h => by have : 0 ≤ s4 := h.2.2.2.1; omega))
  repeat (first | refine LoadP.at 1 rfl _ rfl rfl ?_ | refine LoadP.at 2 rfl _ rfl rfl ?_)
  refine CmpD.split (fun (c4 : x.lb ≤ s4) => ?_) (fun (c4 : ¬ (x.lb ≤ s4)) => ?_)
  · skip
    exact Done.mk (badS _ _ (Drop.pick [0] _ rfl) (fun h => by have : s4 < layL n := h.2.2.2.2.1; omega))
  repeat (first | refine LoadP.at 2 rfl _ rfl rfl ?_)
  refine CmpD.split (fun (c5 : s2 < 1) => ?_) (fun (c5 : ¬ (s2 < 1)) => ?_)
  · skip
    exact Done.mk (badS _ _ (Drop.pick [0] _ rfl) (fun h => by have : 1 ≤ s2 := h.2.2.2.2.2.1; omega))
  repeat (first | refine LoadP.at 2 rfl _ rfl rfl ?_)
  refine CmpD.split (fun (c6 : (8388608 : Int) < s2) => ?_) (fun (c6 : ¬ ((8388608 : Int) < s2)) => ?_)
  · skip
    exact Done.mk (badS _ _ (Drop.pick [0] _ rfl) (fun h => by have : s2 ≤ 8388608 := h.2.2.2.2.2.2.1; omega))
  repeat (first | refine LoadP.at 2 rfl _ rfl rfl ?_)
  refine CmpD.split (fun (c7 : s3 < 1) => ?_) (fun (c7 : ¬ (s3 < 1)) => ?_)
  · skip
    exact Done.mk (badS _ _ (Drop.pick [0] _ rfl) (fun h => by have : 1 ≤ s3 := h.2.2.2.2.2.2.2.1; omega))
  repeat (first | refine LoadP.at 2 rfl _ rfl rfl ?_)
  refine CmpD.split (fun (c8 : (549755813888 : Int) < s3) => ?_) (fun (c8 : ¬ ((549755813888 : Int) < s3)) => ?_)
  · skip
    exact Done.mk (badS _ _ (Drop.pick [0] _ rfl) (fun h => by have : s3 ≤ 549755813888 := h.2.2.2.2.2.2.2.2; omega))
  have hok : ScanOk n x ⟨s1, s2, s3, s4⟩ := ⟨by omega, hx, c2, by show 0 ≤ s4; omega, by show s4 < _; omega, by show 1 ≤ s2; omega, by show s2 ≤ _; omega, by show 1 ≤ s3; omega, by show s3 ≤ _; omega⟩
  clear badS
  repeat (first | refine LoadD.own 1 rfl _ rfl rfl ?_)
  conv => whnf
  intro bR
  skip
  conv => whnf
  intro b12
  repeat (first | refine LoadD.own 2 rfl _ rfl rfl ?_)
  conv => whnf
  intro b13
  repeat (first | refine LoadD.own 2 rfl _ rfl rfl ?_ | refine StoreD.st 6 rfl rfl rfl ?_)
  refine Tri.frame (ring_groups bR ⟨s1, s2, s3, s4⟩ I) [] rfl rfl ?_
  rintro v J A' hJ ⟨bS, bP, rfl, rfl, rfl⟩
  refine ⟨by simp, ?_⟩
  obtain ⟨tail, rfl⟩ : ∃ t : Nat, s4 = t := ⟨s4.toNat, by omega⟩
  obtain ⟨lb, hlb⟩ : ∃ lb : Nat, layL n = lb := ⟨(layL n).toNat, by omega⟩
  have hxlb : x.lb = lb := by rw [hxl, hlb]
  have hxl2 : x.l = (2 : Nat) := by rw [hx]; rfl
  have hfit : 2 + lb ≤ d.now.length := by rw [← hn]; unfold layL at hlb; split at hlb <;> omega
  cases hdn : d.down with
  | true =>
    refine CodeF.rangeJ rfl [[(b12, row [.slice none 0 0] 162)], [(b13, row [.int .i64 tail] 3)]] (scIt bS bP bR bD ⟨s1, s2, s3, tail⟩ x 0 chD) (Drop.pick [5, 6, 8, 7, 4, 0] _ rfl) (scan_down hD hdn x 2 lb hxl2 hxlb (by omega) hfit ⟨s1, s2, s3, tail⟩ tail rfl)
      (fun _ _ _ _ h => h.elim) (fun _ _ S' => S' = [[(b12, row [.slice none 0 0] 162)], [(b13, row [.int .i64 tail] 3)]]) (fun _ _ _ _ _ h => h) (fun _ _ _ => False) rfl ?round ?done ?stop
    case round => rintro _ _ _ _ _ _ h; exact h.elim
    case stop => rintro _ _ _ _ _ h; exact h.elim
    case done =>
      rintro _ J S' R hJ rfl rfl
      repeat (first | refine LoadD.own 4 rfl _ rfl rfl ?_ | refine CmpD.no (by decide) ?_)
      refine CodeF.sched [[], [0], [0, 1], [0, 1, 2], [], [4], [0, 1, 2, 3, 4, 5]] [0, 1, 2, 3, 4, 5, 6] (by kernel_rfl) ?_
      repeat (first | refine LoadP.at 4 rfl _ rfl rfl ?_)
      exact Done.mk ⟨[chD, []], Drop.and (Drop.pick [5] _ rfl), [], rfl, .inr (.inl ⟨hok, rfl, rfl⟩)⟩
  | false =>
    have hsc : scanL d ⟨s1, s2, s3, tail⟩ = scanK (rbP d 2 lb) s2 (lb + 1) tail s3 lb := by
      unfold scanL
      rw [← hn, hlb]; rfl
    have hlbn : (layL n).toNat = lb := by rw [hlb]; rfl
    obtain ⟨L, hLe⟩ : ∃ L, L = scanL d ⟨s1, s2, s3, tail⟩ := ⟨_, rfl⟩
    have hbd := scan_bound (rb := rbP d 2 lb) (ep := s2) (lb + 1) tail s3 lb
    rw [← hsc, ← hLe] at hbd
    refine CodeF.rangeJ rfl [[(b12, row [.slice none 0 0] 162)], [(b13, row [.int .i64 tail] 3)], []] (scIt bS bP bR bD ⟨s1, s2, s3, tail⟩ x 0 chD) ((Drop.pick [5, 6, 8, 7, 4, 0] _ rfl).trans (Drop.flat (by simp [St.at]; exact ⟨rfl, rfl⟩))) (scan_up hD hdn x 2 lb hxl2 hxlb (by omega) hfit ⟨s1, s2, s3, tail⟩ tail rfl (by omega) ⟨by show 1 ≤ s3; omega, by show s3 ≤ _; omega⟩)
      (fun _ _ _ _ ⟨_, _, _, _, _, _, _, _, _, _, h, _⟩ => by rw [h]; rfl)
      (fun a J' S' => ∃ (aO : Option Addr) (capO : Nat) (chO : List Blk) (gl : List Grp) (acc : List G3), S' = [[(b12, row [.slice aO gl.length capO] 162)], [(b13, row [.int .i64 (placeP lb tail acc : Nat)] 3)], chO] ∧ OwnC chO 3 aO gl.length capO (grpCells gl) ∧ GrpsOk J' gl acc ∧ acc ++ scanK (rbP d 2 lb) s2 a.f a.at' a.seq a.room = L ∧ a.at' = tail + (acc.map fun g => g.2.2.length + 1).sum)
      (fun a J1 J2 S' hJ ⟨aO, capO, chO, gl, acc, h1, h2, h3, h4⟩ => ⟨aO, capO, chO, gl, acc, h1, h2, h3.mono hJ, h4⟩) (fun _ _ _ => False)
      ⟨none, 0, [], [], [], by rw [show placeP lb tail [] = tail from by unfold placeP; exact Nat.mod_eq_of_lt (by simp; omega)]; rfl, OwnC.nil _ _, ⟨by simp, rfl⟩, by rw [hLe, hsc]; rfl, by simp⟩ ?round ?done ?stop
    case stop => rintro _ _ _ _ _ h; exact h.elim
    case round =>
      rintro ⟨f, at_, seq, room⟩ xs ⟨f', at', seq', room'⟩ J' S' hJ' ⟨e, sn, li, aI, capI, gs, hf, hg, he, hs, rfl, hgs, hgp, hat, hsq, hrm⟩ ⟨aO, capO, chO, gl, acc, rfl, hO, hok2, hacc, hatl⟩
      dsimp only at hf hg hs hat hsq hrm hacc hatl
      subst hf hat hsq hrm
      rw [scanK, hg] at hacc
      dsimp only at hacc
      rw [if_pos ⟨he, hs⟩] at hacc
      have hgl2 := hok2.len
      have hll : L.length = acc.length + ((scanK (rbP d 2 lb) s2 f' (at_ + (li.length + 1)) (seq + 1) (room - (li.length + 1))).length + 1) := by rw [← hacc, List.length_append, List.length_cons]
      conv => whnf
      intro b15
      repeat (first | refine LoadD.own 0 rfl _ rfl rfl ?_ | refine LoadD.own 3 rfl _ rfl rfl ?_ | refine StoreD.st 3 rfl rfl rfl ?_)
      conv => whnf
      intro bN
      refine appendD tabOk rfl rfl rfl rfl rfl rfl rfl 2 rfl hO (SrcOk.slice (n := 1) (news := grpCells [⟨e, sn, aI, capI, gs⟩]) tabOk rfl ((OwnC.whole (len := 1) (size := 3) rfl).slC 4 rfl) (by intro v hv; simp [grpCells] at hv; rcases hv with rfl | rfl | rfl <;> rfl)) rfl (by show (gl.length + 1) * 40 ≤ _; omega) (by omega) ?_
      intro a2 cap2 ch2 hO2
      repeat (first | refine StoreD.st 0 rfl rfl rfl ?_ | refine StoreD.st 1 rfl rfl rfl ?_)
      have hll3 : (gl ++ [⟨e, sn, aI, capI, gs⟩] : List Grp).length = gl.length + 1 := by simp
      refine ⟨[[(b12, row [.slice a2 (gl.length + 1) cap2] 162)], [(b13, row [.int .i64 ((at_ + (li.length + 1)) % lb : Nat)] 3)], ch2], Drop.pick [0, 1, 2] _ rfl, a2, cap2, ch2, gl ++ [⟨e, sn, aI, capI, gs⟩], acc ++ [(e, sn, li)], ?_, ?_, ⟨?_, ?_⟩, ?_, ?_⟩
      · rw [hll3, placeP_snoc, ← hatl]
      · rw [hll3, grpCells_snoc]; exact hO2
      · intro g hg
        rcases List.mem_append.1 hg with hg | hg
        · exact hok2.each g hg
        · simp only [List.mem_singleton] at hg
          subst hg
          exact hgs
      · rw [List.map_append, List.map_append, hok2.g3, List.map_singleton, List.map_singleton]
        show _ ++ [((e : Int), (sn : Int), gs.map Img.pr)] = _
        rw [hgp]; rfl
      · rw [List.append_assoc]; exact hacc
      · show at_ + (li.length + 1) = _
        rw [List.map_append, List.sum_append, hatl]
        simp [Nat.add_assoc]
    case done =>
      rintro ⟨f, at_, seq, room⟩ J' S' R hJ' ⟨hfin, rfl⟩ ⟨aO, capO, chO, gl, acc, rfl, hO, hok2, hacc, hatl⟩
      rw [hfin, List.append_nil] at hacc
      subst hacc
      repeat (first | refine LoadD.own 5 rfl _ rfl rfl ?_ | refine CmpD.yes rfl ?_)
      refine CodeF.sched [[], [], [0], [0, 1, 2], [0, 1, 2, 3]] [0, 1, 2, 3, 4] (by kernel_rfl) ?_
      repeat (first | refine LoadP.at 0 rfl _ rfl rfl ?_ | refine LoadP.at 1 rfl _ rfl rfl ?_)
      refine Done.mk ⟨[chD, chO], Drop.pick [6, 2] _ rfl, chO, rfl, .inr (.inr ⟨hok, rfl, aO, capO, gl, ?_, hO, ?_⟩)⟩
      · rw [hlbn, ← hLe]; rfl
      · rw [← hLe]; exact hok2
end Go.Proofs.YtegdcjnjnoeinaaGreat
namespace Go.Proofs.YtegdcjnjnoeinaaGreat
open Go.RowKit Go.Sl
set_option maxRecDepth 20000

/-- what a disk's superblocks tell: the one that counts, which one it is, an error -/
def foundP (d : DSt) : Sup × Int × Int :=
  if d.down = true then (Sup.zero, 0, 6) else
  if (chooseP (getS (d.now.getD 0 [])) (getS (d.now.getD 1 []))).2.2 = false ∨ (chooseP (getS (d.now.getD 0 [])) (getS (d.now.getD 1 []))).1.blocks ≠ d.now.length ∨
    layL d.now.length ≤ (chooseP (getS (d.now.getD 0 [])) (getS (d.now.getD 1 []))).1.tail ∨ 8388608 ≤ (chooseP (getS (d.now.getD 0 [])) (getS (d.now.getD 1 []))).1.epoch then (Sup.zero, 0, 90) else
  ((chooseP (getS (d.now.getD 0 [])) (getS (d.now.getD 1 []))).1, (chooseP (getS (d.now.getD 0 [])) (getS (d.now.getD 1 []))).2.1, 0)
structure VSt where
  j : JSt
  epoch : Int
  slot : Int
  fresh : List PImg
  broken : Bool
def allG (gs : List G3) : List PImg := gs.flatMap fun g => g.2.2
noncomputable def mountL (n : Nat) (d : DSt) (s : Sup) (slot : Int) (gs : List G3) : DSt × Int × Option VSt :=
  if ¬ HomeOk (layOf n) (allG gs) ∨ 549755813888 - (gs.length : Int) < s.seq then (d, 90, none) else
  if (doP d (homeP (allG gs)) ⟨s.blocks, s.epoch + 1, s.seq + gs.length, placeP (layL n).toNat s.tail.toNat gs⟩ (1 - slot)).2 ≠ 0 then
    ((doP d (homeP (allG gs)) ⟨s.blocks, s.epoch + 1, s.seq + gs.length, placeP (layL n).toNat s.tail.toNat gs⟩ (1 - slot)).1, (doP d (homeP (allG gs)) ⟨s.blocks, s.epoch + 1, s.seq + gs.length, placeP (layL n).toNat s.tail.toNat gs⟩ (1 - slot)).2, none) else
  ((doP d (homeP (allG gs)) ⟨s.blocks, s.epoch + 1, s.seq + gs.length, placeP (layL n).toNat s.tail.toNat gs⟩ (1 - slot)).1, 0, some ⟨openJ n (s.epoch + 1) (s.seq + gs.length) (placeP (layL n).toNat s.tail.toNat gs), s.epoch + 1, slot, [], false⟩)
noncomputable def mountP (d : DSt) : DSt × Int × Option VSt :=
  if d.now.length < 64 then (d, 90, none) else
  if (foundP d).2.2 ≠ 0 then (d, (foundP d).2.2, none) else
  mountL d.now.length d (foundP d).1 (foundP d).2.1 (scanL d (foundP d).1)
def VSt.read (v : VSt) (d : DSt) (n : Int) : Dat × Int := if v.broken = true then ([], 4) else match v.fresh.lookup n with
  | some b => (b, 0)
  | none => d.read n
/-- what a checkpoint writes: each block's last image, by rising blocks -/
def sortP (l : List PImg) : List PImg := (sortI (l.map Prod.fst)).map fun n => (n, (l.lookup n).getD [])
def VSt.sup (v : VSt) : Sup := ⟨v.j.lay.b, v.epoch, v.j.next, (v.j.t + v.j.u) % v.j.s⟩
/-- a checkpoint's three steps: the error, the journal and the disk then -/
def VSt.ckS (v : VSt) (d : DSt) : Int × JSt × DSt :=
  if (v.j.flush d).2.2 ≠ 0 then ((v.j.flush d).2.2, (v.j.flush d).1, (v.j.flush d).2.1) else
  if (doP (v.j.flush d).2.1 (sortP v.fresh) v.sup v.slot).2 ≠ 0 then ((doP (v.j.flush d).2.1 (sortP v.fresh) v.sup v.slot).2, (v.j.flush d).1, (doP (v.j.flush d).2.1 (sortP v.fresh) v.sup v.slot).1) else
  (((v.j.flush d).1.release (v.j.flush d).1.synced).2, ((v.j.flush d).1.release (v.j.flush d).1.synced).1, (doP (v.j.flush d).2.1 (sortP v.fresh) v.sup v.slot).1)
def VSt.ckpt (v : VSt) (d : DSt) : VSt × DSt × Int :=
  if v.broken = true then (v, d, 4) else
  if (v.ckS d).1 ≠ 0 then ({ v with j := (v.ckS d).2.1, broken := true }, (v.ckS d).2.2, (v.ckS d).1) else
  ({ v with j := (v.ckS d).2.1, slot := 1 - v.slot, fresh := [] }, (v.ckS d).2.2, 0)
def VSt.fits (v : VSt) (k : Int) : Bool := decide (0 < blocksN k ∧ blocksN k ≤ v.j.lay.lb)
def VSt.app (v : VSt) (d : DSt) (l : List PImg) : VSt × DSt × Int × Int :=
  if (v.j.appendB d l false).2.2.2 ≠ 0 then ({ v with j := (v.j.appendB d l false).1, broken := true }, (v.j.appendB d l false).2.1, 0, (v.j.appendB d l false).2.2.2) else
  ({ v with j := (v.j.appendB d l false).1, fresh := l.foldl pput v.fresh }, (v.j.appendB d l false).2.1, (v.j.appendB d l false).2.2.1, 0)
def VSt.commit (v : VSt) (d : DSt) (l : List PImg) : VSt × DSt × Int × Int :=
  if v.broken = true then (v, d, 0, 4) else
  if ¬ HomeOk v.j.lay l then (v, d, 0, 70) else
  if ¬ RightP v.epoch v.j.next l then (v, d, 0, 80) else
  if v.fits l.length = false then (v, d, 0, 232) else
  if v.j.s - v.j.u - v.j.h < blocksN l.length then
    (if (v.ckpt d).2.2 ≠ 0 then ((v.ckpt d).1, (v.ckpt d).2.1, 0, (v.ckpt d).2.2) else (v.ckpt d).1.app (v.ckpt d).2.1 l)
  else v.app d l
end Go.Proofs.YtegdcjnjnoeinaaGreat
namespace Go.Proofs.YtegdcjnjnoeinaaGreat
open Go.RowKit Go.Sl
set_option maxRecDepth 20000

@[reducible] def vCells (bD bJ bM : Nat) (x : Lay) (ep sl : Int) (br : Bool) : List Value := .pointer (some ⟨bD, 0, none⟩) :: x.vals ++ [.pointer (some ⟨bJ, 0, none⟩), .int .i64 ep, .int .i64 sl, .map (some bM), .bool br]
@[reducible] def vChunk (bV bD bJ bM : Nat) (x : Lay) (ep sl : Int) (br : Bool) : List Blk := [(bV, row (vCells bD bJ bM x ep sl br) 49)]
section
variable (bV bD bJ bM : Nat) (x : Lay) (ep sl : Int) (br : Bool) (I : Imm)
theorem v_none (S : St) (k : Nat) (hk : S[k]? = some (vChunk bV bD bJ bM x ep sl br)) : Tri Tryz.prog 97 #[.pointer (some ⟨bV, 0, none⟩)] I S fun v J S' => v = .bool false ∧ I = J ∧ S' = S := by
  obtain ⟨l1, l2, l3, l4, l5, l6, l7⟩ := x
  refine Tri.of (args := [.pointer (some ⟨bV, 0, none⟩)]) tabOk Tryz.func97 rfl (by kernel_rfl) (by kernel_rfl) ?_
  refine LoadD.own k hk [.pointer (some ⟨bD, 0, none⟩)] rfl rfl ?_
  exact Done.mk ⟨rfl, rfl, rfl⟩
def wrongV (b : Bool) : Int := match b with
  | true => 4
  | false => 0
theorem v_wrong (S : St) (k : Nat) (hk : S[k]? = some (vChunk bV bD bJ bM x ep sl br)) : Tri Tryz.prog 78 #[.pointer (some ⟨bV, 0, none⟩)] I S fun v J S' => v = .int .i64 (wrongV br) ∧ I = J ∧ S' = S := by
  have h0 := v_none bV bD bJ bM x ep sl br I S k hk
  obtain ⟨l1, l2, l3, l4, l5, l6, l7⟩ := x
  refine Tri.of (args := [.pointer (some ⟨bV, 0, none⟩)]) tabOk Tryz.func78 rfl (by kernel_rfl) (by kernel_rfl) ?_
  refine Tri.mono h0 ?_
  rintro v _ _ hJ ⟨rfl, rfl, rfl⟩
  refine LoadD.own k hk [.bool br] rfl rfl ?_
  cases br <;> exact Done.mk ⟨rfl, rfl, rfl⟩
theorem v_did (e : Int) : Tri Tryz.prog 85 #[.pointer (some ⟨bV, 0, none⟩), .int .i64 e] I [vChunk bV bD bJ bM x ep sl br] fun v J S' => v = .int .i64 e ∧ I = J ∧ S' = [vChunk bV bD bJ bM x ep sl (br || decide (e ≠ 0))] := by
  obtain ⟨l1, l2, l3, l4, l5, l6, l7⟩ := x
  refine Tri.of (args := [.pointer (some ⟨bV, 0, none⟩), .int .i64 e]) tabOk Tryz.func85 rfl (by kernel_rfl) (by kernel_rfl) ?_
  refine LoadD.own 0 rfl [.bool br] rfl rfl ?_
  cases br
  · refine CmpD.split (fun c => ?_) (fun c => ?_)
    · refine StoreD.st 0 rfl rfl rfl ?_
      refine Done.mk ⟨rfl, rfl, ?_⟩
      rw [decide_eq_false (by simpa using c)]; rfl
    · refine StoreD.st 0 rfl rfl rfl ?_
      refine Done.mk ⟨rfl, rfl, ?_⟩
      rw [decide_eq_true (by simpa using c)]; rfl
  · refine StoreD.st 0 rfl rfl rfl ?_
    exact Done.mk ⟨rfl, rfl, rfl⟩
end
/-- a volume and what is in it, as one chunk -/
def Vk (J : Imm) (bV bD : Nat) (v : VSt) (ch : List Blk) : Prop := ∃ (bJ bM : Nat) (ob : Obj) (chJ : List Blk) (gs : List Img),
  ch = vChunk bV bD bJ bM v.j.lay v.epoch v.slot v.broken ++ ((bM, ob) :: chJ) ∧ Jk bJ bD v.j chJ ∧ MapR ob (gs.map hdr) ∧ (∀ g ∈ gs, ImgOk J g) ∧ gs.map Img.pr = v.fresh
theorem Vk.mono {I J : Imm} {bV bD : Nat} {v : VSt} {ch : List Blk} (h : Vk I bV bD v ch) (hJ : I.le J) : Vk J bV bD v ch := by
  obtain ⟨bJ, bM, ob, chJ, gs, h1, h2, h3, h4, h5⟩ := h
  exact ⟨bJ, bM, ob, chJ, gs, h1, h2, h3, fun g hg => (h4 g hg).mono hJ, h5⟩
theorem vk_lay (bV bD bJ bM : Nat) (x : Lay) (ep sl : Int) (br : Bool) (ob : Obj) (chJ : List Blk) : [vChunk bV bD bJ bM x ep sl br ++ ((bM, ob) :: chJ)].flatten = [vChunk bV bD bJ bM x ep sl br, [(bM, ob)], chJ].flatten := by simp
theorem vk_lay2 (bV bD bJ bM : Nat) (x : Lay) (ep sl : Int) (br : Bool) (ob : Obj) (chJ chD : List Blk) : [vChunk bV bD bJ bM x ep sl br ++ ((bM, ob) :: chJ), chD].flatten = [vChunk bV bD bJ bM x ep sl br, [(bM, ob)], chJ, chD].flatten := by simp
theorem vk_Next {bV bD : Nat} {v : VSt} {ch : List Blk} {I : Imm} (h : Vk I bV bD v ch) : Tri Tryz.prog 25 #[.pointer (some ⟨bV, 0, none⟩)] I [ch] fun r J S' => r = .int .i64 v.j.next ∧ I = J ∧ S' = [ch] := by
  obtain ⟨bJ, bM, ob, chJ, gs, rfl, hj, hM, hg, hp⟩ := h
  refine Tri.lay (S2 := [vChunk bV bD bJ bM v.j.lay v.epoch v.slot v.broken, [(bM, ob)], chJ]) (vk_lay ..) ?_
  refine Tri.drop ?_ (fun _ _ _ _ h => h)
  refine Tri.of (args := [.pointer (some ⟨bV, 0, none⟩)]) tabOk Tryz.func25 rfl (by kernel_rfl) (by kernel_rfl) ?_
  refine Tri.nf (v_none bV bD bJ bM _ _ _ _ I _ 0 rfl) ?_
  rintro r _ _ hJ ⟨rfl, rfl, rfl⟩
  repeat (first | refine LoadD.own 0 rfl _ rfl rfl ?_)
  refine Tri.frame1 2 rfl (jk_Next hj I) ?_
  rintro r _ A' hJ ⟨rfl, rfl, rfl⟩
  refine ⟨_, rfl, ?_⟩
  exact Done.mk ⟨_, Drop.flat (vk_lay ..).symm, rfl, rfl, rfl⟩
theorem vk_Synced {bV bD : Nat} {v : VSt} {ch : List Blk} {I : Imm} (h : Vk I bV bD v ch) : Tri Tryz.prog 26 #[.pointer (some ⟨bV, 0, none⟩)] I [ch] fun r J S' => r = .int .i64 v.j.synced ∧ I = J ∧ S' = [ch] := by
  obtain ⟨bJ, bM, ob, chJ, gs, rfl, hj, hM, hg, hp⟩ := h
  refine Tri.lay (S2 := [vChunk bV bD bJ bM v.j.lay v.epoch v.slot v.broken, [(bM, ob)], chJ]) (vk_lay ..) ?_
  refine Tri.drop ?_ (fun _ _ _ _ h => h)
  refine Tri.of (args := [.pointer (some ⟨bV, 0, none⟩)]) tabOk Tryz.func26 rfl (by kernel_rfl) (by kernel_rfl) ?_
  refine Tri.nf (v_none bV bD bJ bM _ _ _ _ I _ 0 rfl) ?_
  rintro r _ _ hJ ⟨rfl, rfl, rfl⟩
  repeat (first | refine LoadD.own 0 rfl _ rfl rfl ?_)
  refine Tri.frame1 2 rfl (jk_Synced hj I) ?_
  rintro r _ A' hJ ⟨rfl, rfl, rfl⟩
  refine ⟨_, rfl, ?_⟩
  exact Done.mk ⟨_, Drop.flat (vk_lay ..).symm, rfl, rfl, rfl⟩
end Go.Proofs.YtegdcjnjnoeinaaGreat
namespace Go.Proofs.YtegdcjnjnoeinaaGreat
open Go.RowKit Go.Sl
set_option maxRecDepth 20000

theorem mget_hdr (gs : List Img) (n : Int) : mget (gs.map hdr) n = none ∧ (gs.map Img.pr).lookup n = none ∨ ∃ g ∈ gs, mget (gs.map hdr) n = some (.slice g.a g.len g.cap) ∧ (gs.map Img.pr).lookup n = some g.data := by
  induction gs with
  | nil => exact .inl ⟨rfl, rfl⟩
  | cons g gs ih =>
    show (mget ((g.blk, _) :: gs.map hdr) n = none ∧ List.lookup n ((g.blk, g.data) :: gs.map Img.pr) = none) ∨ ∃ g' ∈ g :: gs, mget ((g.blk, _) :: gs.map hdr) n = _ ∧ List.lookup n ((g.blk, g.data) :: gs.map Img.pr) = _
    unfold mget
    rw [List.lookup_cons, List.lookup_cons]
    cases h : (n == g.blk) with
    | true => exact .inr ⟨g, by simp, rfl, rfl⟩
    | false =>
      rcases ih with ⟨h1, h2⟩ | ⟨g', hg', h1, h2⟩
      · exact .inl ⟨h1, h2⟩
      · exact .inr ⟨g', by simp [hg'], h1, h2⟩
/-- a block, as it counts: the bytes in a chunk of their own -/
theorem vk_Read {bV bD : Nat} {v : VSt} {ch : List Blk} {I : Imm} (h : Vk I bV bD v ch) {d : DSt} {chD : List Blk} (hD : Dk I bD d chD) (hfew : ∀ g ∈ v.fresh, g.2.length ≤ 1000000) (n : Int) :
    Tri Tryz.prog 17 #[.pointer (some ⟨bV, 0, none⟩), .int .i64 n] I [ch, chD] fun r J S' => ∃ a cap chB, r = .tuple #[.slice a (v.read d n).1.length cap, .int .i64 (v.read d n).2] ∧ OwnB chB a (v.read d n).1.length cap (v.read d n).1 ∧ I = J ∧ S' = [ch, chD, chB] := by
  obtain ⟨bJ, bM, ob, chJ, gs, rfl, hj, hM, hg, hp⟩ := h
  refine Tri.lay (S2 := [vChunk bV bD bJ bM v.j.lay v.epoch v.slot v.broken, [(bM, ob)], chJ, chD]) (vk_lay2 ..) ?_
  refine Tri.drop ?_ (fun _ _ _ _ h => h)
  refine Tri.of (args := [.pointer (some ⟨bV, 0, none⟩), .int .i64 n]) tabOk Tryz.func17 rfl (by kernel_rfl) (by kernel_rfl) ?_
  refine Tri.nf (v_wrong bV bD bJ bM _ _ _ _ I _ 0 rfl) ?_
  rintro r _ _ hJ ⟨rfl, rfl, rfl⟩
  have back : ∀ (x : List Blk), Drop [vChunk bV bD bJ bM v.j.lay v.epoch v.slot v.broken, [(bM, ob)], chJ, chD, x] [vChunk bV bD bJ bM v.j.lay v.epoch v.slot v.broken ++ ((bM, ob) :: chJ), chD, x] := fun x => Drop.flat (by simp)
  unfold VSt.read
  cases hb : v.broken
  · repeat (first | refine LoadD.own 0 rfl _ rfl rfl ?_ | refine CmpD.yes rfl ?_)
    refine lookupD tabOk rfl rfl rfl rfl rfl rfl 1 rfl hM ?_
    rw [if_neg (by simp)]
    rcases mget_hdr gs n with ⟨h1, h2⟩ | ⟨g, hgm, h1, h2⟩
    · rw [h1]
      rw [hp] at h2
      rw [h2]
      repeat (first | refine LoadD.own 0 rfl _ rfl rfl ?_)
      refine Tri.frame (dk_Read hD n) [3] rfl rfl ?_
      rintro r _ A' hJ ⟨a, cap, chB, rfl, hB, rfl, rfl⟩
      refine ⟨by simp, ?_⟩
      rw [hb] at back
      exact Done.mk ⟨_, back chB, a, cap, chB, rfl, hB, rfl, rfl⟩
    · rw [h1]
      rw [hp] at h2
      rw [h2]
      have hr := (hg g hgm).2
      have hl : g.data.length = g.len := by have := hr.len; rwa [bts_length] at this
      have hle : g.data.length ≤ 1000000 := hfew g.pr (by rw [← hp]; exact List.mem_map_of_mem hgm)
      skip
      refine Tri.frameX (clone_bytes I [] g.a g.len g.cap (bts g.data) (by rw [Nat.mul_one]; exact hr.slC) (bts_plain g.data) (by omega)) [] rfl rfl ?_
      rintro r _ A' hJ ⟨a, cap, chB, rfl, hB, rfl, rfl⟩
      rw [hb] at back
      refine Done.mk ⟨_, back chB, a, cap, chB, ?_, ?_, rfl, rfl⟩
      · rw [← hl]; rfl
      · show OwnB chB a g.data.length cap g.data; rw [hl]; exact hB
  · repeat (first | refine CmpD.no (by decide) ?_)
    rw [if_pos rfl]
    rw [hb] at back
    exact Done.mk ⟨_, (Drop.and (Drop.refl _)).trans (back []), none, 0, [], rfl, OwnC.nil _ _, rfl, rfl⟩
theorem flush_lay (j : JSt) (d : DSt) : (j.flush d).1.lay = j.lay := by
  unfold JSt.flush
  split
  · rfl
  · split <;> rfl
/-- steps, one behind the other, until one errs -/
def Steps (P : Program) : List Value → Imm → St → (Value → Imm → St → Prop) → Prop
  | [], I, S, K => K (.int .i64 0) I S
  | f :: fs, I, S, K => ∃ (g : FuncId) (b c : List Value), f = .func (.func g) b.toArray c.toArray ∧ Tri P g (b ++ c).toArray I S fun v J S' => ∃ e : Int, v = .int .i64 e ∧ (e ≠ 0 → K v J S') ∧ (e = 0 → Steps P fs J S' K)
theorem forceL_of {l : List Value} {K : List Value → Prop} (h : K l) : forceL l K := by rw [forceL_eq]; exact h
theorem Tri.cast {P : Program} {f : FuncId} {args args' : Array Value} {I : Imm} {S : St} {Q : Value → Imm → St → Prop} (e : args = args') (h : Tri P f args I S Q) : Tri P f args' I S Q := by subst e; exact h
theorem vol_first {I : Imm} {S : St} {K : Value → Imm → St → Prop} (a : Option Addr) (n cap : Nat) (fs : List Value) (hn : n ≤ 1000) (hl : Rds I a n fs) (h : Steps Tryz.prog fs I S K) : Tri Tryz.prog 91 #[.slice a n cap] I S K := by
  have hfl := hl.len
  refine Tri.of (args := [.slice a n cap]) tabOk Tryz.func91 rfl (by kernel_rfl) (by kernel_rfl) ?_
  refine CodeF.loopD [6, 7, 8] (fun vs J' S' => ∃ (i : Nat), i ≤ n ∧ Steps Tryz.prog (fs.drop i) J' S' K ∧ I.le J' ∧ vs = [.slice a n cap, .int .i64 n, .int .i64 i])
    (fun vs _ _ => match vs with | [_, _, .int _ i] => ((n : Int) - i).toNat | _ => 0) ?_ ?_
  · exact ⟨_, Drop.refl _, 0, by omega, h, I.le_refl, rfl⟩
  rintro vs gE J' S' hJ' ⟨i, hi, hs, hle, rfl⟩
  refine CmpD.split (fun (c1 : (i : Int) < n) => ?_) (fun (c1 : ¬ (i : Int) < n) => ?_)
  · rcases hl.mem with q0 | ⟨bL, oL, cL, TL, fL, rfl, hIL, hcL⟩
    · omega
    rw [List.drop_eq_getElem_cons (by omega)] at hs
    obtain ⟨g, b, c, hf, ht⟩ := hs
    have hcell : fs[i]? = some (.func (.func g) b.toArray c.toArray) := by rw [List.getElem?_eq_getElem (by omega), hf]
    refine Chk.mk (by omega) ?_
    refine LoadD.imm (hle _ _ hIL) [.func (.func g) b.toArray c.toArray] (take_get hcL hcell) rfl ?_
    refine forceL_of ?_
    refine Tri.cast (args := (b ++ c).toArray) (by simp) (ht.mono ?_)
    rintro v J2 S2 hJ2 ⟨e, rfl, h1, h2⟩
    refine CmpD.split (fun c2 => ?_) (fun c2 => ?_)
    · refine ToD.to (((i + 1 : Nat)) : Int) (by rw [wrap_i64 (by omega) (by omega)]; omega) ?_
      refine ⟨_, Drop.refl _, ⟨i + 1, by omega, h2 c2, Imm.le_trans hle hJ2, rfl⟩, ?_⟩
      show ((n : Int) - ((i + 1 : Nat) : Int)).toNat < ((n : Int) - (i : Int)).toNat; omega
    · exact Done.mk (h1 c2)
  · obtain rfl : i = n := by omega
    rw [List.drop_of_length_le (by omega)] at hs
    exact Done.mk hs
end Go.Proofs.YtegdcjnjnoeinaaGreat
namespace Go.Proofs.YtegdcjnjnoeinaaGreat
open Go.RowKit Go.Sl
set_option maxRecDepth 20000

theorem openJ_wf64 (tail : Int) (ht : 0 ≤ tail ∧ tail < 16) : (openJ 64 1 1 tail).Wf := openJ_wf 64 (by omega) ⟨rfl, by omega, by omega, by omega, by omega, ht.1, by rw [layL_64']; exact ht.2⟩
theorem fresh_calm (l : List Dat) : (DSt.of l).Calm := ⟨rfl, rfl, rfl⟩
theorem JSt.Wf.append {j : JSt} (hj : j.Wf) {d : DSt} {l : List PImg} {held : Bool} (h8 : j.groups.length ≤ 999999) : (j.appendB d l held).1.Wf := by
  have hr := hj.ring
  unfold JSt.appendB JSt.append
  split
  · exact hj
  split
  · exact hj
  rename_i hR
  have hR : RightP j.epoch j.next l := Decidable.of_not_not hR
  split
  · exact hj
  generalize hp : putS j.s j.t j.u j.h (l.length + 1) (if held then l.length + 1 else 0) = q
  obtain ⟨⟨s, t, u, h, e⟩, at_⟩ := q
  dsimp only
  split
  · exact hj
  rename_i he
  have he : e = 0 := Decidable.of_not_not he
  obtain ⟨e1, e2, h3, _, _⟩ := putS_mid hr hp he
  have hn := hj.next
  have hs := hj.synced
  have hl := hR.2.2.2.2.2.1
  have hs2 := hR.2.2.2.1
  generalize wrAll (fun i => j.lay.l + (at_ + i) % s) (putP j.epoch.toNat j.next.toNat l) 0 d = q
  obtain ⟨d', e'⟩ := q
  dsimp only
  split
  · exact ⟨hj.log, h3, hj.epoch, hj.next, hj.synced, hj.few, hj.groups⟩
  · refine ⟨hj.log, h3, hj.epoch, ?_, ?_, ?_, ?_⟩
    · show 1 ≤ j.next + 1 ∧ j.next + 1 ≤ _; omega
    · show 0 ≤ j.synced ∧ j.synced < j.next + 1; omega
    · show (j.groups ++ [_]).length ≤ _; simp; omega
    · intro g hg
      rcases List.mem_append.1 hg with hg | hg
      · exact hj.groups g hg
      · simp only [List.mem_singleton] at hg
        subst hg
        unfold In64; dsimp only; omega
theorem JSt.Wf.flush {j : JSt} (hj : j.Wf) (d : DSt) : (j.flush d).1.Wf := by
  have hn := hj.next
  unfold JSt.flush
  split
  · exact hj
  split
  · exact ⟨hj.log, hj.ring, hj.epoch, hj.next, hj.synced, hj.few, hj.groups⟩
  · refine ⟨hj.log, hj.ring, hj.epoch, hj.next, ?_, hj.few, hj.groups⟩
    show 0 ≤ j.next - 1 ∧ j.next - 1 < j.next; omega
theorem relAll_mid (seq : Int) : ∀ (gs : List (Int × Int)) (s t u h : Int) (gs' : List (Int × Int)) (s' t' u' h' e : Int), Ok s t u h → relAll seq gs s t u h = (gs', (s', t', u', h', e)) → Ok s' t' u' h' ∧ ∃ k, gs' = gs.drop k
  | [], s, t, u, h, _, _, _, _, _, _, hr, he => by
    rw [relAll] at he
    simp only [Prod.mk.injEq] at he
    obtain ⟨rfl, rfl, rfl, rfl, rfl, rfl⟩ := he
    exact ⟨hr, 0, rfl⟩
  | g :: gs, s, t, u, h, gs', s', t', u', h', e, hr, he => by
    rw [relAll] at he
    split at he
    · generalize hd : dropS s t u h g.2 = q at he
      obtain ⟨s1, t1, u1, h1, e1⟩ := q
      dsimp only at he
      split at he
      · rename_i h0
        obtain ⟨h2, k, hk⟩ := relAll_mid seq gs s1 t1 u1 h1 gs' s' t' u' h' e (dropS_mid hr hd h0) he
        exact ⟨h2, k + 1, hk⟩
      · simp only [Prod.mk.injEq] at he
        obtain ⟨rfl, rfl, rfl, rfl, rfl, rfl⟩ := he
        exact ⟨hr, 0, rfl⟩
    · simp only [Prod.mk.injEq] at he
      obtain ⟨rfl, rfl, rfl, rfl, rfl, rfl⟩ := he
      exact ⟨hr, 0, rfl⟩
theorem JSt.Wf.release {j : JSt} (hj : j.Wf) (seq : Int) : (j.release seq).1.Wf := by
  unfold JSt.release
  split
  · exact hj
  split
  · exact hj
  generalize hq : relAll seq j.groups j.s j.t j.u j.h = q
  obtain ⟨gs, s, t, u, h, e⟩ := q
  obtain ⟨h1, k, rfl⟩ := relAll_mid seq _ _ _ _ _ _ _ _ _ _ _ hj.ring hq
  exact ⟨hj.log, h1, hj.epoch, hj.next, hj.synced, by show (j.groups.drop k).length ≤ _; rw [List.length_drop]; have := hj.few; omega, fun g hg => hj.groups g (List.mem_of_mem_drop hg)⟩
/-- a group that fits is appended: what the journal is then -/
theorem JSt.append_next {j : JSt} (hj : j.Wf) (h8 : j.groups.length ≤ 999999) {d : DSt} {l : List PImg} {held : Bool} (hb : j.broken = false) (hR : RightP j.epoch j.next l) (hs : (l.length : Int) + 1 ≤ j.s) (hd : d.Calm) (hlen : j.s + 2 ≤ d.now.length)
    {t u h at_ : Int} (hp : putS j.s j.t j.u j.h (l.length + 1) (if held then l.length + 1 else 0) = ((j.s, t, u, h, 0), at_)) :
    ∃ j', j.appendB d l held = (j', wrD (fun i => 2 + (at_ + i) % j.s) (putP j.epoch.toNat j.next.toNat l) 0 d, j.next, 0) ∧ j'.lay = j.lay ∧ j'.s = j.s ∧ j'.t = t ∧ j'.u = u ∧ j'.h = h ∧ j'.epoch = j.epoch ∧ j'.next = j.next + 1 ∧ j'.synced = j.synced ∧ j'.groups = j.groups ++ [(j.next, (l.length + 1 : Int))] ∧ j'.broken = false ∧ j'.Wf := by
  have e := JSt.append_calm hb hR hs hj.log hd hlen hp
  have w := hj.append (d := d) (l := l) (held := held) h8
  rw [e] at w
  exact ⟨_, e, rfl, rfl, rfl, rfl, rfl, rfl, rfl, rfl, rfl, hb, w⟩
theorem JSt.flush_next {j : JSt} (hj : j.Wf) {d : DSt} (hb : j.broken = false) (hd : d.Calm) :
    ∃ j', j.flush d = (j', { d with safe := d.now, writes := [] }, 0) ∧ j'.lay = j.lay ∧ j'.s = j.s ∧ j'.t = j.t ∧ j'.u = j.u ∧ j'.h = j.h ∧ j'.epoch = j.epoch ∧ j'.next = j.next ∧ j'.synced = j.next - 1 ∧ j'.groups = j.groups ∧ j'.broken = false ∧ j'.Wf := by
  have e : j.flush d = ({ j with synced := j.next - 1 }, { d with safe := d.now, writes := [] }, 0) := by
    unfold JSt.flush DSt.flush
    rw [if_neg (by rw [hb]; simp), DSt.stop_calm hd]
    simp
  have w := hj.flush d
  rw [e] at w
  exact ⟨_, e, rfl, rfl, rfl, rfl, rfl, rfl, rfl, rfl, rfl, hb, w⟩
theorem JSt.release_next {j : JSt} (hj : j.Wf) {seq : Int} (hb : j.broken = false) (hs : ¬ j.synced < seq) {gs : List (Int × Int)} {s t u h e : Int} (hr : relAll seq j.groups j.s j.t j.u j.h = (gs, (s, t, u, h, e))) :
    ∃ j', j.release seq = (j', e) ∧ j'.lay = j.lay ∧ j'.s = s ∧ j'.t = t ∧ j'.u = u ∧ j'.h = h ∧ j'.epoch = j.epoch ∧ j'.next = j.next ∧ j'.synced = j.synced ∧ j'.groups = gs ∧ j'.broken = false ∧ j'.Wf := by
  have e' : j.release seq = ({ j with s := s, t := t, u := u, h := h, groups := gs }, e) := by
    unfold JSt.release
    rw [if_neg (by rw [hb]; simp), if_neg hs, hr]
  have w := hj.release seq
  rw [e'] at w
  exact ⟨_, e', rfl, rfl, rfl, rfl, rfl, rfl, rfl, rfl, rfl, hb, w⟩
end Go.Proofs.YtegdcjnjnoeinaaGreat
namespace Go.Proofs.YtegdcjnjnoeinaaGreat
open Go.RowKit Go.Sl
set_option maxRecDepth 20000

end Go.Proofs.YtegdcjnjnoeinaaGreat
namespace Go.Proofs.YtegdcjnjnoeinaaGreat
open Go.RowKit Go.Sl

def pickS (n m : Int) : Int := if m ≤ 0 then 0 else n % m
theorem pickS_range {n m : Int} (h : 0 < m) : 0 ≤ pickS n m ∧ pickS n m < m := by
  unfold pickS
  rw [if_neg (by omega)]
  exact ⟨Int.emod_nonneg _ (by omega), Int.emod_lt_of_pos _ h⟩
theorem emod_of_tmod (n m : Int) (hm : 0 < m) : n % m = if n.tmod m < 0 then n.tmod m + m else n.tmod m := by
  have h1 : n = m * n.tdiv m + n.tmod m := (Int.mul_tdiv_add_tmod n m).symm
  have h2 := Int.tmod_lt_of_pos n hm
  have h3 : -m < n.tmod m := by
    have h4 := Int.tmod_lt_of_pos (-n) hm
    rw [Int.neg_tmod] at h4; omega
  split
  · have e : n = (n.tmod m + m) + m * (n.tdiv m - 1) := by
      conv => lhs; rw [h1]
      rw [Int.mul_sub]; omega
    conv => lhs; rw [e]
    rw [Int.add_mul_emod_self_left, Int.emod_eq_of_lt (by omega) (by omega)]
  · have e : n = n.tmod m + m * n.tdiv m := by omega
    conv => lhs; rw [e]
    rw [Int.add_mul_emod_self_left, Int.emod_eq_of_lt (by omega) (by omega)]
theorem low_Pick (n m : Int) (I : Imm) (_hn : In64 n) (hm : In64 m) : Tri Tryz.prog 32 #[.int .i64 n, .int .i64 m] I [] fun v J _ => v = .int .i64 (pickS n m) ∧ I = J := by
  unfold In64 at *
  refine Tri.of (args := [.int .i64 n, .int .i64 m]) tabOk Tryz.func32 rfl (by kernel_rfl) (by kernel_rfl) ?_
  refine CmpD.split (fun c => ?_) (fun c => ?_)
  · refine Done.mk ⟨?_, rfl⟩
    rw [pickS, if_pos c]; rfl
  have h2 := Int.tmod_lt_of_pos n (show 0 < m by omega)
  have h3 : -m < n.tmod m := by
    have h4 := Int.tmod_lt_of_pos (-n) (show 0 < m by omega)
    rw [Int.neg_tmod] at h4; omega
  have e := emod_of_tmod n m (by omega)
  refine Chk.mk (by omega) ?_
  refine ToD.to (n.tmod m) rfl ?_
  refine CmpD.split (fun c2 => ?_) (fun c2 => ?_)
  · refine ToD.i64 (by omega) (by omega) ?_
    refine Done.mk ⟨?_, rfl⟩
    rw [pickS, if_neg c, e, if_pos c2]; rfl
  · refine Done.mk ⟨?_, rfl⟩
    rw [pickS, if_neg c, e, if_neg c2]; rfl
end Go.Proofs.YtegdcjnjnoeinaaGreat
namespace Go.Proofs.YtegdcjnjnoeinaaGreat
open Go.RowKit Go.Sl
set_option maxRecDepth 20000

def im9 (n : Nat) (seed : Int) : List PImg := (List.range n).map fun (i : Nat) => (30 + (i : Int), madeL (IntKind.i64.wrap (seed + (i : Int))) 4096)
theorem im9_length (n : Nat) (seed : Int) : (im9 n seed).length = n := by simp [im9]
theorem im9_right {e s : Int} (h1 : 1 ≤ e ∧ e ≤ 8388608) (h2 : 1 ≤ s ∧ s ≤ 549755813888) (n : Nat) (hn : 1 ≤ n ∧ n ≤ 32) (seed : Int) : RightP e s (im9 n seed) := by
  refine ⟨h1.1, h1.2, h2.1, h2.2, by rw [im9_length]; omega, by rw [im9_length]; omega, ?_, ?_⟩
  · intro g hg
    unfold im9 at hg
    obtain ⟨i, hi, rfl⟩ := List.mem_map.1 hg
    have := List.mem_range.1 hi
    exact ⟨by show (0 : Int) ≤ 30 + (i : Int); omega, by show 30 + (i : Int) < 512; omega, madeL_length _ _⟩
  · unfold im9
    rw [List.map_map, List.nodup_iff_pairwise_ne, List.pairwise_map]
    refine List.Pairwise.imp ?_ List.nodup_range
    intro a b hab he
    have he : 30 + (a : Int) = 30 + (b : Int) := he
    exact hab (by omega)
/-! ### written -/
def wrtStep (j : JSt) (d : DSt) (all : List (List PImg)) (sz : Int) : JSt × DSt × List (List PImg) :=
  ((j.appendB d (im9 (1 + pickS sz 5).toNat sz) false).1, (j.appendB d (im9 (1 + pickS sz 5).toNat sz) false).2.1, if (j.appendB d (im9 (1 + pickS sz 5).toNat sz) false).2.2.2 = 0 then all ++ [im9 (1 + pickS sz 5).toNat sz] else all)
def wrtK (x : JSt × DSt × List (List PImg)) (l : List Int) : JSt × DSt × List (List PImg) := l.foldl (fun y z => wrtStep y.1 y.2.1 y.2.2 z) x
/-- images, told as lists of lists -/
structure Ims where
  a : Option Addr
  cap : Nat
  gs : List Img
@[reducible] def Ims.cell (m : Ims) : Value := .slice m.a m.gs.length m.cap
def Ims.pr (m : Ims) : List PImg := m.gs.map Img.pr
end Go.Proofs.YtegdcjnjnoeinaaGreat
namespace Go.Proofs.YtegdcjnjnoeinaaGreat
open Go.RowKit Go.Sl
set_option maxRecDepth 20000

theorem JSt.Wf.turn {j : JSt} (hj : j.Wf) {r : R5} (hr : r.2.2.2.2 = 0 → Ok r.1 r.2.1 r.2.2.1 r.2.2.2.1) : (j.turn r).1.Wf := by
  obtain ⟨s, t, u, h, e⟩ := r
  unfold JSt.turn
  dsimp only at hr ⊢
  split
  · rename_i h0; exact ⟨hj.log, hr h0, hj.epoch, hj.next, hj.synced, hj.few, hj.groups⟩
  · exact hj
/-- a journal of the examples -/
structure JB (j : JSt) (t u h next synced : Int) (gs : List (Int × Int)) : Prop where
  s : j.s = 16
  t : j.t = t
  u : j.u = u
  h : j.h = h
  epoch : j.epoch = 1
  next : j.next = next
  synced : j.synced = synced
  groups : j.groups = gs
  broken : j.broken = false
  wf : j.Wf
/-- a disk of the examples -/
structure DB (d : DSt) (k : Nat) : Prop where
  calm : d.Calm
  len : d.now.length = 64
  few : d.Few k
/-- all of them -/
structure Numbers where
  jA : JSt
  jB : JSt
  jF : JSt
  jR : JSt
  jH : JSt
  jC : JSt
  jX : JSt
  dA : DSt
  dB : DSt
  dF : DSt
  dC : DSt
  dX : DSt
  dY : DSt
end Go.Proofs.YtegdcjnjnoeinaaGreat
namespace Go.Proofs.YtegdcjnjnoeinaaGreat
open Go.RowKit Go.Sl
set_option maxRecDepth 20000

/-! ### where writes go -/
theorem put_get {d : DSt} {p : Nat} {n : Nat} {b : Dat} (h : n ≠ p) : (d.put (n : Int) b).now[p]? = d.now[p]? := by
  show (d.now.set _ _)[p]? = _
  rw [Int.toNat_natCast, List.getElem?_set_ne h]
theorem put_hit {d : DSt} {p : Nat} {b : Dat} (h : p < d.now.length) : (d.put (p : Int) b).now[p]? = some b := by
  show (d.now.set _ _)[p]? = _
  rw [Int.toNat_natCast, List.getElem?_set_self h]
theorem wrD_miss (f : Nat → Nat) (p : Nat) : ∀ (bs : List Dat) (i : Nat) (d : DSt), (∀ k, k < bs.length → f (i + k) ≠ p) → (wrD (fun k => (f k : Int)) bs i d).now[p]? = d.now[p]?
  | [], _, _, _ => rfl
  | b :: bs, i, d, h => by
    rw [wrD, wrD_miss f p bs (i + 1) _ (fun k hk => by have := h (k + 1) (by simp; omega); rwa [show i + (k + 1) = i + 1 + k by omega] at this)]
    exact put_get (h 0 (by simp))
theorem wrD_hit (f : Nat → Nat) (p : Nat) : ∀ (bs : List Dat) (i : Nat) (d : DSt) (k : Nat), (hk : k < bs.length) → f (i + k) = p → (∀ k', k < k' → k' < bs.length → f (i + k') ≠ p) → p < d.now.length → (wrD (fun k => (f k : Int)) bs i d).now[p]? = some bs[k]
  | [], _, _, k, hk, _, _, _ => by simp at hk
  | b :: bs, i, d, 0, _, hf, hno, hp => by
    rw [wrD, wrD_miss f p bs (i + 1) _ (fun k' hk' => by have := hno (k' + 1) (by omega) (by simp; omega); rwa [show i + (k' + 1) = i + 1 + k' by omega] at this)]
    have hf : f i = p := hf
    show (d.put (f i : Int) b).now[p]? = _
    rw [hf, put_hit hp]; rfl
  | b :: bs, i, d, k + 1, hk, hf, hno, hp => by
    rw [wrD]
    have := wrD_hit f p bs (i + 1) (d.put (f i : Int) b) k (by simpa using hk) (by rw [show i + 1 + k = i + (k + 1) by omega]; exact hf) (fun k' h1 h2 => by have := hno (k' + 1) (by omega) (by simp; omega); rwa [show i + (k' + 1) = i + 1 + k' by omega] at this) (by rw [DSt.put_len]; exact hp)
    simpa using this
/-! ### the ring's blocks -/
def usedP (l : List (List PImg)) : Nat := (l.map fun g => g.length + 1).sum
def ringB (ep : Nat) : Nat → List (List PImg) → List Dat
  | _, [] => []
  | sq, g :: l => putP ep sq g ++ ringB ep (sq + 1) l
theorem ringB_length (ep : Nat) : ∀ (l : List (List PImg)) (sq : Nat), (ringB ep sq l).length = usedP l
  | [], _ => rfl
  | g :: l, sq => by rw [ringB, List.length_append, putP_length, ringB_length ep l]; simp [usedP]
theorem ringB_snoc (ep : Nat) : ∀ (l : List (List PImg)) (sq : Nat) (g : List PImg), ringB ep sq (l ++ [g]) = ringB ep sq l ++ putP ep (sq + l.length) g
  | [], sq, g => by simp [ringB]
  | x :: l, sq, g => by
    rw [List.cons_append, ringB, ringB_snoc ep l, ringB, List.append_assoc, List.length_cons, show sq + 1 + l.length = sq + (l.length + 1) by omega]
theorem usedP_snoc (l : List (List PImg)) (g : List PImg) : usedP (l ++ [g]) = usedP l + (g.length + 1) := by simp [usedP]
structure WI (ep tail : Nat) (z : Nat → Dat) (j : JSt) (d : DSt) (all : List (List PImg)) : Prop where
  s : j.s = 16
  t : j.t = tail
  u : j.u = (usedP all : Nat)
  h : j.h = 0
  epoch : j.epoch = ep
  next : j.next = (all.length + 1 : Nat)
  groups : j.groups.length = all.length
  broken : j.broken = false
  log : j.lay.l = 2
  wf : j.Wf
  calm : d.Calm
  dwf : d.Wf
  len : d.now.length = 64
  few : d.Few (usedP all)
  used : usedP all ≤ 16
  right : ∀ (i : Nat) (h : i < all.length), RightP ep ((i + 1 : Nat) : Int) all[i]
  ring : ∀ o, o < 16 → rbP d 2 16 (tail + o) = (ringB ep 1 all).getD o (z o)
theorem usedP_ge (l : List (List PImg)) : l.length ≤ usedP l := by
  unfold usedP
  induction l with
  | nil => simp
  | cons g l ih => simp; omega
theorem DSt.Wf.put {d : DSt} (h : d.Wf) (hc : d.Calm) {n : Int} {b : Dat} (hn : 0 ≤ n ∧ n < d.now.length) (hb : b.length = 4096) : (d.put n b).Wf := by
  have := h.write n b
  rwa [DSt.write_calm hc hn hb] at this
theorem wrD_wf (f : Nat → Int) : ∀ (bs : List Dat) (i : Nat) (d : DSt), d.Wf → d.Calm → (∀ b ∈ bs, b.length = 4096) → (∀ k, 0 ≤ f k ∧ f k < d.now.length) → (wrD f bs i d).Wf
  | [], _, _, h, _, _, _ => h
  | b :: bs, i, d, h, hc, hb, hf => wrD_wf f bs (i + 1) _ (h.put hc (hf i) (hb b (by simp))) (hc.put _ _) (fun x hx => hb x (by simp [hx])) (by rw [DSt.put_len]; exact hf)
/-- a group is appended, or there is no room -/
theorem WI.append {ep tail : Nat} {z : Nat → Dat} {j : JSt} {d : DSt} {all : List (List PImg)} (w : WI ep tail z j d all) {l : List PImg} (hR : RightP ep ((all.length + 1 : Nat) : Int) l) :
    (usedP all + (l.length + 1) ≤ 16 ∧ WI ep tail z (j.appendB d l false).1 (j.appendB d l false).2.1 (all ++ [l]) ∧ (j.appendB d l false).2.2.2 = 0) ∨
    (16 < usedP all + (l.length + 1) ∧ (j.appendB d l false).1 = j ∧ (j.appendB d l false).2.1 = d ∧ (j.appendB d l false).2.2.2 ≠ 0) := by
  have hge := usedP_ge all
  have hu := w.used
  have hll := hR.2.2.2.2.2.1
  have hR' : RightP j.epoch j.next l := by rw [w.epoch, w.next]; exact hR
  have hok := w.wf.ring
  have hokd : Ok 16 tail (usedP all : Nat) 0 := by have := hok; rw [w.s, w.t, w.u, w.h] at this; exact this
  have htl : (tail : Int) < 16 := hokd.2.2.2.1
  rcases Nat.lt_or_ge 16 (usedP all + (l.length + 1)) with hf | hf
  · right
    refine ⟨hf, ?_⟩
    unfold JSt.appendB JSt.append
    rw [if_neg (by rw [w.broken]; simp), if_neg (by simpa using hR')]
    by_cases hs : j.s < (l.length : Int) + 1
    · rw [if_pos hs]; exact ⟨rfl, rfl, by simp⟩
    rw [if_neg hs]
    have hp : putS j.s j.t j.u j.h ((l.length : Int) + 1) (if false = true then (l.length : Int) + 1 else 0) = ((0, 0, 0, 0, 5), 0) := by
      rw [w.s, w.t, w.u, w.h]
      unfold putS
      rw [if_neg (by simp only [Bool.false_eq_true, if_false]; rintro (h | h | h | h | h); exact h hokd; omega; omega; omega; omega), if_pos (by simp only [Bool.false_eq_true, if_false]; omega)]
    rw [hp]
    exact ⟨rfl, rfl, by simp⟩
  · left
    refine ⟨hf, ?_⟩
    have hp : putS j.s j.t j.u j.h ((l.length : Int) + 1) (if false = true then (l.length : Int) + 1 else 0) = ((j.s, (tail : Int), ((usedP all : Nat) : Int) + ((l.length : Int) + 1), 0, 0), ((tail : Int) + (usedP all : Nat)) % 16) := by
      rw [w.s, w.t, w.u, w.h]
      unfold putS
      rw [if_neg (by simp only [Bool.false_eq_true, if_false]; rintro (h | h | h | h | h); exact h hokd; omega; omega; omega; omega), if_neg (by simp only [Bool.false_eq_true, if_false]; omega)]
      simp only [Bool.false_eq_true, if_false, Int.sub_zero]
    have hlen16 : j.s + 2 ≤ d.now.length := by rw [w.s, w.len]; decide
    have hs1 : (l.length : Int) + 1 ≤ j.s := by rw [w.s]; omega
    obtain ⟨j', a, f1, f2, f3, f4, f5, f6, f7, f8, f9, f10, w'⟩ := JSt.append_next w.wf (by rw [w.groups]; omega) w.broken hR' hs1 w.calm hlen16 hp
    rw [a]
    have hB := putP_len (e := j.epoch.toNat) (s := j.next.toNat) hll hR.lens
    have hfl : ∀ k : Nat, (0 : Int) ≤ 2 + (((tail : Int) + (usedP all : Nat)) % 16 + k) % j.s ∧ 2 + (((tail : Int) + (usedP all : Nat)) % 16 + k) % j.s < d.now.length := by
      intro k
      rw [w.s, w.len]
      have := Int.emod_nonneg (((tail : Int) + (usedP all : Nat)) % 16 + k) (b := 16) (by decide)
      have := Int.emod_lt_of_pos (((tail : Int) + (usedP all : Nat)) % 16 + k) (b := 16) (by decide)
      omega
    have hff : (fun k : Nat => (2 : Int) + (((tail : Int) + (usedP all : Nat)) % 16 + k) % j.s) = fun k : Nat => ((2 + (tail + usedP all + k) % 16 : Nat) : Int) := by
      funext k
      rw [w.s]; omega
    refine ⟨⟨by rw [f2, w.s], f3, by rw [f4, usedP_snoc]; omega, f5, by rw [f6, w.epoch], by rw [f7, w.next, List.length_append]; rfl, by rw [f9]; simp [w.groups], f10, by rw [f1, w.log], w', wrD_calm _ _ _ _ w.calm, wrD_wf _ _ _ _ w.dwf w.calm hB hfl, by rw [wrD_len, w.len], ?_, by rw [usedP_snoc]; exact hf, ?_, ?_⟩, rfl⟩
    · have := wrD_few (fun i : Nat => (2 : Int) + (((tail : Int) + (usedP all : Nat)) % 16 + i) % j.s) (putP j.epoch.toNat j.next.toNat l) 0 d _ w.few
      rw [putP_length] at this
      rw [usedP_snoc]; exact this
    · intro i hi
      rw [List.getElem_append]
      split
      · rename_i h; exact w.right i h
      · rename_i h
        simp only [List.length_append, List.length_singleton] at hi
        obtain rfl : i = all.length := by omega
        simpa using hR
    · intro o ho
      rw [hff, ringB_snoc]
      have hrl := ringB_length ep all 1
      have he1 : j.epoch.toNat = ep := by rw [w.epoch]; rfl
      have he2 : j.next.toNat = 1 + all.length := by rw [w.next]; omega
      rw [he1, he2]
      have hpl := putP_length ep (1 + all.length) l
      obtain ⟨B, hBe⟩ : ∃ B, B = putP ep (1 + all.length) l := ⟨_, rfl⟩
      rw [← hBe] at hpl ⊢
      have hw := w.ring o ho
      unfold rbP at hw ⊢
      rw [List.getD_eq_getElem?_getD] at hw ⊢
      have inj : ∀ k, k < B.length → (2 + (tail + usedP all + k) % 16 = 2 + (tail + o) % 16 ↔ usedP all + k = o) := by
        intro k hk; omega
      by_cases hin : usedP all ≤ o ∧ o < usedP all + B.length
      · have := wrD_hit (fun k => 2 + (tail + usedP all + k) % 16) (2 + (tail + o) % 16) B 0 d (o - usedP all) (by omega) (by have := (inj (o - usedP all) (by omega)).2 (by omega); simpa using this)
          (fun k' h1 h2 h3 => by have := (inj k' h2).1 (by simpa using h3); omega) (by rw [w.len]; omega)
        rw [this, List.getD_eq_getElem?_getD, List.getElem?_append_right (by omega), hrl, List.getElem?_eq_getElem (by omega)]; rfl
      · have := wrD_miss (fun k => 2 + (tail + usedP all + k) % 16) (2 + (tail + o) % 16) B 0 d (fun k hk h3 => by have := (inj k hk).1 (by simpa using h3); omega)
        rw [this, hw]
        rw [List.getD_eq_getElem?_getD, List.getD_eq_getElem?_getD]
        rcases Nat.lt_or_ge o (usedP all) with g | g
        · rw [List.getElem?_append_left (by omega)]
        · rw [List.getElem?_eq_none (by omega), List.getElem?_eq_none (by rw [List.length_append]; omega)]
end Go.Proofs.YtegdcjnjnoeinaaGreat
namespace Go.Proofs.YtegdcjnjnoeinaaGreat
open Go.RowKit Go.Sl
set_option maxRecDepth 20000

def gsP (ep : Nat) : Nat → List (List PImg) → List G3
  | _, [] => []
  | sq, g :: l => (ep, sq, g) :: gsP ep (sq + 1) l
theorem gsP_sum (ep : Nat) : ∀ (l : List (List PImg)) (sq : Nat), ((gsP ep sq l).map fun g => g.2.2.length + 1).sum = usedP l
  | [], _ => rfl
  | g :: l, sq => by rw [gsP, List.map_cons, List.sum_cons, gsP_sum ep l]; simp [usedP]
theorem grpP_put {rb : Nat → Dat} {at_ room ep sq : Nat} {l : List PImg} (hR : RightP ep sq l) (hroom : l.length + 1 ≤ room) (hrb : ∀ (k : Nat) (h : k < (putP ep sq l).length), rb (at_ + k) = (putP ep sq l)[k]) : grpP rb at_ room = some (ep, sq, l) := by
  have h0 : rb at_ = hblk ep sq l := by have := hrb 0 (by rw [putP_length]; omega); simpa [putP_eq] using this
  unfold grpP
  rw [h0, hdP_put hR]
  dsimp only
  rw [List.length_map, if_pos hroom]
  have : ((List.range (l.length + 1)).map fun i => rb (at_ + i)) = putP ep sq l := by
    refine getElem_eq_of (by rw [putP_length]; simp) fun i h1 h2 => ?_
    simp only [List.getElem_map, List.getElem_range]
    exact hrb i h2
  rw [this, getP_put hR]
theorem scan_prefix (rb : Nat → Dat) (ep : Nat) : ∀ (all : List (List PImg)) (f at_ sq room : Nat), (∀ (i : Nat) (h : i < all.length), RightP ep ((sq + i : Nat) : Int) all[i]) → usedP all ≤ room → all.length ≤ f → (∀ (k : Nat) (h : k < (ringB ep sq all).length), rb (at_ + k) = (ringB ep sq all)[k]) →
    scanK rb ep f at_ sq room = gsP ep sq all ++ scanK rb ep (f - all.length) (at_ + usedP all) ((sq + all.length : Nat) : Int) (room - usedP all)
  | [], f, at_, sq, room, _, _, _, _ => by simp [gsP, usedP]
  | g :: l, 0, _, _, _, _, _, h, _ => by simp at h
  | g :: l, f + 1, at_, sq, room, hR, hu, hf, hrb => by
    have e : usedP (g :: l) = g.length + 1 + usedP l := by simp [usedP]
    have hg : grpP rb at_ room = some (ep, sq, g) := by
      refine grpP_put (hR 0 (by simp)) (by omega) fun k hk => ?_
      have := hrb k (by rw [ringB, List.length_append]; omega)
      simp only [ringB] at this
      rw [List.getElem_append_left hk] at this
      exact this
    rw [scanK, hg]
    dsimp only
    rw [if_pos ⟨rfl, rfl⟩, gsP, List.cons_append]
    congr 1
    have ih := scan_prefix rb ep l f (at_ + (g.length + 1)) (sq + 1) (room - (g.length + 1)) (fun i hi => by
        have := hR (i + 1) (by simpa using hi)
        rw [show sq + (i + 1) = sq + 1 + i by omega] at this
        simpa using this) (by omega) (by simpa using hf) (fun k hk => by
        have hpl := putP_length ep sq g
        have := hrb (g.length + 1 + k) (by rw [ringB, List.length_append, hpl]; omega)
        simp only [ringB] at this
        rw [List.getElem_append_right (by omega)] at this
        rw [show at_ + (g.length + 1) + k = at_ + (g.length + 1 + k) by omega, this]
        congr 1
        omega)
    rw [show ((sq : Nat) : Int) + 1 = ((sq + 1 : Nat) : Int) by omega, ih, List.length_cons]
    rw [show f + 1 - (l.length + 1) = f - l.length by omega, show at_ + (g.length + 1) + usedP l = at_ + usedP (g :: l) by omega, show sq + 1 + l.length = sq + (l.length + 1) by omega, show room - (g.length + 1) - usedP l = room - usedP (g :: l) by omega]
/-- where no group follows -/
theorem scan_stop {rb : Nat → Dat} {ep : Int} {f at_ room : Nat} {seq : Int} (h : ∀ e s l, grpP rb at_ room = some (e, s, l) → ¬ ((e : Int) = ep ∧ (s : Int) = seq)) : scanK rb ep f at_ seq room = [] := by
  cases f with
  | zero => rfl
  | succ f =>
    rw [scanK]
    cases hg : grpP rb at_ room with
    | none => rfl
    | some p =>
      obtain ⟨e, s, l⟩ := p
      dsimp only
      rw [if_neg (h e s l hg)]
theorem hd_noughts : hdP noughts = none := by
  have h0 : (numV noughts 0 8).1 = 0 := by
    unfold numV noughts
    rw [if_neg (by rw [List.length_replicate]; omega)]
    simp [nb]
  unfold hdP hbE
  rw [h0, if_neg (fun h => by have := h.1.1; simp at this)]
theorem grpP_none {rb : Nat → Dat} {at_ room : Nat} (h : hdP (rb at_) = none) : grpP rb at_ room = none := by unfold grpP; rw [h]
theorem grpP_zero {rb : Nat → Dat} {at_ : Nat} : grpP rb at_ 0 = none := by
  unfold grpP
  split
  · rfl
  · rw [if_neg (by omega)]
theorem layL64 : layL (64 : Int) = 16 := by decide
/-- a new ring that was written tells what was appended -/
theorem WI.scan {ep tail : Nat} {j : JSt} {d : DSt} {all : List (List PImg)} (w : WI ep tail (fun _ => noughts) j d all) (b : Int) : scanL d ⟨b, ep, 1, tail⟩ = gsP ep 1 all ∧ placeP 16 tail (scanL d ⟨b, ep, 1, tail⟩) = (tail + usedP all) % 16 := by
  have e : scanL d ⟨b, ep, 1, tail⟩ = gsP ep 1 all := by
    unfold scanL
    rw [w.len]
    show scanK (rbP d 2 (layL (64 : Int)).toNat) ep ((layL (64 : Int)).toNat + 1) ((tail : Nat) : Int).toNat 1 (layL (64 : Int)).toNat = _
    rw [layL64]
    show scanK (rbP d 2 16) ep 17 tail ((1 : Nat) : Int) 16 = _
    have hu := w.used
    have hge := usedP_ge all
    have hrl := ringB_length ep all 1
    rw [scan_prefix (rbP d 2 16) ep all 17 tail 1 16 (fun i hi => by have := w.right i hi; rwa [show 1 + i = i + 1 by omega]) hu (by omega) (fun k hk => by
      rw [w.ring k (by omega), List.getD_eq_getElem?_getD, List.getElem?_eq_getElem hk]; rfl)]
    rw [scan_stop, List.append_nil]
    intro e s l hg
    exfalso
    rcases Nat.lt_or_ge (usedP all) 16 with g | g
    · have := w.ring (usedP all) g
      rw [List.getD_eq_getElem?_getD, List.getElem?_eq_none (by omega)] at this
      have h2 : grpP (rbP d 2 16) (tail + usedP all) (16 - usedP all) = none := grpP_none (by rw [this]; exact hd_noughts)
      rw [h2] at hg; cases hg
    · rw [show 16 - usedP all = 0 by omega, grpP_zero] at hg; cases hg
  refine ⟨e, ?_⟩
  rw [e]
  unfold placeP
  rw [gsP_sum]
theorem WI.fresh {ep tail : Nat} (hep : 1 ≤ ep ∧ ep ≤ 8388608) (ht : tail < 16) : WI ep tail (fun _ => noughts) (openJ 64 ep 1 tail) (DSt.of (List.replicate 64 noughts)) [] := by
  have hlen : (List.replicate 64 noughts).length = 64 := List.length_replicate ..
  have hmem : ∀ b ∈ List.replicate 64 noughts, b.length = 4096 := fun b hb => by rw [(List.mem_replicate.1 hb).2]; exact noughts_length
  have hw : (DSt.of (List.replicate 64 noughts)).Wf := ⟨rfl, by show 1 ≤ (List.replicate 64 noughts).length ∧ (List.replicate 64 noughts).length ≤ 512; omega, hmem, hmem, fun w hw => (List.not_mem_nil hw).elim, fun h => (Bool.false_ne_true h).elim, fun h => (Bool.false_ne_true h).elim⟩
  refine ⟨layL_64', rfl, rfl, rfl, rfl, rfl, rfl, rfl, rfl, openJ_wf 64 (by omega) ⟨rfl, by omega, by omega, by omega, by omega, by omega, by rw [layL_64']; omega⟩, fresh_calm _, hw, hlen, DSt.of_few _, by simp [usedP], fun i h => by simp at h, ?_⟩
  intro o ho
  unfold rbP
  show (List.replicate 64 noughts).getD _ [] = _
  rw [List.getD_eq_getElem?_getD, List.getElem?_replicate, if_pos (by omega)]; rfl
theorem im9_pick {ep : Nat} (hep : 1 ≤ ep ∧ ep ≤ 8388608) (sz : Int) (k : Nat) (hk : k ≤ 16) : RightP ep ((k + 1 : Nat) : Int) (im9 (1 + pickS sz 5).toNat sz) := by
  have := pickS_range (n := sz) (m := 5) (by decide)
  exact im9_right ⟨by omega, by omega⟩ ⟨by omega, by omega⟩ _ (by omega) _
theorem WI.step {ep tail : Nat} {z : Nat → Dat} (hep : 1 ≤ ep ∧ ep ≤ 8388608) {j : JSt} {d : DSt} {all : List (List PImg)} (w : WI ep tail z j d all) (sz : Int) : WI ep tail z (wrtStep j d all sz).1 (wrtStep j d all sz).2.1 (wrtStep j d all sz).2.2 := by
  have hge := usedP_ge all
  have hu := w.used
  unfold wrtStep
  rcases w.append (im9_pick hep sz all.length (by omega)) with ⟨_, h1, h2⟩ | ⟨_, h1, h2, h3⟩
  · dsimp only; rw [if_pos h2]; exact h1
  · dsimp only; rw [if_neg h3, h1, h2]; exact w
theorem WI.all {ep tail : Nat} {z : Nat → Dat} (hep : 1 ≤ ep ∧ ep ≤ 8388608) : ∀ (l : List Int) (x : JSt × DSt × List (List PImg)), WI ep tail z x.1 x.2.1 x.2.2 → WI ep tail z (wrtK x l).1 (wrtK x l).2.1 (wrtK x l).2.2
  | [], _, h => h
  | s :: l, _, h => WI.all hep l _ (h.step hep s)
end Go.Proofs.YtegdcjnjnoeinaaGreat
namespace Go.Proofs.YtegdcjnjnoeinaaGreat
open Go.RowKit Go.Sl
set_option maxRecDepth 20000

def grL : Nat → List (List PImg) → List (Int × Int)
  | _, [] => []
  | sq, l :: ls => ((sq : Int), ((l.length : Int) + 1)) :: grL (sq + 1) ls
theorem grL_length : ∀ (ls : List (List PImg)) (sq : Nat), (grL sq ls).length = ls.length
  | [], _ => rfl
  | _ :: ls, sq => by rw [grL, List.length_cons, grL_length ls, List.length_cons]
theorem grL_snoc : ∀ (ls : List (List PImg)) (sq : Nat) (l : List PImg), grL sq (ls ++ [l]) = grL sq ls ++ [(((sq + ls.length : Nat) : Int), ((l.length : Int) + 1))]
  | [], sq, l => rfl
  | x :: ls, sq, l => by
    rw [List.cons_append, grL, grL_snoc ls, grL, List.length_cons, show sq + 1 + ls.length = sq + (ls.length + 1) by omega]; rfl
structure WJ (t0 sq : Nat) (j : JSt) (d : DSt) (ls : List (List PImg)) (k : Nat) : Prop where
  s : j.s = 16
  t : j.t = ((t0 % 16 : Nat) : Int)
  u : j.u = (usedP ls : Nat)
  epoch : j.epoch = 1
  next : j.next = ((sq + ls.length : Nat) : Int)
  pos : 1 ≤ sq
  groups : j.groups = grL sq ls
  broken : j.broken = false
  wf : j.Wf
  calm : d.Calm
  dwf : d.Wf
  len : d.now.length = 64
  few : d.Few k
  used : usedP ls ≤ 16
  right : ∀ (i : Nat) (h : i < ls.length), RightP 1 ((sq + i : Nat) : Int) ls[i]
  ring : ∀ (o : Nat) (h : o < (ringB 1 sq ls).length), rbP d 2 16 (t0 + o) = (ringB 1 sq ls)[o]
theorem WJ.mono {t0 sq : Nat} {j : JSt} {d : DSt} {ls : List (List PImg)} {k m : Nat} (w : WJ t0 sq j d ls k) (h : k ≤ m) : WJ t0 sq j d ls m := { w with few := w.few.mono h }
theorem WJ.room {t0 sq : Nat} {j : JSt} {d : DSt} {ls : List (List PImg)} {k : Nat} (w : WJ t0 sq j d ls k) : Ok 16 ((t0 % 16 : Nat) : Int) (usedP ls : Nat) j.h := by
  have := w.wf.ring; rw [w.s, w.t, w.u] at this; exact this
theorem WJ.fresh (t0 : Nat) (ht : t0 < 16) : WJ t0 1 (openJ 64 1 1 t0) (DSt.of (List.replicate 64 noughts)) [] 0 :=
  ⟨layL_64', by show (t0 : Int) = _; rw [Nat.mod_eq_of_lt ht], rfl, rfl, rfl, Nat.le_refl _, rfl, rfl, openJ_wf64 t0 (by omega), fresh_calm _, (WI.fresh (ep := 1) (by omega) ht).dwf, List.length_replicate, DSt.of_few _, by simp [usedP], fun i h => by simp at h, fun o h => by simp [ringB] at h⟩
/-- a group is appended, or nothing changes -/
theorem WJ.append {t0 sq : Nat} {j : JSt} {d : DSt} {ls : List (List PImg)} {k : Nat} (w : WJ t0 sq j d ls k) {l : List PImg} (hR : RightP 1 ((sq + ls.length : Nat) : Int) l) (held : Bool) (hh : held = true → (l.length : Int) + 1 ≤ j.h) :
    (WJ t0 sq (j.appendB d l held).1 (j.appendB d l held).2.1 (ls ++ [l]) (k + 16) ∧ (j.appendB d l held).2.2.1 = ((sq + ls.length : Nat) : Int) ∧ (j.appendB d l held).2.2.2 = 0 ∧ (held = false → (j.appendB d l held).1.h = j.h)) ∨
    (held = false ∧ (j.appendB d l held).1 = j ∧ (j.appendB d l held).2.1 = d ∧ (j.appendB d l held).2.2.2 ≠ 0) := by
  have hge := usedP_ge ls
  have hu := w.used
  have hll := hR.2.2.2.2.2.1
  have hR' : RightP j.epoch j.next l := by rw [w.epoch, w.next]; exact hR
  have hokd := w.room
  have hok := hokd
  unfold Ok at hok
  obtain ⟨kk, hkk⟩ : ∃ kk : Int, kk = (if held = true then (l.length : Int) + 1 else 0) := ⟨_, rfl⟩
  have hk0 : 0 ≤ kk ∧ kk ≤ (l.length : Int) + 1 ∧ kk ≤ j.h := by
    rw [hkk]
    split
    · rename_i h; have := hh h; omega
    · omega
  by_cases hf : 16 - (usedP ls : Int) - j.h < (l.length : Int) + 1 - kk
  · right
    have hheld : held = false := by
      cases held with
      | false => rfl
      | true => rw [if_pos rfl] at hkk; omega
    refine ⟨hheld, ?_⟩
    unfold JSt.appendB JSt.append
    rw [if_neg (by rw [w.broken]; simp), if_neg (by simpa using hR')]
    by_cases hs : j.s < (l.length : Int) + 1
    · rw [if_pos hs]; exact ⟨rfl, rfl, by simp⟩
    rw [if_neg hs]
    have hp : putS j.s j.t j.u j.h ((l.length : Int) + 1) (if held = true then (l.length : Int) + 1 else 0) = ((0, 0, 0, 0, 5), 0) := by
      rw [w.s, w.t, w.u, ← hkk]
      unfold putS
      rw [if_neg (by rintro (h | h | h | h | h); exact h hokd; omega; omega; omega; omega), if_pos (by omega)]
    rw [hp]
    exact ⟨rfl, rfl, by simp⟩
  · left
    have hp : putS j.s j.t j.u j.h ((l.length : Int) + 1) (if held = true then (l.length : Int) + 1 else 0) = ((j.s, ((t0 % 16 : Nat) : Int), ((usedP ls : Nat) : Int) + ((l.length : Int) + 1), j.h - kk, 0), (((t0 % 16 : Nat) : Int) + (usedP ls : Nat)) % 16) := by
      rw [w.s, w.t, w.u, ← hkk]
      unfold putS
      rw [if_neg (by rintro (h | h | h | h | h); exact h hokd; omega; omega; omega; omega), if_neg (by omega)]
    have hlen16 : j.s + 2 ≤ d.now.length := by rw [w.s, w.len]; decide
    have hs1 : (l.length : Int) + 1 ≤ j.s := by rw [w.s]; omega
    have hgl : j.groups.length = ls.length := by rw [w.groups, grL_length]
    obtain ⟨j', a, f1, f2, f3, f4, f5, f6, f7, f8, f9, f10, w'⟩ := JSt.append_next w.wf (by rw [hgl]; omega) w.broken hR' hs1 w.calm hlen16 hp
    rw [a]
    have hB := putP_len (e := j.epoch.toNat) (s := j.next.toNat) hll hR.lens
    have hff : (fun k : Nat => (2 : Int) + ((((t0 % 16 : Nat) : Int) + (usedP ls : Nat)) % 16 + k) % j.s) = fun k : Nat => ((2 + (t0 + usedP ls + k) % 16 : Nat) : Int) := by
      funext k
      rw [w.s]; omega
    have hfl : ∀ k : Nat, (0 : Int) ≤ ((2 + (t0 + usedP ls + k) % 16 : Nat) : Int) ∧ ((2 + (t0 + usedP ls + k) % 16 : Nat) : Int) < d.now.length := by
      intro k
      rw [w.len]; omega
    have hroom : usedP ls + (l.length + 1) ≤ 16 := by
      have := w'.ring
      unfold Ok at this
      rw [f2, w.s, f4] at this
      omega
    rw [hff]
    refine ⟨⟨by rw [f2, w.s], f3, by rw [f4, usedP_snoc]; omega, by rw [f6, w.epoch], by rw [f7, w.next, List.length_append]; show _ = (((sq + (ls.length + 1) : Nat)) : Int); omega, w.pos, by rw [f9, w.groups, w.next, grL_snoc], f10, w', wrD_calm _ _ _ _ w.calm, wrD_wf _ _ _ _ w.dwf w.calm hB hfl, by rw [wrD_len, w.len], ?_, by rw [usedP_snoc]; exact hroom, ?_, ?_⟩, w.next, rfl, fun h => by rw [f5, hkk, h]; simp⟩
    · have := wrD_few (fun k : Nat => ((2 + (t0 + usedP ls + k) % 16 : Nat) : Int)) (putP j.epoch.toNat j.next.toNat l) 0 d _ w.few
      rw [putP_length] at this
      exact this.mono (by omega)
    · intro i hi
      rw [List.getElem_append]
      split
      · rename_i h; exact w.right i h
      · rename_i h
        simp only [List.length_append, List.length_singleton] at hi
        obtain rfl : i = ls.length := by omega
        simpa using hR
    · intro o ho
      have hrl := ringB_length 1 ls sq
      have he1 : j.epoch.toNat = 1 := by rw [w.epoch]; rfl
      have he2 : j.next.toNat = sq + ls.length := by rw [w.next]; omega
      have hsn := ringB_snoc 1 ls sq l
      have hpl := putP_length 1 (sq + ls.length) l
      obtain ⟨B, hBe⟩ : ∃ B, B = putP 1 (sq + ls.length) l := ⟨_, rfl⟩
      rw [he1, he2]
      rw [← hBe] at hpl hsn ⊢
      have ho2 : o < usedP ls + B.length := by rw [hsn, List.length_append, hrl] at ho; exact ho
      have e0 : (ringB 1 sq (ls ++ [l]))[o]? = (ringB 1 sq ls ++ B)[o]? := by rw [hsn]
      rw [List.getElem?_eq_getElem ho] at e0
      unfold rbP
      rw [List.getD_eq_getElem?_getD]
      have inj : ∀ k, k < B.length → (2 + (t0 + usedP ls + k) % 16 = 2 + (t0 + o) % 16 ↔ usedP ls + k = o) := by
        intro k hk; omega
      by_cases hin : usedP ls ≤ o
      · have := wrD_hit (fun k => 2 + (t0 + usedP ls + k) % 16) (2 + (t0 + o) % 16) B 0 d (o - usedP ls) (by omega) (by have := (inj (o - usedP ls) (by omega)).2 (by omega); simpa using this)
          (fun k' h1 h2 h3 => by have := (inj k' h2).1 (by simpa using h3); omega) (by rw [w.len]; omega)
        rw [this]
        rw [List.getElem?_append_right (by omega), hrl, List.getElem?_eq_getElem (by omega)] at e0
        exact (Option.some.inj e0).symm
      · have := wrD_miss (fun k => 2 + (t0 + usedP ls + k) % 16) (2 + (t0 + o) % 16) B 0 d (fun k hk h3 => by have := (inj k hk).1 (by simpa using h3); omega)
        rw [this]
        rw [List.getElem?_append_left (by omega), List.getElem?_eq_getElem (by omega)] at e0
        have hw := w.ring o (by omega)
        unfold rbP at hw
        rw [List.getD_eq_getElem?_getD] at hw
        rw [hw]
        exact (Option.some.inj e0).symm
theorem WJ.flush {t0 sq : Nat} {j : JSt} {d : DSt} {ls : List (List PImg)} {k : Nat} (w : WJ t0 sq j d ls k) :
    WJ t0 sq (j.flush d).1 (j.flush d).2.1 ls k ∧ (j.flush d).2.2 = 0 ∧ (j.flush d).1.synced = j.next - 1 ∧ (j.flush d).1.h = j.h := by
  obtain ⟨j', a, f1, f2, f3, f4, f5, f6, f7, f8, f9, f10, w'⟩ := JSt.flush_next w.wf w.broken w.calm
  have hc := w.calm
  have hdw : (j.flush d).2.1.Wf := by
    have := w.dwf.flush
    unfold JSt.flush
    rw [if_neg (by rw [w.broken]; simp)]
    split <;> exact this
  rw [a] at hdw ⊢
  refine ⟨⟨by rw [f2, w.s], by rw [f3, w.t], by rw [f4, w.u], by rw [f6, w.epoch], by rw [f7, w.next], w.pos, by rw [f9, w.groups], f10, w', hc, hdw, w.len, ?_, w.used, w.right, w.ring⟩, rfl, f8, f5⟩
  obtain ⟨h1, h2, h3⟩ := w.few
  exact ⟨by simp, h2, h3⟩
theorem ringB_drop (ep : Nat) : ∀ (ls : List (List PImg)) (sq m : Nat), (ringB ep sq ls).drop (usedP (ls.take m)) = ringB ep (sq + m) (ls.drop m)
  | ls, sq, 0 => by simp [usedP]
  | [], sq, m + 1 => by simp [ringB, usedP]
  | l :: ls, sq, m + 1 => by
    have e : usedP ((l :: ls).take (m + 1)) = (putP ep sq l).length + usedP (ls.take m) := by rw [putP_length]; simp [usedP]
    rw [e, ringB, ← List.drop_drop, List.drop_left, ringB_drop ep ls (sq + 1) m, List.drop_succ_cons, show sq + 1 + m = sq + (m + 1) by omega]
theorem usedP_split (ls : List (List PImg)) (m : Nat) : usedP ls = usedP (ls.take m) + usedP (ls.drop m) := by
  unfold usedP
  rw [← List.sum_append, ← List.map_append, List.take_append_drop]
theorem rel_gr : ∀ (m : Nat) (ls : List (List PImg)) (sq t0 : Nat) (u h : Int), m < ls.length → (usedP ls : Int) = u → Ok 16 ((t0 % 16 : Nat) : Int) u h →
    relAll ((sq + m : Nat) : Int) (grL sq ls) 16 ((t0 % 16 : Nat) : Int) u h = (grL (sq + (m + 1)) (ls.drop (m + 1)), (16, (((t0 + usedP (ls.take (m + 1))) % 16 : Nat) : Int), ((usedP (ls.drop (m + 1)) : Nat) : Int), h, 0))
  | m, [], _, _, _, _, hm, _, _ => by simp at hm
  | m, l :: ls, sq, t0, u, h, hm, hu, hr => by
    have hul : usedP (l :: ls) = (l.length + 1) + usedP ls := by simp [usedP]
    have hr2 := hr
    unfold Ok at hr2
    rw [grL, relAll, if_pos (by show ((sq : Nat) : Int) ≤ _; omega)]
    have hd : dropS 16 ((t0 % 16 : Nat) : Int) u h ((l.length : Int) + 1) = (16, (((t0 + (l.length + 1)) % 16 : Nat) : Int), ((usedP ls : Nat) : Int), h, 0) := by
      unfold dropS
      rw [if_neg (by rintro (h | h | h); exact h hr; omega; omega)]
      congr 1
      congr 1
      · omega
      · congr 1; omega
    dsimp only
    rw [hd]
    dsimp only
    rw [if_pos rfl]
    cases m with
    | zero =>
      rw [show (l :: ls).take (0 + 1) = [l] by rfl, show (l :: ls).drop (0 + 1) = ls by rfl, show usedP [l] = l.length + 1 by simp [usedP]]
      cases ls with
      | nil => rfl
      | cons x ls =>
        rw [grL, relAll, if_neg (by show ¬ (((sq + 1 : Nat) : Int) ≤ ((sq + 0 : Nat) : Int)); omega)]
    | succ m =>
      have ih := rel_gr m ls (sq + 1) (t0 + (l.length + 1)) ((usedP ls : Nat) : Int) h (by simpa using hm) rfl (by unfold Ok; omega)
      rw [show sq + (m + 1) = sq + 1 + m by omega, ih]
      rw [show (l :: ls).take (m + 1 + 1) = l :: ls.take (m + 1) by rfl, show (l :: ls).drop (m + 1 + 1) = ls.drop (m + 1) by rfl, show usedP (l :: ls.take (m + 1)) = (l.length + 1) + usedP (ls.take (m + 1)) by simp [usedP], Nat.add_assoc t0]
      rw [show sq + 1 + (m + 1) = sq + 1 + m + 1 by omega, show sq + (m + 1 + 1) = sq + 1 + m + 1 by omega]
theorem WJ.release {t0 sq : Nat} {j : JSt} {d : DSt} {ls : List (List PImg)} {k : Nat} (w : WJ t0 sq j d ls k) (hsy : j.synced = j.next - 1) (m : Nat) (hm : m < ls.length) :
    WJ (t0 + usedP (ls.take (m + 1))) (sq + (m + 1)) (j.release ((sq + m : Nat) : Int)).1 d (ls.drop (m + 1)) k ∧ (j.release ((sq + m : Nat) : Int)).2 = 0 ∧ (j.release ((sq + m : Nat) : Int)).1.h = j.h := by
  have hu := w.used
  have hsp := usedP_split ls (m + 1)
  have hr : relAll ((sq + m : Nat) : Int) j.groups j.s j.t j.u j.h = (grL (sq + (m + 1)) (ls.drop (m + 1)), (16, (((t0 + usedP (ls.take (m + 1))) % 16 : Nat) : Int), ((usedP (ls.drop (m + 1)) : Nat) : Int), j.h, 0)) := by
    rw [w.groups, w.s, w.t, w.u]; exact rel_gr m ls sq t0 ((usedP ls : Nat) : Int) j.h hm rfl w.room
  obtain ⟨j', a, f1, f2, f3, f4, f5, f6, f7, f8, f9, f10, w'⟩ := JSt.release_next w.wf (seq := ((sq + m : Nat) : Int)) w.broken (by rw [hsy, w.next]; omega) hr
  rw [a]
  refine ⟨⟨by rw [f2], f3, f4, by rw [f6, w.epoch], ?_, by have := w.pos; omega, f9, f10, w', w.calm, w.dwf, w.len, w.few, by omega, ?_, ?_⟩, rfl, f5⟩
  · rw [f7, w.next, List.length_drop]; omega
  · intro i hi
    rw [List.getElem_drop]
    have := w.right (m + 1 + i) (by rw [List.length_drop] at hi; omega)
    rwa [show sq + (m + 1 + i) = sq + (m + 1) + i by omega] at this
  · intro o ho
    have e := ringB_drop 1 ls sq (m + 1)
    have ho2 : usedP (ls.take (m + 1)) + o < (ringB 1 sq ls).length := by rw [← e, List.length_drop] at ho; omega
    have hw := w.ring _ ho2
    have e1 : (ringB 1 (sq + (m + 1)) (ls.drop (m + 1)))[o]? = ((ringB 1 sq ls).drop (usedP (ls.take (m + 1))))[o]? := by rw [e]
    rw [List.getElem?_eq_getElem ho, List.getElem?_drop, List.getElem?_eq_getElem ho2] at e1
    rw [Nat.add_assoc, hw]
    exact (Option.some.inj e1).symm
theorem WJ.turn {t0 sq : Nat} {j : JSt} {d : DSt} {ls : List (List PImg)} {k : Nat} (w : WJ t0 sq j d ls k) (h : Int) (hh : 0 ≤ h ∧ (usedP ls : Int) + h ≤ 16) : WJ t0 sq { j with h := h } d ls k := by
  refine ⟨w.s, w.t, w.u, w.epoch, w.next, w.pos, w.groups, w.broken, ⟨w.wf.log, ?_, w.wf.epoch, w.wf.next, w.wf.synced, w.wf.few, w.wf.groups⟩, w.calm, w.dwf, w.len, w.few, w.used, w.right, w.ring⟩
  have := w.wf.ring
  unfold Ok at this ⊢
  show 1 ≤ j.s ∧ j.s ≤ 512 ∧ 0 ≤ j.t ∧ j.t < j.s ∧ 0 ≤ j.u ∧ 0 ≤ h ∧ j.u + h ≤ j.s
  rw [w.s, w.u] at this ⊢
  omega
end Go.Proofs.YtegdcjnjnoeinaaGreat
namespace Go.Proofs.YtegdcjnjnoeinaaGreat
open Go.RowKit Go.Sl
set_option maxRecDepth 20000

theorem WJ.blk {t0 sq : Nat} {j : JSt} {d : DSt} {ls : List (List PImg)} {k : Nat} (w : WJ t0 sq j d ls k) (i : Nat) (hi : i < ls.length) (b : Nat) (hb : b < (putP 1 (sq + i) ls[i]).length) :
    d.now.getD (2 + ((t0 + usedP (ls.take i)) % 16 + b) % 16) [] = (putP 1 (sq + i) ls[i])[b] := by
  have e := ringB_drop 1 ls sq i
  rw [List.drop_eq_getElem_cons hi, ringB] at e
  have e1 : (ringB 1 sq ls)[usedP (ls.take i) + b]? = some (putP 1 (sq + i) ls[i])[b] := by
    rw [← List.getElem?_drop, e, List.getElem?_append_left hb, List.getElem?_eq_getElem hb]
  obtain ⟨h1, h2⟩ := List.getElem?_eq_some_iff.1 e1
  have := w.ring _ h1
  unfold rbP at this
  rw [h2] at this
  rw [← this, show 2 + ((t0 + usedP (ls.take i)) % 16 + b) % 16 = 2 + (t0 + (usedP (ls.take i) + b)) % 16 by omega]
structure LineOk (J : Imm) (t0 sq : Nat) (l : List Grp) (ls : List (List PImg)) : Prop where
  pr : l.map (fun g => g.gs.map Img.pr) = ls
  each : ∀ (i : Nat) (g : Grp), l[i]? = some g → g.e = ((sq + i : Nat) : Int) ∧ g.s = (((t0 + usedP (ls.take i)) % 16 : Nat) : Int) ∧ ImgsOk J g.a g.gs
theorem LineOk.mono {I J : Imm} {t0 sq : Nat} {l : List Grp} {ls : List (List PImg)} (h : LineOk I t0 sq l ls) (hJ : I.le J) : LineOk J t0 sq l ls :=
  ⟨h.pr, fun i g hg => ⟨(h.each i g hg).1, (h.each i g hg).2.1, (h.each i g hg).2.2.mono hJ⟩⟩
theorem LineOk.len {J : Imm} {t0 sq : Nat} {l : List Grp} {ls : List (List PImg)} (h : LineOk J t0 sq l ls) : l.length = ls.length := by rw [← h.pr, List.length_map]
theorem LineOk.nil (J : Imm) (t0 sq : Nat) : LineOk J t0 sq [] [] := ⟨rfl, fun i g h => by simp at h⟩
theorem LineOk.snoc {J : Imm} {t0 sq : Nat} {l : List Grp} {ls : List (List PImg)} (h : LineOk J t0 sq l ls) {g : Grp} (h1 : g.e = ((sq + ls.length : Nat) : Int)) (h2 : g.s = (((t0 + usedP ls) % 16 : Nat) : Int)) (h3 : ImgsOk J g.a g.gs) : LineOk J t0 sq (l ++ [g]) (ls ++ [g.gs.map Img.pr]) := by
  have hl := h.len
  refine ⟨by rw [List.map_append, h.pr]; rfl, fun i x hx => ?_⟩
  rcases Nat.lt_or_ge i l.length with c | c
  · rw [List.getElem?_append_left c] at hx
    rw [List.take_append_of_le_length (by omega)]
    exact h.each i x hx
  · rw [List.getElem?_append_right c] at hx
    obtain ⟨q1, q2⟩ := List.getElem?_eq_some_iff.1 hx
    simp at q1
    obtain rfl : i = ls.length := by omega
    have : x = g := by simpa using q2.symm
    subst this
    rw [List.take_append_of_le_length (by omega), List.take_length]
    exact ⟨h1, h2, h3⟩
theorem LineOk.drop {J : Imm} {t0 sq : Nat} {l : List Grp} {ls : List (List PImg)} (h : LineOk J t0 sq l ls) (m : Nat) : LineOk J (t0 + usedP (ls.take m)) (sq + m) (l.drop m) (ls.drop m) := by
  refine ⟨by rw [List.map_drop, h.pr], fun i x hx => ?_⟩
  rw [List.getElem?_drop] at hx
  obtain ⟨q1, q2, q3⟩ := h.each _ _ hx
  refine ⟨by rw [q1]; omega, ?_, q3⟩
  rw [q2]
  have e : usedP (ls.take (m + i)) = usedP (ls.take m) + usedP ((ls.drop m).take i) := by
    rw [List.take_add]
    simp [usedP]
  rw [e, Nat.add_assoc]
theorem dk_ReadK {I : Imm} {bD : Nat} {st : DSt} {ch : List Blk} (h : Dk I bD st ch) (hdn : st.down = false) (k : Nat) (hk : k < st.now.length) :
    Tri Tryz.prog 39 #[.pointer (some ⟨bD, 0, none⟩), .int .i64 k] I [ch] fun v J S' => ∃ bk : Bk, v = .tuple #[bk.cell, .int .i64 0] ∧ bk.data = st.now.getD k [] ∧ BkOk J bk ∧ 4096 ≤ bk.cap ∧ Dk J bD st ch ∧ S' = [ch] := by
  have hb4 : (st.now.getD k []).length = 4096 := by
    rw [List.getD_eq_getElem?_getD, List.getElem?_eq_getElem hk]
    exact h.wf.now _ (List.getElem_mem _)
  have hr := dk_Read h (k : Int)
  rw [read_up h.wf hdn hk] at hr
  refine Tri.drop (Tri.fixed hr (K := fun v J S' => ∃ bk : Bk, v = .tuple #[bk.cell, .int .i64 0] ∧ bk.data = st.now.getD k [] ∧ BkOk J bk ∧ 4096 ≤ bk.cap ∧ Dk J bD st ch ∧ S' = [ch, []]) ?_) ?_
  · rintro v J S' hJ ⟨a, cap, chB, rfl, hB, rfl, rfl⟩
    dsimp only at hB ⊢
    rw [hb4] at hB
    refine ⟨1, chB, rfl, fun J' hJ' hm => ⟨⟨a, cap, st.now.getD k []⟩, by rw [hb4], rfl, Rds.of_own hB hm, hB.le, h.mono hJ', rfl⟩⟩
  · rintro v J S' hJ ⟨bk, h1, h2, h3, h4, h5, rfl⟩
    exact ⟨[ch], Drop.pick [0] _ rfl, bk, h1, h2, h3, h4, h5, rfl⟩
end Go.Proofs.YtegdcjnjnoeinaaGreat
namespace Go.Proofs.YtegdcjnjnoeinaaGreat
open Go.RowKit Go.Sl
set_option maxRecDepth 20000

theorem dk_ReadDown {I : Imm} {bD : Nat} {st : DSt} {ch : List Blk} (h : Dk I bD st ch) (hdn : st.down = true) (k : Nat) (hk : k < st.now.length) :
    Tri Tryz.prog 39 #[.pointer (some ⟨bD, 0, none⟩), .int .i64 k] I [ch] fun v J S' => ∃ a cap, v = .tuple #[.slice a 0 cap, .int .i64 6] ∧ I = J ∧ S' = [ch] := by
  have hr := dk_Read h (k : Int)
  rw [read_down h.wf hdn hk] at hr
  refine Tri.drop hr ?_
  rintro v J S' hJ ⟨a, cap, chB, rfl, hB, rfl, rfl⟩
  exact ⟨[ch], Drop.pick [0] _ rfl, a, cap, rfl, rfl, rfl⟩
theorem get_data_len {d : DSt} (h : d.Wf) {k : Nat} (hk : k < d.now.length) : (d.now.getD k []).length = 4096 := by
  rw [List.getD_eq_getElem?_getD, List.getElem?_eq_getElem hk]
  exact h.now _ (List.getElem_mem _)
theorem v_found {I : Imm} {bD : Nat} {d : DSt} {chD : List Blk} (hD : Dk I bD d chD) (hlen : 64 ≤ d.now.length) :
    Tri Tryz.prog 106 #[.pointer (some ⟨bD, 0, none⟩), (layOf d.now.length).v] I [chD] fun r J S' => r = .tuple #[(foundP d).1.v, .int .i64 (foundP d).2.1, .int .i64 (foundP d).2.2] ∧ Dk J bD d chD ∧ S' = [chD] := by
  have hr := hD.wf.range
  refine Tri.drop ?_ (fun _ _ _ _ h => h)
  refine Tri.of (args := [.pointer (some ⟨bD, 0, none⟩), (layOf d.now.length).v]) tabOk Tryz.func106 rfl (by kernel_rfl) (by kernel_rfl) ?_
  conv => whnf
  intro b3
  conv => whnf
  intro b4
  unfold foundP
  by_cases hdn : d.down = true
  · rw [if_pos hdn]
    refine Tri.frame1 0 rfl (dk_ReadDown hD hdn 0 (by omega)) ?_
    rintro r _ A' hJ ⟨a, cap, rfl, rfl, rfl⟩
    refine ⟨_, rfl, ?_⟩
    repeat (first | refine LoadD.own 2 rfl _ rfl rfl ?_ | refine StoreD.st 2 rfl rfl rfl ?_ | refine CmpD.no (by decide) ?_)
    exact Done.mk ⟨_, Drop.pick [0] _ rfl, rfl, hD, rfl⟩
  rw [if_neg hdn]
  have hdn : d.down = false := by simpa using hdn
  refine Tri.frame1 0 rfl (dk_ReadK hD hdn 0 (by omega)) ?_
  rintro r J1 A' hJ1 ⟨bk0, rfl, hd0, hk0, hc0, hD1, rfl⟩
  refine ⟨_, rfl, ?_⟩
  repeat (first | refine CmpD.yes rfl ?_)
  refine Tri.frame1 0 rfl (dk_ReadK hD1 hdn 1 (by omega)) ?_
  rintro r J2 A' hJ2 ⟨bk1, rfl, hd1, hk1, hc1, hD2, rfl⟩
  refine ⟨_, rfl, ?_⟩
  repeat (first | refine CmpD.yes rfl ?_)
  refine Tri.free (replay_Choose (hk0.mono hJ2) hk1 (by omega) (by omega)) ?_
  rintro r _ _ hJ3 ⟨rfl, rfl⟩
  rw [hd0, hd1]
  generalize chooseP (getS (d.now.getD 0 [])) (getS (d.now.getD 1 [])) = cp
  obtain ⟨⟨s1, s2, s3, s4⟩, slot, ok⟩ := cp
  dsimp only
  conv => whnf
  intro b10
  repeat (first | refine StoreD.st 3 rfl rfl rfl ?_)
  refine CodeF.sched [[], [0], [0, 1], [0, 1, 2], [0, 1, 2, 3], [0, 1, 2], [0, 1, 2, 5], [0, 1, 2, 3, 4, 5, 6], [0, 1, 2, 3, 4, 5, 6, 7], [0, 1, 2, 3, 4, 5, 6, 7, 8], [0, 1, 2, 3, 4, 5, 6, 7, 8, 9], [0, 1, 2, 3, 4, 5, 6, 7, 8, 9, 10], [0, 1, 2, 3, 4, 5, 6, 7, 8, 9], [0, 1, 2, 3, 4, 5, 6, 7, 8, 9, 12], [0, 1, 2, 3, 4, 5, 6, 7, 8, 9, 10, 11, 12, 13], [0, 1, 2, 3, 4, 5, 6, 7, 8, 9, 10, 11, 12, 13, 14], [0, 1, 2, 3, 4, 5, 6, 7, 8, 9, 10, 11, 12, 13, 14, 15], [0, 1, 2, 3, 4, 5, 6, 7, 8, 9, 10, 11, 12, 13, 14, 15, 16], [0, 1, 2, 3, 4, 5, 6, 7, 8, 9, 10, 11, 12, 13, 14, 15, 16, 17], [0, 1, 2, 3, 4, 5, 6, 7, 8, 9, 10, 11, 12, 13, 14, 15, 16, 17, 18], [0, 1, 2, 3, 4, 5, 6, 7, 8, 9, 10, 11, 12, 13, 14, 15, 16, 17, 18, 19]] [0, 1, 2, 3, 4, 5, 6, 7, 8, 9, 10, 11, 12, 13, 14, 15, 16, 17, 18, 19, 20] (by kernel_rfl) ?_
  have hl7 : (layOf (d.now.length : Int)).lb = layL d.now.length := rfl
  cases ok
  · rw [if_pos (.inl rfl)]
    repeat (first | refine LoadD.own 2 rfl _ rfl rfl ?_ | refine StoreD.st 2 rfl rfl rfl ?_)
    exact Done.mk ⟨_, Drop.pick [0] _ rfl, rfl, hD2, rfl⟩
  repeat (first | refine LoadP.at 3 rfl _ rfl rfl ?_)
  refine Tri.frame1 0 rfl (dk_Size hD2) ?_
  rintro r _ A' hJ4 ⟨rfl, rfl, rfl⟩
  refine ⟨_, rfl, ?_⟩
  repeat (first | refine Chk.mk ⟨rfl, trivial⟩ ?_)
  refine CmpD.split (fun (c1 : s1 = (d.now.length : Int)) => ?_) (fun (c1 : ¬ s1 = (d.now.length : Int)) => ?_)
  rotate_left
  · rw [if_pos (.inr (.inl c1))]
    repeat (first | refine LoadD.own 2 rfl _ rfl rfl ?_ | refine StoreD.st 2 rfl rfl rfl ?_)
    exact Done.mk ⟨_, Drop.pick [0] _ rfl, rfl, hD2, rfl⟩
  repeat (first | refine LoadP.at 1 rfl _ rfl rfl ?_ | refine LoadP.at 3 rfl _ rfl rfl ?_)
  refine CmpD.split (fun (c2 : layL d.now.length ≤ s4) => ?_) (fun (c2 : ¬ layL d.now.length ≤ s4) => ?_)
  · rw [if_pos (.inr (.inr (.inl c2)))]
    repeat (first | refine LoadD.own 2 rfl _ rfl rfl ?_ | refine StoreD.st 2 rfl rfl rfl ?_)
    exact Done.mk ⟨_, Drop.pick [0] _ rfl, rfl, hD2, rfl⟩
  repeat (first | refine LoadP.at 3 rfl _ rfl rfl ?_)
  refine CmpD.split (fun (c3 : 8388608 ≤ s2) => ?_) (fun (c3 : ¬ 8388608 ≤ s2) => ?_)
  · rw [if_pos (.inr (.inr (.inr c3)))]
    repeat (first | refine LoadD.own 2 rfl _ rfl rfl ?_ | refine StoreD.st 2 rfl rfl rfl ?_)
    exact Done.mk ⟨_, Drop.pick [0] _ rfl, rfl, hD2, rfl⟩
  rw [if_neg (by rintro (h | h | h | h); exact Bool.noConfusion h; exact h c1; exact c2 h; exact c3 h)]
  repeat (first | refine LoadD.own 2 rfl _ rfl rfl ?_ | refine LoadD.own 3 rfl _ rfl rfl ?_ | refine StoreD.st 2 rfl rfl rfl ?_)
  exact Done.mk ⟨_, Drop.pick [0] _ rfl, rfl, hD2, rfl⟩
end Go.Proofs.YtegdcjnjnoeinaaGreat
namespace Go.Proofs.YtegdcjnjnoeinaaGreat
open Go.RowKit Go.Sl
set_option maxRecDepth 20000

theorem rel_lay (j : JSt) (q : Int) : (j.release q).1.lay = j.lay := by
  unfold JSt.release
  split
  · rfl
  · split <;> rfl
theorem ckS_lay (v : VSt) (d : DSt) : (v.ckS d).2.1.lay = v.j.lay := by
  unfold VSt.ckS
  split
  · exact flush_lay _ _
  · split
    · exact flush_lay _ _
    · show (JSt.release _ _).1.lay = _
      rw [rel_lay, flush_lay]
theorem jflush_few {j : JSt} {d : DSt} {k : Nat} (h : d.Few k) : (j.flush d).2.1.Few k := by
  unfold JSt.flush
  split
  · exact h
  · split <;> exact h.flush
theorem ck1 {I : Imm} {bV bD bJ bM b1 b4 b8 : Nat} {x : Lay} {ep sl : Int} {br : Bool} {d : DSt} {chD : List Blk} (hD : Dk I bD d chD) (hf : d.Few 800000) (aI : Option Addr) (capI : Nat) (outs : List Img) (hi : ImgsOk I aI outs) (hol : outs.length ≤ 1000) (s : Sup) :
    Tri Tryz.prog 92 #[.pointer (some ⟨b1, 0, none⟩), .pointer (some ⟨b4, 0, none⟩), .pointer (some ⟨b8, 0, none⟩)] I [vChunk bV bD bJ bM x ep sl br, pBox b1 (.pointer (some ⟨bV, 0, none⟩)) 23, pBox b4 (.slice aI outs.length capI) 26, [(b8, row [.int .i64 s.blocks, .int .i64 s.epoch, .int .i64 s.seq, .int .i64 s.tail] 143)], chD]
      fun r J S' => r = .int .i64 (doP d (outs.map Img.pr) s sl).2 ∧ ∃ chD', Dk J bD (doP d (outs.map Img.pr) s sl).1 chD' ∧ S' = [vChunk bV bD bJ bM x ep sl br, pBox b1 (.pointer (some ⟨bV, 0, none⟩)) 23, pBox b4 (.slice aI outs.length capI) 26, [(b8, row [.int .i64 s.blocks, .int .i64 s.epoch, .int .i64 s.seq, .int .i64 s.tail] 143)], chD'] := by
  obtain ⟨l1, l2, l3, l4, l5, l6, l7⟩ := x
  refine Tri.of (args := [.pointer (some ⟨b1, 0, none⟩), .pointer (some ⟨b4, 0, none⟩), .pointer (some ⟨b8, 0, none⟩)]) tabOk Tryz.func92 rfl (by kernel_rfl) (by kernel_rfl) ?_
  refine CodeF.sched [[], [0], [0, 1], [0, 1, 2], [], [], [], [6], [6, 7], [6, 7, 8], [0, 1, 2, 3, 4, 5, 6, 7, 8, 9], [0, 1, 2, 3, 4, 5, 6, 7, 8, 9, 10]] [0, 1, 2, 3, 4, 5, 6, 7, 8, 9, 10, 11] (by kernel_rfl) ?_
  repeat (first | refine LoadP.at 0 rfl _ rfl rfl ?_ | refine LoadP.at 1 rfl _ rfl rfl ?_ | refine LoadP.at 2 rfl _ rfl rfl ?_ | refine LoadP.at 3 rfl _ rfl rfl ?_)
  refine Tri.frame1 4 rfl (dk_Do hD 800000 hf aI capI outs hi (by omega) s sl) ?_
  rintro r J A' hJ ⟨rfl, chD2, hD2, rfl⟩
  refine ⟨_, rfl, ?_⟩
  exact Done.mk ⟨rfl, chD2, hD2, rfl⟩
theorem ck2 {I : Imm} {bV bD bJ bM b1 : Nat} {x : Lay} {ep sl : Int} {br : Bool} {j : JSt} {chJ : List Blk} (hj : Jk bJ bD j chJ) (hw : j.Wf) :
    Tri Tryz.prog 94 #[.pointer (some ⟨b1, 0, none⟩)] I [vChunk bV bD bJ bM x ep sl br, pBox b1 (.pointer (some ⟨bV, 0, none⟩)) 23, chJ]
      fun r J S' => I = J ∧ r = .int .i64 (j.release j.synced).2 ∧ ∃ chJ', Jk bJ bD (j.release j.synced).1 chJ' ∧ S' = [vChunk bV bD bJ bM x ep sl br, pBox b1 (.pointer (some ⟨bV, 0, none⟩)) 23, chJ'] := by
  obtain ⟨l1, l2, l3, l4, l5, l6, l7⟩ := x
  refine Tri.of (args := [.pointer (some ⟨b1, 0, none⟩)]) tabOk Tryz.func94 rfl (by kernel_rfl) (by kernel_rfl) ?_
  refine CodeF.sched [[], [0], [0, 1], [0, 1, 2], [], [4], [4, 5], [4, 5, 6], [4, 5, 6, 7], [0, 1, 2, 3, 4, 5, 6, 7, 8], [0, 1, 2, 3, 4, 5, 6, 7, 8, 9]] [0, 1, 2, 3, 4, 5, 6, 7, 8, 9, 10] (by kernel_rfl) ?_
  repeat (first | refine LoadP.at 0 rfl _ rfl rfl ?_ | refine LoadP.at 1 rfl _ rfl rfl ?_)
  refine Tri.frame1 2 rfl (jk_Synced hj I) ?_
  rintro r _ A' hJ ⟨rfl, rfl, rfl⟩
  refine ⟨_, rfl, ?_⟩
  repeat (first | refine Chk.mk ⟨rfl, rfl, trivial⟩ ?_)
  refine Tri.frame1 2 rfl (jk_Release hj hw j.synced I) ?_
  rintro r _ A' hJ ⟨rfl, rfl, chJ2, hj2, rfl⟩
  refine ⟨_, rfl, ?_⟩
  skip
  exact Done.mk ⟨rfl, rfl, chJ2, hj2, rfl⟩
set_option maxHeartbeats 8000000 in
theorem vk_Checkpoint {bV bD : Nat} {v : VSt} {ch : List Blk} {I : Imm} (h : Vk I bV bD v ch) (hw : v.j.Wf) (hsl : 0 ≤ v.slot ∧ v.slot ≤ 1) (hfr : v.fresh.length ≤ 1000) {d : DSt} {chD : List Blk} (hD : Dk I bD d chD) (hf : d.Few 800000) :
    Tri Tryz.prog 24 #[.pointer (some ⟨bV, 0, none⟩)] I [ch, chD] fun r J S' => r = .int .i64 (v.ckpt d).2.2 ∧ ∃ ch' chD', Vk J bV bD (v.ckpt d).1 ch' ∧ Dk J bD (v.ckpt d).2.1 chD' ∧ S' = [ch', chD'] := by
  have h0 := h
  obtain ⟨bJ, bM, ob, chJ, gs, rfl, hj, hM, hg, hp⟩ := h
  have hgl : gs.length ≤ 1000 := by rw [← hp, List.length_map] at hfr; exact hfr
  refine Tri.lay (S2 := [vChunk bV bD bJ bM v.j.lay v.epoch v.slot v.broken, [(bM, ob)], chJ, chD]) (vk_lay2 ..) ?_
  refine Tri.drop ?_ (fun _ _ _ _ h => h)
  refine Tri.of (args := [.pointer (some ⟨bV, 0, none⟩)]) tabOk Tryz.func24 rfl (by kernel_rfl) (by kernel_rfl) ?_
  conv => whnf
  intro b1
  repeat (first | refine LoadD.own 4 rfl _ rfl rfl ?_)
  refine Tri.nf (v_wrong bV bD bJ bM _ _ _ _ I _ 0 rfl) ?_
  rintro r _ _ hJ ⟨rfl, rfl, rfl⟩
  cases hb : v.broken
  rotate_left
  · repeat (first | refine CmpD.no (by decide) ?_)
    unfold VSt.ckpt
    rw [if_pos hb]
    exact Done.mk ⟨_, (Drop.pick [0, 1, 2, 3] _ rfl).trans (Drop.flat (by simp [St.at, hb])), rfl, _, chD, h0, hD, rfl⟩
  repeat (first | refine CmpD.yes rfl ?_)
  conv => whnf
  intro b4
  repeat (first | refine LoadD.own 0 rfl _ rfl rfl ?_ | refine LoadD.own 4 rfl _ rfl rfl ?_)
  refine Tri.nf (keys_of bM I _) ?_
  rintro r _ S' hJ2 ⟨bk, rfl, rfl, rfl⟩
  refine Tri.frameX (sorted_keys bk bM ob (gs.map hdr) hM (by rw [List.length_map]; omega) I) [6, 1] rfl rfl ?_
  rintro r JK A' hJK ⟨aK, capK, chK, rfl, hK, hleK, rfl⟩
  rw [List.length_map] at hK ⊢
  have hkl : (keysOf (gs.map hdr)).length = gs.length := by rw [keysOf_length, List.length_map]
  have hkm : ∀ n ∈ keysOf (gs.map hdr), n ∈ gs.map Img.blk := by
    intro n hn
    unfold keysOf at hn
    have := (sortI_perm _).mem_iff.1 hn
    rw [List.map_map] at this; exact this
  have hkf : keysOf (gs.map hdr) = sortI (v.fresh.map Prod.fst) := by
    unfold keysOf
    rw [← hp, List.map_map, List.map_map]; rfl
  obtain ⟨KS, hKS⟩ : ∃ KS, KS = keysOf (gs.map hdr) := ⟨_, rfl⟩
  rw [← hKS] at hK hkl hkm hkf
  obtain ⟨n, hn⟩ : ∃ n, n = gs.length := ⟨_, rfl⟩
  rw [← hn] at hK hkl hgl ⊢
  have hg := fun g hgm => (hg g hgm).mono hJK
  have hD := hD.mono hJK
  refine CodeF.loopD [1, 4, 20, 21, 22] (fun vs J' S' => ∃ (k : Nat) (aI : Option Addr) (capI : Nat) (chI : List Blk) (outs : List Img), k ≤ n ∧ outs.length = k ∧ OwnC chI 2 aI k capI (imgCells outs) ∧ (∀ g ∈ outs, ImgOk JK g) ∧ outs.map Img.pr = (KS.take k).map (fun n => (n, (v.fresh.lookup n).getD [])) ∧
      vs = [.pointer (some ⟨b1, 0, none⟩), .pointer (some ⟨b4, 0, none⟩), .slice aK n capK, .int .i64 n, .int .i64 k] ∧ JK = J' ∧ S' = [vChunk bV bD bJ bM v.j.lay v.epoch v.slot false, chJ, chD, pBox b1 (.pointer (some ⟨bV, 0, none⟩)) 23, pBox b4 (.slice aI k capI) 26, [(bM, ob)], chK, chI])
    (fun vs _ _ => match vs with | [_, _, _, _, .int _ k] => ((n : Int) - k).toNat | _ => 0) ?_ ?_
  · exact ⟨_, Drop.and (Drop.pick [0, 2, 3, 4, 5, 7, 8] _ rfl), 0, none, 0, [], [], by omega, rfl, OwnC.nil _ _, by simp, rfl, rfl, rfl, rfl⟩
  rintro vs gE J' S' hJ' ⟨k, aI, capI, chI, outs, hk, hol, hO, hoI, hpr, rfl, rfl, rfl⟩
  refine CmpD.split (fun (c3 : (k : Int) < n) => ?_) (fun (c3 : ¬ (k : Int) < n) => ?_)
  · have hkK : k < KS.length := by omega
    have htk : KS.take (k + 1) = KS.take k ++ [KS[k]] := by rw [List.take_add_one, List.getElem?_eq_getElem hkK]; rfl
    obtain ⟨g, hgm, hgb, hget, hlk⟩ := lookup_both gs KS[k] (hkm _ (List.getElem_mem hkK))
    rw [hp] at hlk
    have hgR := hg g hgm
    have hcell : (ints KS)[k]? = some (.int .i64 KS[k]) := ints_get (List.getElem?_eq_getElem hkK)
    generalize hnk : KS[k] = m at *
    rcases hK.at' with q0 | ⟨bK, pre, post, TK, rfl, rfl, hpost⟩
    · have := hK.le; omega
    refine Chk.mk (by omega) ?_
    refine LoadD.own 6 rfl [.int .i64 m] (take_get (own_take pre (ints KS) post) hcell) rfl ?_
    refine CodeF.sched [[], [], [], [2], [2, 3], [2, 3, 4], [], [2, 3, 4, 5, 6], [1, 2, 3, 4, 5, 6, 7], [1, 2, 3, 4, 5, 6, 7, 8], [0, 1, 2, 3, 4, 5, 6, 7, 8, 9], [0, 1, 2, 3, 4, 5, 6, 7, 8, 9, 10]] [0, 1, 2, 3, 4, 5, 6, 7, 8, 9, 10, 11] (by kernel_rfl) ?_
    repeat (first | refine LoadP.at 0 rfl _ rfl rfl ?_ | refine LoadP.at 3 rfl _ rfl rfl ?_ | refine LoadP.at 4 rfl _ rfl rfl ?_)
    refine lookupD tabOk rfl rfl rfl rfl rfl rfl 5 rfl hM ?_
    rw [hget]
    repeat (first | refine Chk.mk ⟨rfl, trivial⟩ ?_)
    conv => whnf
    intro bN
    repeat (first | refine Chk.mk ⟨rfl, trivial⟩ ?_)
    refine appendD tabOk rfl rfl rfl rfl rfl rfl rfl 7 rfl hO (SrcOk.slice (n := 1) (news := imgCells [⟨m, g.a, g.len, g.cap, g.data⟩]) tabOk rfl ((OwnC.whole (len := 1) (size := 2) rfl).slC 8 rfl) (by intro v hv; simp [imgCells] at hv; rcases hv with rfl | rfl <;> rfl)) rfl (by show (k + 1) * 32 ≤ _; omega) (by omega) ?_
    intro a2 cap2 ch2 hO2
    repeat (first | refine StoreD.st 4 rfl rfl rfl ?_)
    refine ToD.i64 (by omega) (by omega) ?_
    refine ⟨_, Drop.pick [0, 1, 2, 3, 4, 5, 6, 7] _ rfl, ⟨k + 1, a2, cap2, ch2, outs ++ [⟨m, g.a, g.len, g.cap, g.data⟩], by omega, by simp [hol], by rw [imgCells_snoc]; exact hO2, ?_, ?_, rfl, rfl, rfl⟩, ?_⟩
    · intro y hy
      rcases List.mem_append.1 hy with hy | hy
      · exact hoI y hy
      · simp only [List.mem_singleton] at hy
        subst hy
        rw [← hgb]
        exact hgR
    · rw [htk, List.map_append, List.map_append, hpr]
      simp [hlk]
    · show ((n : Int) - ((k : Int) + 1)).toNat < ((n : Int) - (k : Int)).toNat; omega
  obtain rfl : k = n := by omega
  rw [List.take_of_length_le (by omega), hkf] at hpr
  have hpr : outs.map Img.pr = sortP v.fresh := hpr
  repeat (first | refine LoadD.own 0 rfl _ rfl rfl ?_ | refine LoadD.own 3 rfl _ rfl rfl ?_)
  have hring := hw.ring
  unfold Ok at hring
  refine Tri.frame1 1 rfl (jk_Ring hj JK) ?_
  rintro r _ A' hJ3 ⟨rfl, rfl, rfl⟩
  refine ⟨_, rfl, ?_⟩
  conv => whnf
  intro b7
  refine StoreD.st 8 rfl rfl rfl ?_
  refine CodeF.cutD [1, 4, 8] (fun vs J' S' => ∃ b8, JK = J' ∧ vs = [.pointer (some ⟨b1, 0, none⟩), .pointer (some ⟨b4, 0, none⟩), .pointer (some ⟨b8, 0, none⟩)] ∧
      S' = [vChunk bV bD bJ bM v.j.lay v.epoch v.slot false, chJ, chD, pBox b1 (.pointer (some ⟨bV, 0, none⟩)) 23, pBox b4 (.slice aI k capI) 26, [(bM, ob)], chI, [(b8, row [.int .i64 v.sup.blocks, .int .i64 v.sup.epoch, .int .i64 v.sup.seq, .int .i64 v.sup.tail] 143)]]) ?_ ?_
  · refine CodeF.schedT [[], [0], [0, 1], [0, 1, 2], [0, 1, 2, 3], [], [5], [5, 6], [5, 6, 7], [], [9], [9, 10], [9, 10, 11], [9, 10, 11, 12], [], [14], [], [16], [14, 15, 16, 17], [], [19], [14, 15, 16, 17, 18, 19, 20], [0, 1, 2, 3, 4, 5, 6, 7, 8, 9, 10, 11, 12, 13, 14, 15, 16, 17, 18, 19, 20, 21], [], [0, 1, 2, 3, 4, 5, 6, 7, 8, 9, 10, 11, 12, 13, 14, 15, 16, 17, 18, 19, 20, 21, 22, 23]] (.rd 0 (.rd 1 (.rd 2 (.rd 3 (.rd 4 (.rd 5 (.rd 6 (.rd 7 (.rd 8 (.rd 9 (.rd 10 (.rd 11 (.rd 12 (.rd 14 (.rd 15 (.rd 16 (.rd 17 (.rd 18 (.rd 19 (.rd 20 (.rd 21 (.alt (.ef 13 (.rd 22 (.ef 23 (.ef 24 .nil)))) (.ef 23 (.ef 13 (.rd 22 (.ef 24 .nil)))))))))))))))))))))))))) (by kernel_rfl) ?_
    repeat (first | refine LoadP.at 0 rfl _ rfl rfl ?_ | refine LoadP.at 3 rfl _ rfl rfl ?_ | refine LoadP.at 8 rfl _ rfl rfl ?_)
    refine ToD.to (v.j.t + v.j.u) (wrap_i64 (by omega) (by omega)) ?_
    repeat (first | refine LoadP.at 8 rfl _ rfl rfl ?_)
    refine Chk.mk (by show v.j.s ≠ 0; omega) ?_
    refine ToD.to ((v.j.t + v.j.u) % v.j.s) (Int.tmod_eq_emod_of_nonneg (by omega)) ?_
    have fin : ∀ b8, ∃ S0, Drop [vChunk bV bD bJ bM v.j.lay v.epoch v.slot false, chJ, chD, pBox b1 (.pointer (some ⟨bV, 0, none⟩)) 23, pBox b4 (.slice aI k capI) 26, [(bM, ob)], chK, chI, [(b7, row [.int .i64 v.j.s, .int .i64 v.j.t, .int .i64 v.j.u, .int .i64 v.j.h] 83)], [(b8, row [.int .i64 v.j.lay.b, .int .i64 v.epoch, .int .i64 v.j.next, .int .i64 ((v.j.t + v.j.u) % v.j.s)] 143)]] S0 ∧ ∃ b, JK = JK ∧ [Value.pointer (some ⟨b1, 0, none⟩), .pointer (some ⟨b4, 0, none⟩), .pointer (some ⟨b8, 0, none⟩)] = [.pointer (some ⟨b1, 0, none⟩), .pointer (some ⟨b4, 0, none⟩), .pointer (some ⟨b, 0, none⟩)] ∧
        S0 = [vChunk bV bD bJ bM v.j.lay v.epoch v.slot false, chJ, chD, pBox b1 (.pointer (some ⟨bV, 0, none⟩)) 23, pBox b4 (.slice aI k capI) 26, [(bM, ob)], chI, [(b, row [.int .i64 v.sup.blocks, .int .i64 v.sup.epoch, .int .i64 v.sup.seq, .int .i64 v.sup.tail] 143)]] :=
      fun b8 => ⟨_, Drop.pick [0, 1, 2, 3, 4, 5, 7, 9] _ rfl, b8, rfl, rfl, rfl⟩
    refine And.intro ?_ ?_
    · skip
      refine Tri.frame1 1 rfl (jk_Next hj JK) ?_
      rintro r _ A' hJ4 ⟨rfl, rfl, rfl⟩
      refine ⟨_, rfl, ?_⟩
      repeat (first | refine Chk.mk ⟨rfl, rfl, rfl, rfl, rfl, rfl, rfl, trivial⟩ ?_)
      conv => whnf
      intro b8
      repeat (first | refine StoreD.st 9 rfl rfl rfl ?_ | refine Chk.mk ⟨rfl, rfl, rfl, rfl, rfl, rfl, rfl, rfl, rfl, trivial⟩ ?_)
      exact fin b8
    · skip
      conv => whnf
      intro b8
      repeat (first | refine Chk.mk ⟨rfl, rfl, rfl, rfl, rfl, rfl, rfl, rfl, rfl, trivial⟩ ?_)
      refine Tri.frame1 1 rfl (jk_Next hj JK) ?_
      rintro r _ A' hJ4 ⟨rfl, rfl, rfl⟩
      refine ⟨_, rfl, ?_⟩
      repeat (first | refine StoreD.st 9 rfl rfl rfl ?_ | refine Chk.mk ⟨rfl, rfl, rfl, rfl, rfl, rfl, rfl, trivial⟩ ?_)
      exact fin b8
  rintro vs gE2 J2 S2 hJ2 ⟨b8, rfl, rfl, rfl⟩
  repeat (first | refine LoadD.own 0 rfl _ rfl rfl ?_ | refine LoadD.own 3 rfl _ rfl rfl ?_)
  conv => whnf
  intro bS
  refine Tri.fix 6 (ch := chI) rfl fun I5 hI5 hIm => ?_
  refine Tri.fix 8 rfl fun I6 hI6 hSm => ?_
  have hfs : Rds I6 (some ⟨bS, 0, none⟩) 3 [.func (.func 88) #[.pointer (some ⟨bJ, 0, none⟩)] #[], .func (.func 92) #[] #[.pointer (some ⟨b1, 0, none⟩), .pointer (some ⟨b4, 0, none⟩), .pointer (some ⟨b8, 0, none⟩)], .func (.func 94) #[] #[.pointer (some ⟨b1, 0, none⟩)]] :=
    ⟨rfl, .inr ⟨bS, 0, _, _, _, rfl, hSm _ (List.mem_singleton.2 rfl), rfl⟩⟩
  have hI56 := Imm.le_trans hI5 hI6
  have himg : ImgsOk I6 aI outs := ⟨by rw [hol]; exact (Rds.of_ownS hO hIm).mono hI6, fun g hgm => (hoI g hgm).mono hI56⟩
  have hD := hD.mono hI56
  have hg := fun g hgm => (hg g hgm).mono hI56
  refine (vol_first (K := fun r J S' => ∃ chJ2 chD2, r = .int .i64 (v.ckS d).1 ∧ Jk bJ bD (v.ckS d).2.1 chJ2 ∧ Dk J bD (v.ckS d).2.2 chD2 ∧ S' = [vChunk bV bD bJ bM v.j.lay v.epoch v.slot false, chJ2, chD2, pBox b1 (.pointer (some ⟨bV, 0, none⟩)) 23, pBox b4 (.slice aI k capI) 26, [(bM, ob)], [], [(b8, row [.int .i64 v.sup.blocks, .int .i64 v.sup.epoch, .int .i64 v.sup.seq, .int .i64 v.sup.tail] 143)], []]) (some ⟨bS, 0, none⟩) 3 3 _ (by omega) hfs ?_).mono ?_
  · refine ⟨_, [.pointer (some ⟨bJ, 0, none⟩)], [], rfl, ?_⟩
    refine Tri.frame (jk_Flush hj hw hD) [1, 2] rfl rfl ?_
    have hfl := jflush_few (j := v.j) hf
    have hjw := hw.flush d
    unfold VSt.ckS
    rintro r J3 A' hJ3 ⟨rfl, chJ2, chD2, hj2, hD2, rfl⟩
    refine ⟨Nat.le_refl _, ?_⟩
    refine ⟨_, rfl, fun he => ?_, fun he => ?_⟩
    · rw [if_pos he]
      exact ⟨chJ2, chD2, rfl, hj2, hD2, rfl⟩
    rw [if_neg (by simpa using he)]
    refine ⟨_, [], [.pointer (some ⟨b1, 0, none⟩), .pointer (some ⟨b4, 0, none⟩), .pointer (some ⟨b8, 0, none⟩)], rfl, ?_⟩
    rw [← hol]
    refine Tri.frame (ck1 hD2 hfl aI capI outs (himg.mono hJ3) (by omega) v.sup) [0, 3, 4, 7, 2] rfl rfl ?_
    rw [hpr]
    rintro r J4 A' hJ4 ⟨rfl, chD3, hD3, rfl⟩
    refine ⟨Nat.le_refl _, ?_⟩
    refine ⟨_, rfl, fun he2 => ?_, fun he2 => ?_⟩
    · rw [if_pos he2]
      exact ⟨chJ2, chD3, rfl, hj2, hD3, rfl⟩
    rw [if_neg (by simpa using he2)]
    refine ⟨_, [], [.pointer (some ⟨b1, 0, none⟩)], rfl, ?_⟩
    refine Tri.frame (ck2 hj2 hjw) [0, 3, 1] rfl rfl ?_
    rintro r _ A' hJ5 ⟨rfl, rfl, chJ3, hj3, rfl⟩
    refine ⟨Nat.le_refl _, ?_⟩
    refine ⟨_, rfl, fun he3 => ?_, fun he3 => ?_⟩
    · exact ⟨chJ3, chD3, rfl, hj3, hD3, rfl⟩
    · refine ⟨chJ3, chD3, ?_, hj3, hD3, rfl⟩
      show Value.int .i64 0 = .int .i64 _
      rw [he3]
  rintro r J7 S7 hJ7 ⟨chJ2, chD2, rfl, hj2, hD2, rfl⟩
  have hlay := ckS_lay v d
  have hg7 := fun g hgm => (hg g hgm).mono hJ7
  repeat (first | refine LoadD.own 3 rfl _ rfl rfl ?_)
  refine Tri.frame1 0 rfl (v_did bV bD bJ bM v.j.lay v.epoch v.slot false J7 (v.ckS d).1) ?_
  rintro r _ A' hJ8 ⟨rfl, rfl, rfl⟩
  refine ⟨_, rfl, ?_⟩
  unfold VSt.ckpt
  rw [if_neg (by rw [hb]; simp)]
  refine CmpD.split (fun c4 => ?_) (fun c4 => ?_)
  · have c4 : (v.ckS d).1 = 0 := c4
    rw [if_neg (by rw [c4]; simp)]
    refine CodeF.sched [[], [], [1], [1, 2], [1, 2, 3], [1, 2, 3, 4], [0, 1, 2, 3, 4, 5], [0, 1, 2, 3, 4, 5, 6], [0, 1, 2, 3, 4, 5, 6, 7]] [0, 1, 2, 3, 4, 5, 6, 7, 8] (by kernel_rfl) ?_
    repeat (first | refine LoadP.at 0 rfl _ rfl rfl ?_ | refine LoadP.at 3 rfl _ rfl rfl ?_)
    refine ToD.to (1 - v.slot) (wrap_i64 (by omega) (by omega)) ?_
    repeat (first | refine LoadD.own 0 rfl _ rfl rfl ?_ | refine LoadD.own 3 rfl _ rfl rfl ?_ | refine StoreD.st 0 rfl rfl rfl ?_)
    refine clearMapD tabOk rfl rfl rfl rfl rfl rfl 5 rfl hM ?_
    intro ob' hM'
    refine Done.mk ⟨[vChunk bV bD bJ bM v.j.lay v.epoch (1 - v.slot) v.broken ++ ((bM, ob') :: chJ2), chD2], (Drop.pick [0, 5, 1, 2] _ rfl).trans (Drop.flat ?_), rfl, _, chD2, ⟨bJ, bM, ob', chJ2, [], by rw [hlay], hj2, hM', by simp, rfl⟩, hD2, rfl⟩
    rw [hb, c4]
    simp [St.at]
    rfl
  · have c4 : (v.ckS d).1 ≠ 0 := c4
    rw [if_pos c4]
    skip
    refine Done.mk ⟨[vChunk bV bD bJ bM v.j.lay v.epoch v.slot true ++ ((bM, ob) :: chJ2), chD2], (Drop.pick [0, 5, 1, 2] _ rfl).trans (Drop.flat ?_), rfl, _, chD2, ⟨bJ, bM, ob, chJ2, gs, by rw [hlay], hj2, hM, hg7, hp⟩, hD2, rfl⟩
    rw [decide_eq_true c4]
    simp [St.at]
end Go.Proofs.YtegdcjnjnoeinaaGreat
namespace Go.Proofs.YtegdcjnjnoeinaaGreat
open Go.RowKit Go.Sl
set_option maxRecDepth 20000

set_option maxHeartbeats 4000000 in
theorem r10_Home {I : Imm} {aG : Option Addr} {capG : Nat} {l : List Grp} (hG : GrpsR I [] aG l) (hl : l.length ≤ 1000000) (hall : (allI l).length ≤ 1000000) (hfew : ∀ g ∈ allI l, g.len ≤ 100000000) (x : Lay) :
    Tri Tryz.prog 118 #[x.v, .slice aG l.length capG] I [] fun v J _ =>
      ((¬ LayOk x ∧ v = .tuple #[.slice none 0 0, .int .i64 2]) ∨
       (LayOk x ∧ ¬ HomeOk x (allP l) ∧ v = .tuple #[.slice none 0 0, .int .i64 90]) ∨
       (LayOk x ∧ HomeOk x (allP l) ∧ ∃ (aO : Option Addr) (capO : Nat) (outs : List Img), v = .tuple #[.slice aO outs.length capO, .int .i64 0] ∧ ImgsOk J aO outs ∧ outs.map Img.pr = homeP (allP l))) := by
  refine Tri.fixed (Q := fun v J S' => ∃ chO, S' = [chO] ∧
      ((¬ LayOk x ∧ v = .tuple #[.slice none 0 0, .int .i64 2]) ∨
       (LayOk x ∧ ¬ HomeOk x (allP l) ∧ v = .tuple #[.slice none 0 0, .int .i64 90]) ∨
       (LayOk x ∧ HomeOk x (allP l) ∧ ∃ (aO : Option Addr) (capO : Nat) (outs : List Img), v = .tuple #[.slice aO outs.length capO, .int .i64 0] ∧ OwnC chO 2 aO outs.length capO (imgCells outs) ∧ (∀ g ∈ outs, ImgOk J g) ∧ outs.map Img.pr = homeP (allP l)))) ?_ ?_
  rotate_left
  · rintro v J S' hJ ⟨chO, rfl, h⟩
    refine ⟨0, chO, rfl, fun J' hJ' hm => ?_⟩
    rcases h with ⟨h1, rfl⟩ | ⟨h1, h2, rfl⟩ | ⟨h1, h2, aO, capO, outs, rfl, hO, hok, hpr⟩
    · exact .inl ⟨h1, rfl⟩
    · exact .inr (.inl ⟨h1, h2, rfl⟩)
    · exact .inr (.inr ⟨h1, h2, aO, capO, outs, rfl, ⟨Rds.of_ownS hO hm, fun g hg => (hok g hg).mono hJ'⟩, hpr⟩)
  refine Tri.lay (S2 := [[]]) (by simp) ?_
  refine Tri.drop ?_ (fun _ _ _ _ h => h)
  have hsl := hG.sl.rds
  refine Tri.of (args := [x.v, .slice aG l.length capG]) tabOk Tryz.func118 rfl (by kernel_rfl) (by kernel_rfl) ?_
  conv => whnf
  intro b2
  repeat (first | refine LoadD.own 1 rfl _ rfl rfl ?_)
  refine Tri.free (r5_Right x I) ?_
  rintro v J _ hJ ⟨rfl, br, rfl, hbr⟩
  cases br
  · skip
    exact Done.mk ⟨[[]], Drop.pick [0] _ rfl, [], rfl, .inl ⟨fun h => by simpa using hbr.2 h, rfl⟩⟩
  have hX := hbr.1 rfl
  have hXb : (64 ≤ x.b ∧ x.b ≤ 512) ∧ x.bi = 2 + layL x.b := by
    refine ⟨⟨hX.1, hX.2.1⟩, ?_⟩
    have hq := hX.2.2
    have hxb : ((x.b.toNat : Nat) : Int) = x.b := by have := hX.1; omega
    have hq2 := congrArg Lay.bi hq
    rw [hq2]; show 2 + layL ((x.b.toNat : Nat) : Int) = _; rw [hxb]
  have hL := layL_range hXb.1
  skip
  refine CodeF.loopD [1, 2, 6, 7] (fun vs J' S' => ∃ (i : Nat) (aA : Option Addr) (capA : Nat) (chA : List Blk), i ≤ l.length ∧ OwnC chA 2 aA (allI (l.take i)).length capA (imgCells (allI (l.take i))) ∧ vs = [.slice aG l.length capG, .pointer (some ⟨b2, 0, none⟩), .slice aA (allI (l.take i)).length capA, .int .i64 i] ∧ I = J' ∧ S' = [chA, layBox b2 x])
    (fun vs _ _ => match vs with | [_, _, _, .int _ i] => ((l.length : Int) - i).toNat | _ => 0) ?_ ?_
  · exact ⟨_, Drop.pick [0, 1] _ rfl, 0, none, 0, [], by omega, OwnC.nil 2 none, rfl, rfl, rfl⟩
  rintro vs gE J' S' hJ' ⟨i, aA, capA, chA, hi, hA, rfl, rfl, rfl⟩
  have hpl : ∀ gs : List Img, ∀ u ∈ imgCells gs, Plain u = true := by
    intro gs u hu
    unfold imgCells at hu
    obtain ⟨g, _, h⟩ := List.mem_flatMap.1 hu
    simp only [List.mem_cons, List.not_mem_nil, or_false] at h
    rcases h with rfl | rfl <;> rfl
  refine CmpD.split (fun c1 => ?_) (fun c1 => ?_)
  · have hlt : i < l.length := by omega
    have hg := hG.each _ (List.getElem_mem hlt)
    have htk := allI_take l i hlt
    have hlen : (allI (l.take (i + 1))).length ≤ (allI l).length := by
      have e : allI l = allI (l.take (i + 1)) ++ allI (l.drop (i + 1)) := by unfold allI; rw [← List.flatMap_append, List.take_append_drop]
      rw [e, List.length_append]; omega
    rcases hsl.mem with q0 | ⟨bg, off, cg, Tg, fg, rfl, hIg, hcg⟩
    · omega
    have hcell := take_part hcg (i := i * 3) (m := 3) (by omega)
    rw [grpCells_at hlt] at hcell
    have hcell2 : (cg.drop (off + i * 3 + 2)).take 1 = [.slice l[i].a l[i].gs.length l[i].cap] := take_part hcell (i := 2) (m := 1) (by omega)
    generalize hgi : l[i] = gi at *
    rw [htk, List.length_append] at hlen
    refine Chk.mk (by omega) ?_
    refine LoadD.imm hIg [.slice gi.a gi.gs.length gi.cap] hcell2 rfl ?_
    refine appendD tabOk rfl rfl rfl rfl rfl rfl rfl 0 rfl hA (SrcOk.slice (n := gi.gs.length) (news := imgCells gi.gs) tabOk rfl (hg.1.sl.rds.slC) (hpl _)) rfl (by show ((allI (l.take i)).length + gi.gs.length) * 32 ≤ _; omega) (by omega) ?_
    intro a2 cap2 ch2 hO2
    refine ToD.i64 (by omega) (by omega) ?_
    refine ⟨_, Drop.pick [0, 1] _ rfl, ⟨i + 1, a2, cap2, ch2, by omega, ?_, ?_, rfl, rfl⟩, ?_⟩
    · rw [htk, List.length_append]; unfold imgCells; rw [List.flatMap_append]; exact hO2
    · rw [htk, List.length_append]; rfl
    · show ((l.length : Int) - ((i : Int) + 1)).toNat < ((l.length : Int) - i).toNat; omega
  obtain rfl : i = l.length := by omega
  rw [List.take_length] at hA ⊢
  obtain ⟨A, hAe⟩ : ∃ A, A = allI l := ⟨_, rfl⟩
  rw [← hAe] at hA hall hfew ⊢
  have hAp : allP l = A.map Img.pr := by rw [allP_eq, hAe]
  have hAr : ∀ g ∈ A, Rds I g.a g.len (bts g.data) := by
    intro g hg
    rw [hAe] at hg
    unfold allI at hg
    obtain ⟨gr, hgr, hgg⟩ := List.mem_flatMap.1 hg
    exact ((hG.each gr hgr).1.each g hgg).rd.rds
  rw [hAp]
  clear hAe
  refine CodeF.loopD [2, 6, 8] (fun vs J' S' => ∃ i : Nat, i ≤ A.length ∧ HomeOk x ((A.take i).map Img.pr) ∧ vs = [.pointer (some ⟨b2, 0, none⟩), .slice aA A.length capA, .int .i64 i] ∧ I = J' ∧ S' = [chA, layBox b2 x])
    (fun vs _ _ => match vs with | [_, _, .int _ i] => ((A.length : Int) - i).toNat | _ => 0) ?_ ?_
  · exact ⟨_, Drop.pick [0, 1] _ rfl, 0, by omega, by intro g hg; simp at hg, rfl, rfl, rfl⟩
  · rintro vs gE2 J2 S2 hJ2 ⟨i, hi2, hok, rfl, rfl, rfl⟩
    refine CmpD.split (fun c2 => ?_) (fun c2 => ?_)
    · have hlt : i < A.length := by omega
      have htk : A.take (i + 1) = A.take i ++ [A[i]] := by rw [List.take_add_one, List.getElem?_eq_getElem hlt]; rfl
      have hmem : A[i] ∈ A := List.getElem_mem hlt
      have hcell := imgCells_0 hlt
      obtain ⟨bA, oA, rfl, hcA⟩ := hA.cellsP (I := I) (S := [chA, layBox b2 x]) 0 rfl (by omega)
      generalize A[i] = g at *
      refine CodeF.sched [[], [], [0, 1], [0, 1, 2], [0, 1, 2, 3], [], [5], [0, 1, 2, 3, 4, 5, 6], [0, 1, 2, 3, 4, 5, 6, 7], [0, 1, 2, 3, 4, 5, 6, 7, 8], [0, 1, 2, 3, 4, 5, 6, 7, 8], [0, 1, 2, 3, 4, 5, 6, 7, 8, 9, 10], [0, 1, 2, 3, 4, 5, 6, 7, 8, 9, 10, 11], [0, 1, 2, 3, 4, 5, 6, 7, 8, 9, 10, 11, 12], [0, 1, 2, 3, 4, 5, 6, 7, 8], [0, 1, 2, 3, 4, 5, 6, 7, 8, 14], [0, 1, 2, 3, 4, 5, 6, 7, 8, 9, 10, 11, 12, 13, 14, 15], [0, 1, 2, 3, 4, 5, 6, 7, 8, 9, 10, 11, 12, 13, 14, 15, 16]] [0, 1, 2, 3, 4, 5, 6, 7, 8, 9, 10, 11, 12, 13, 14, 15, 16, 17] (by kernel_rfl) ?_
      refine Chk.mk (by omega) ?_
      refine LoadP.own 0 _ (hcA.at hcell) ?_
      refine LoadP.at 1 rfl _ rfl rfl ?_
      have bad : ¬ (x.bi ≤ g.blk ∧ g.blk < x.b) → ∃ S'', Drop [chA, layBox b2 x] S'' ∧ ∃ chO, S'' = [chO] ∧
          ((¬ LayOk x ∧ Value.tuple #[.slice none 0 0, .int .i64 90] = .tuple #[.slice none 0 0, .int .i64 2]) ∨
           (LayOk x ∧ ¬ HomeOk x (A.map Img.pr) ∧ Value.tuple #[.slice none 0 0, .int .i64 90] = .tuple #[.slice none 0 0, .int .i64 90]) ∨
           (LayOk x ∧ HomeOk x (A.map Img.pr) ∧ ∃ (aO : Option Addr) (capO : Nat) (outs : List Img), Value.tuple #[.slice none 0 0, .int .i64 90] = .tuple #[.slice aO outs.length capO, .int .i64 0] ∧ OwnC chO 2 aO outs.length capO (imgCells outs) ∧ (∀ g ∈ outs, ImgOk I g) ∧ outs.map Img.pr = homeP (A.map Img.pr))) :=
        fun h => ⟨[chA], Drop.pick [0] _ rfl, chA, rfl, .inr (.inl ⟨hX, fun h' => h (h' g.pr (List.mem_map_of_mem hmem)), rfl⟩)⟩
      refine CmpD.split (fun c3 => ?_) (fun c3 => ?_)
      · skip
        exact Done.mk (bad (by omega))
      refine Chk.mk (by omega) ?_
      refine LoadP.own 0 _ (hcA.at hcell) ?_
      refine LoadP.at 1 rfl _ rfl rfl ?_
      refine CmpD.split (fun c4 => ?_) (fun c4 => ?_)
      · skip
        exact Done.mk (bad (by omega))
      skip
      refine ToD.i64 (by omega) (by omega) ?_
      refine ⟨_, Drop.pick [0, 1] _ rfl, ⟨i + 1, by omega, ?_, rfl, rfl, rfl⟩, ?_⟩
      · rw [htk, List.map_append]
        intro q hq
        rcases List.mem_append.1 hq with hq | hq
        · exact hok q hq
        · simp only [List.map_cons, List.map_nil, List.mem_singleton] at hq
          subst hq
          exact ⟨by show x.bi ≤ g.blk; omega, by show g.blk < x.b; omega⟩
      · show ((A.length : Int) - ((i : Int) + 1)).toNat < ((A.length : Int) - i).toNat; omega
    obtain rfl : i = A.length := by omega
    rw [List.take_length] at hok
    repeat (first | refine LoadD.own 1 rfl _ rfl rfl ?_)
    have hin : ∀ g ∈ A, x.bi ≤ g.blk ∧ g.blk < x.b := fun g hg => hok g.pr (List.mem_map_of_mem hg)
    obtain ⟨hXb1, hXb2⟩ := hXb
    have hbb : x.bi ≤ x.b := by rw [hXb2]; unfold layL; split <;> omega
    obtain ⟨P, hP⟩ : ∃ P, P = A.map Img.pr := ⟨_, rfl⟩
    rw [← hP] at hok ⊢
    have hPl : P.length = A.length := by rw [hP, List.length_map]
    refine CodeF.loopD [2, 6, 9, 10] (fun vs J' S' => ∃ (k : Nat) (aO : Option Addr) (capO : Nat) (chO : List Blk) (outs : List Img), x.bi + k ≤ x.b ∧ outs.length ≤ k ∧ OwnC chO 2 aO outs.length capO (imgCells outs) ∧ (∀ g ∈ outs, ImgOk J' g) ∧ outs.map Img.pr = homeK x.bi P k ∧ I.le J' ∧
        vs = [.pointer (some ⟨b2, 0, none⟩), .slice aA A.length capA, .slice aO outs.length capO, .int .i64 (x.bi + k)] ∧ S' = [chA, layBox b2 x, chO])
      (fun vs _ _ => match vs with | [_, _, _, .int _ n] => (x.b - n).toNat | _ => 0) ?_ ?_
    · exact ⟨_, Drop.and (Drop.pick [0, 1] _ rfl), 0, none, 0, [], [], by omega, by simp, OwnC.nil 2 none, by simp, rfl, Imm.le_refl _, congrArg (fun z => [Value.pointer (some ⟨b2, 0, none⟩), .slice aA A.length capA, .slice none 0 0, .int .i64 z]) (by omega : x.bi = x.bi + ((0 : Nat) : Int)), rfl⟩
    rintro vs gE3 J3 S3 hJ3 ⟨k, aO, capO, chO, outs, hk, hol, hO, hoks, hpr, hle, rfl, rfl⟩
    refine LoadD.own 1 rfl _ rfl rfl ?_
    refine CmpD.split (fun c5 => ?_) (fun c5 => ?_)
    rotate_left
    · have hbk : x.b = x.bi + k := by omega
      skip
      refine Done.mk ⟨[chO], Drop.pick [2] _ rfl, chO, rfl, .inr (.inr ⟨hX, hok, aO, capO, outs, rfl, hO, hoks, ?_⟩)⟩
      rw [hpr]
      exact homeK_homeP _ _ _ (fun g hg => by have := hok g hg; omega)
    have hkb : k ≤ 512 := by omega
    skip
    refine ToD.i64 (by omega) (by omega) ?_
    have next : ∀ (S4 : St) (J4 : Imm) (aO2 : Option Addr) (capO2 : Nat) (chO2 : List Blk) (outs2 : List Img), Drop S4 [chA, layBox b2 x, chO2] → J3.le J4 → outs2.length ≤ k + 1 → OwnC chO2 2 aO2 outs2.length capO2 (imgCells outs2) → (∀ g ∈ outs2, ImgOk J4 g) → outs2.map Img.pr = homeK x.bi P (k + 1) →
        ToD (IntKind.i64.wrap (x.bi + (k : Int) + 1)) fun m => ∃ S0, Drop S4 S0 ∧ (∃ (k : Nat) (aO : Option Addr) (capO : Nat) (chO : List Blk) (outs : List Img), x.bi + k ≤ x.b ∧ outs.length ≤ k ∧ OwnC chO 2 aO outs.length capO (imgCells outs) ∧ (∀ g ∈ outs, ImgOk J4 g) ∧ outs.map Img.pr = homeK x.bi P k ∧ I.le J4 ∧
          [Value.pointer (some ⟨b2, 0, none⟩), .slice aA A.length capA, .slice aO2 outs2.length capO2, .int .i64 m] = [.pointer (some ⟨b2, 0, none⟩), .slice aA A.length capA, .slice aO outs.length capO, .int .i64 (x.bi + k)] ∧ S0 = [chA, layBox b2 x, chO]) ∧ (x.b - m).toNat < (x.b - (x.bi + (k : Int))).toNat := by
      intro S4 J4 aO2 capO2 chO2 outs2 hd hJ4 h1 h2 h3 h4
      refine ToD.i64 (by omega) (by omega) ?_
      refine ⟨_, hd, ⟨k + 1, aO2, capO2, chO2, outs2, by omega, h1, h2, h3, h4, Imm.le_trans hle hJ4, ?_, rfl⟩, by omega⟩
      rw [show x.bi + (k : Int) + 1 = x.bi + ((k + 1 : Nat) : Int) by omega]
    refine CodeF.loopD [2, 6, 9, 10, 11] (fun vs J' S' => ∃ j : Nat, j ≤ A.length ∧ (∀ i, j ≤ i → (h : i < A.length) → A[i].blk ≠ x.bi + k) ∧ vs = [.pointer (some ⟨b2, 0, none⟩), .slice aA A.length capA, .slice aO outs.length capO, .int .i64 (x.bi + k), .int .i64 ((j : Int) - 1)] ∧ J3 = J' ∧ S' = [chA, layBox b2 x, chO])
      (fun vs _ _ => match vs with | [_, _, _, _, .int _ j] => (j + 1).toNat | _ => 0) ?_ ?_
    · exact ⟨_, Drop.pick [0, 1, 2] _ rfl, A.length, Nat.le_refl _, fun i h1 h2 => by omega, rfl, rfl, rfl⟩
    rintro vs gE4 J4 S4 hJ4 ⟨j, hj, hno, rfl, rfl, rfl⟩
    have lastE : lastD P (x.bi + k) = lastD (P.take j) (x.bi + k) := by
      refine lastD_take P _ j (by omega) ?_
      intro i h1 h2
      have h2' : i < A.length := by omega
      have := hno i h1 h2'
      have e : P[i] = A[i].pr := by simp only [hP, List.getElem_map]
      rw [e]; exact this
    refine CmpD.split (fun c6 => ?_) (fun c6 => ?_)
    rotate_left
    · obtain rfl : j = 0 := by omega
      have hnone : lastD P (x.bi + k) = none := by rw [lastE]; rfl
      exact next _ J3 aO capO chO outs (Drop.refl _) (Imm.le_refl _) (by omega) hO hoks (by rw [homeK, hnone, hpr, List.append_nil])
    have hj1 : 1 ≤ j := by omega
    have hlt : j - 1 < A.length := by omega
    have htk : P.take j = P.take (j - 1) ++ [A[j - 1].pr] := by
      have e : P[j - 1]'(by omega) = A[j - 1].pr := by simp only [hP, List.getElem_map]
      have : P.take (j - 1 + 1) = P.take (j - 1) ++ [P[j - 1]'(by omega)] := by rw [List.take_add_one, List.getElem?_eq_getElem (by omega)]; rfl
      rw [← e, ← this, Nat.sub_add_cancel hj1]
    rw [htk, lastD_snoc] at lastE
    have hmem : A[j - 1] ∈ A := List.getElem_mem hlt
    have hcell0 := imgCells_0 hlt
    have hcell1 := imgCells_1 hlt
    have hno2 : A[j - 1].blk ≠ x.bi + k → ∀ i, j - 1 ≤ i → (h : i < A.length) → A[i].blk ≠ x.bi + k := by
      intro h i h1 h2
      rcases Nat.lt_or_ge (j - 1) i with h3 | h3
      · exact hno i (by omega) h2
      · obtain rfl : i = j - 1 := by omega
        exact h
    obtain ⟨bA, oA, rfl, hcA⟩ := SlC.split (hA.slC (I := J3) (S := [chA, layBox b2 x, chO]) 0 rfl) (by omega)
    generalize A[j - 1] = g at *
    have ej : (((j : Int) - 1)).toNat = j - 1 := by omega
    refine Chk.mk (by omega) ?_
    refine LoadD.mk [.int .i64 g.blk] (by show Cells _ _ _ (oA + (((j : Int) - 1)).toNat * 2) 1 _; rw [ej]; exact hcA.at hcell0) ?_
    refine CmpD.split (fun c7 => ?_) (fun c7 => ?_)
    rotate_left
    · refine ToD.i64 (by omega) (by omega) ?_
      refine ⟨_, Drop.pick [0, 1, 2] _ rfl, ⟨j - 1, by omega, hno2 c7, ?_, rfl, rfl⟩, ?_⟩
      · rw [show ((j : Int) - 1 - 1) = (((j - 1 : Nat) : Int) - 1) by omega]; rfl
      · show ((j : Int) - 1 - 1 + 1).toNat < ((j : Int) - 1 + 1).toNat; omega
    have hlast : lastD P (x.bi + k) = some g.data := by rw [lastE, if_pos c7]
    refine Chk.mk (by omega) ?_
    refine LoadD.mk [.slice g.a g.len g.cap] (by show Cells _ _ _ (oA + (((j : Int) - 1)).toNat * 2 + 1) 1 _; rw [ej]; exact hcA.at hcell1) ?_
    refine Tri.free (copy_fix J3 g.a g.len g.cap g.data ((hAr g hmem).mono hle) (by have := hfew g hmem; omega)) ?_
    rintro v J5 _ hJ5 ⟨aC, capC, rfl, hC⟩
    conv => whnf
    intro b83
    refine appendD tabOk rfl rfl rfl rfl rfl rfl rfl 2 rfl hO (SrcOk.slice (n := 1) (news := imgCells [⟨x.bi + k, aC, g.len, capC, g.data⟩]) tabOk rfl ((OwnC.whole (len := 1) (size := 2) rfl).slC 3 rfl) (by intro v hv; simp [imgCells] at hv; rcases hv with rfl | rfl <;> rfl)) rfl (by show (outs.length + 1) * 32 ≤ _; omega) (by omega) ?_
    intro aM capM chM hM
    have e : (outs ++ [⟨x.bi + k, aC, g.len, capC, g.data⟩] : List Img).length = outs.length + 1 := by simp
    have hn := fun b => next [chA, layBox b2 x, chM, b] J5 aM capM chM (outs ++ [⟨x.bi + k, aC, g.len, capC, g.data⟩]) (Drop.pick [0, 1, 2] _ rfl) hJ5 (by rw [e]; omega) (by rw [e, imgCells_snoc]; exact hM) (by
      intro y hy
      rcases List.mem_append.1 hy with hy | hy
      · exact (hoks y hy).mono hJ5
      · simp only [List.mem_singleton] at hy
        subst hy
        exact ⟨by show In64 (x.bi + k); unfold In64; omega, hC⟩) (by rw [homeK, hlast, List.map_append, hpr]; rfl)
    simp only [e] at hn
    exact hn _
end Go.Proofs.YtegdcjnjnoeinaaGreat
namespace Go.Proofs.YtegdcjnjnoeinaaGreat
open Go.RowKit Go.Sl
set_option maxRecDepth 20000

theorem stop_r4 (d : DSt) (hA : d.arm.Ok) (hF : d.fault.Ok) : opE d.down (gv d.arm) (gv d.fault) = d.stop.2 ∧ (d.down || decide (gv d.arm = 0)) = d.stop.1.down ∧ (if d.down then gv d.arm else dec (gv d.arm)) = gv d.stop.1.arm ∧ (if d.down then gv d.fault else dec (gv d.fault)) = gv d.stop.1.fault := by
  obtain ⟨sf, nw, ws, ct, dn, ⟨ao, al⟩, ⟨fo, fl⟩⟩ := d
  unfold Gate.Ok at hA hF
  dsimp only at hA hF
  unfold DSt.stop opE gv dec Gate.step
  cases dn
  · cases ao <;> cases fo
    · simp
    · have := hF rfl
      rcases Int.lt_or_le 0 fl with h | h
      · have e : 1 ≤ fl := by omega
        simp [e]; omega
      · obtain rfl : fl = 0 := by omega
        simp
    · have := hA rfl
      rcases Int.lt_or_le 0 al with h | h
      · have e : 1 ≤ al := by omega
        simp [e]; omega
      · obtain rfl : al = 0 := by omega
        simp
    · have := hA rfl
      have := hF rfl
      rcases Int.lt_or_le 0 al with h | h <;> rcases Int.lt_or_le 0 fl with h' | h'
      · have e : 1 ≤ al := by omega
        have e' : 1 ≤ fl := by omega
        simp [e, e']; omega
      · have e : 1 ≤ al := by omega
        obtain rfl : fl = 0 := by omega
        simp [e]; omega
      · have e' : 1 ≤ fl := by omega
        obtain rfl : al = 0 := by omega
        simp [e']; omega
      · obtain rfl : fl = 0 := by omega
        obtain rfl : al = 0 := by omega
        simp
  · simp
theorem gv_in {g : Gate} (h : g.Ok) : In64 (gv g) := by
  unfold gv In64
  unfold Gate.Ok at h
  split
  · rename_i e; have := h e; omega
  · omega
structure RDk (I : Imm) (v : Value) (d : DSt) : Prop where
  wf : d.Wf
  snd : ∀ i, i < d.safe.length → d.now[i]? = some (atP (d.safe.getD i []) d.writes i)
  ex : ∃ (s w : Hd) (bS : List Bk) (gs : List Img), v = rV s w d.count d.down (gv d.arm) (gv d.fault) ∧ Rds I s.a s.len (bS.map Bk.cell) ∧ (∀ b ∈ bS, BkOk I b) ∧ bS.map Bk.data = d.safe ∧ ImgsOk I w.a gs ∧ w.len = gs.length ∧ gs.map Img.pr = d.writes
theorem RDk.mono {I J : Imm} {v : Value} {d : DSt} (h : RDk I v d) (hJ : I.le J) : RDk J v d := by
  obtain ⟨s, w, bS, gs, e, h1, h2, h3, h4, h5, h6⟩ := h.ex
  exact ⟨h.wf, h.snd, s, w, bS, gs, e, h1.mono hJ, fun b hb => (h2 b hb).mono hJ, h3, h4.mono hJ, h5, h6⟩
theorem snd_write {d : DSt} (h : d.Wf) (hs : ∀ i, i < d.safe.length → d.now[i]? = some (atP (d.safe.getD i []) d.writes i)) (n : Nat) (b : Dat) :
    ∀ i, i < d.safe.length → (d.now.set n b)[i]? = some (atP (d.safe.getD i []) (d.writes ++ [((n : Int), b)]) i) := by
  intro i hi
  have := h.len
  rw [atP_snoc]
  dsimp only
  by_cases e : n = i
  · subst e
    rw [if_pos rfl, List.getElem?_set_self (by omega)]
  · rw [if_neg (by omega), List.getElem?_set_ne e]
    exact hs i hi
theorem RDk.stop {I : Imm} {s w : Hd} {d : DSt} {bS : List Bk} {gs : List Img} (h : d.Wf) (hs : ∀ i, i < d.safe.length → d.now[i]? = some (atP (d.safe.getD i []) d.writes i)) (h1 : Rds I s.a s.len (bS.map Bk.cell)) (h2 : ∀ b ∈ bS, BkOk I b) (h3 : bS.map Bk.data = d.safe) (h4 : ImgsOk I w.a gs) (h5 : w.len = gs.length) (h6 : gs.map Img.pr = d.writes) :
    RDk I (rV s w d.count d.stop.1.down (gv d.stop.1.arm) (gv d.stop.1.fault)) d.stop.1 := by
  obtain ⟨e1, e2, e3, e4⟩ := d.stop_same
  exact ⟨h.stop, by rw [e1, e2, e3]; exact hs, s, w, bS, gs, by rw [e4], h1, h2, by rw [e1]; exact h3, h4, h5, by rw [e3]; exact h6⟩
end Go.Proofs.YtegdcjnjnoeinaaGreat
namespace Go.Proofs.YtegdcjnjnoeinaaGreat
open Go.RowKit Go.Sl
set_option maxRecDepth 20000

set_option maxHeartbeats 1000000 in
theorem r4_Write {I : Imm} {v : Value} {d : DSt} (hD : RDk I v d) (hf : d.Few 1000000) (n : Int) (aB : Option Addr) (len capB : Nat) (data : Dat) (hB : Rds I aB len (bts data)) (hlen : len ≤ 1000000000) (hn : In64 n) :
    Tri Tryz.prog 46 #[v, .int .i64 n, .slice aB len capB] I [] fun r J _ => ∃ v', r = .tuple #[v', .int .i64 (d.write n data).2] ∧ RDk J v' (d.write n data).1 := by
  refine Tri.fixed (Q := fun r J S' => ∃ v' ch, r = .tuple #[v', .int .i64 (d.write n data).2] ∧ S' = [ch] ∧ ∀ J', J.le J' → (∀ x ∈ ch, J' x.1 = some x.2) → RDk J' v' (d.write n data).1) ?_ ?_
  rotate_left
  · rintro r J S' hJ ⟨v', ch, rfl, rfl, h⟩
    exact ⟨0, ch, rfl, fun J' hJ' hm => ⟨v', rfl, h J' hJ' hm⟩⟩
  have hwf := hD.wf
  have hsnd := hD.snd
  have hwr := hD.wf.write n data
  have hdl : data.length = len := by have := hB.len; rwa [bts_length] at this
  obtain ⟨s, w, bS, gs, rfl, hS, hBk, hbd, hW, hwl, hwp⟩ := hD.ex
  obtain ⟨q1, q2, q3, q4⟩ := stop_r4 d hwf.arm hwf.fault
  have hsl : s.len = d.safe.length := by rw [← hbd, List.length_map]; have := hS.len; rw [List.length_map] at this; exact this.symm
  have hgl : gs.length = d.writes.length := by rw [← hwp, List.length_map]
  obtain ⟨f1, f2, f3⟩ := hf
  have hr := hwf.range
  have hll := hwf.len
  have hst := d.stop_same
  refine Tri.lay (S2 := [[]]) (by simp) ?_
  refine Tri.drop ?_ (fun _ _ _ _ h => h)
  have hop := r4_operation s w d.count d.down (gv d.arm) (gv d.fault) (gv_in hwf.arm) (gv_in hwf.fault)
  rw [q1, q2, q3, q4] at hop
  obtain ⟨sa, sl, sc⟩ := s
  obtain ⟨wa, wl, wc⟩ := w
  dsimp only at hS hW hwl hsl
  subst hwl
  refine Tri.of (args := [rV ⟨sa, sl, sc⟩ ⟨wa, gs.length, wc⟩ d.count d.down (gv d.arm) (gv d.fault), .int .i64 n, .slice aB len capB]) tabOk Tryz.func46 rfl (by kernel_rfl) (by kernel_rfl) ?_
  conv => whnf
  intro b1
  conv => whnf
  intro b2
  have same : ∀ (e : Int) (J : Imm), I.le J → d.write n data = (d, e) → ∃ v' ch, Value.tuple #[rV ⟨sa, sl, sc⟩ ⟨wa, gs.length, wc⟩ d.count d.down (gv d.arm) (gv d.fault), .int .i64 e] = .tuple #[v', .int .i64 (d.write n data).2] ∧ [([] : List Blk)] = [ch] ∧ ∀ J', J.le J' → (∀ x ∈ ch, J' x.1 = some x.2) → RDk J' v' (d.write n data).1 := by
    intro e J hJ he
    rw [he]
    exact ⟨_, [], rfl, rfl, fun J' hJ' _ => hD.mono (Imm.le_trans hJ hJ')⟩
  refine CmpD.split (fun c1 => ?_) (fun c1 => ?_)
  · repeat (first | refine LoadD.own 1 rfl _ rfl rfl ?_ | refine LoadD.own 2 rfl _ rfl rfl ?_ | refine StoreD.st 2 rfl rfl rfl ?_)
    refine Done.mk ⟨[[]], Drop.pick [0] _ rfl, same 70 _ (Imm.le_refl _) ?_⟩
    have hw : wrongE d.now.length n = 70 := by unfold wrongE; rw [if_neg (show ¬ d.now.length = 0 by omega), if_pos (by omega)]
    unfold DSt.write
    rw [hw]; rfl
  repeat (first | refine LoadD.own 1 rfl _ rfl rfl ?_)
  refine CmpD.split (fun c2 => ?_) (fun c2 => ?_)
  · repeat (first | refine LoadD.own 1 rfl _ rfl rfl ?_ | refine LoadD.own 2 rfl _ rfl rfl ?_ | refine StoreD.st 2 rfl rfl rfl ?_)
    refine Done.mk ⟨[[]], Drop.pick [0] _ rfl, same 70 _ (Imm.le_refl _) ?_⟩
    have c2' : (sl : Int) ≤ n := c2
    have hw : wrongE d.now.length n = 70 := by unfold wrongE; rw [if_neg (show ¬ d.now.length = 0 by omega), if_pos (by omega)]
    unfold DSt.write
    rw [hw]; rfl
  skip
  have c2' : ¬ (sl : Int) ≤ n := c2
  have hw0 : wrongE d.now.length n = 0 := by unfold wrongE; rw [if_neg (show ¬ d.now.length = 0 by omega), if_neg (by omega)]
  refine CmpD.split (fun c3 => ?_) (fun c3 => ?_)
  rotate_left
  · repeat (first | refine LoadD.own 1 rfl _ rfl rfl ?_ | refine LoadD.own 2 rfl _ rfl rfl ?_ | refine StoreD.st 2 rfl rfl rfl ?_)
    refine Done.mk ⟨[[]], Drop.pick [0] _ rfl, same 2 _ (Imm.le_refl _) ?_⟩
    unfold DSt.write
    rw [hw0, if_neg (by simp), if_pos (by omega)]
  repeat (first | refine LoadD.own 1 rfl _ rfl rfl ?_)
  refine Tri.free (hop _) ?_
  rintro v J0 _ hJ0 ⟨rfl, rfl⟩
  conv => whnf
  intro b3
  repeat (first | refine StoreD.st 3 rfl rfl rfl ?_)
  refine CmpD.split (fun c4 => ?_) (fun c4 => ?_)
  rotate_left
  · repeat (first | refine LoadD.own 2 rfl _ rfl rfl ?_ | refine LoadD.own 3 rfl _ rfl rfl ?_ | refine StoreD.st 2 rfl rfl rfl ?_)
    have hd : d.write n data = d.stop := by unfold DSt.write; rw [hw0, if_neg (by simp), if_neg (by omega), if_pos c4]
    refine Done.mk ⟨[[]], Drop.pick [0] _ rfl, ?_⟩
    rw [hd]
    exact ⟨_, [], rfl, rfl, fun J' hJ' _ => (RDk.stop hwf hsnd hS hBk hbd hW rfl hwp).mono hJ'⟩
  repeat (first | refine LoadD.own 1 rfl _ rfl rfl ?_)
  have hplain : ∀ u ∈ imgCells gs, Plain u = true := by
    intro u hu
    unfold imgCells at hu
    obtain ⟨g, _, h⟩ := List.mem_flatMap.1 hu
    simp only [List.mem_cons, List.not_mem_nil, or_false] at h
    rcases h with rfl | rfl <;> rfl
  obtain ⟨k, rfl⟩ : ∃ k : Nat, n = k := ⟨n.toNat, by omega⟩
  refine appendD tabOk rfl rfl rfl rfl rfl rfl rfl 0 rfl (OwnC.nil 2 none) (SrcOk.slice (n := gs.length) (news := imgCells gs) tabOk rfl hW.1.slC hplain) rfl (by show (0 + gs.length) * 32 ≤ _; omega) (by omega) ?_
  intro aL capL chL hL
  refine Tri.free (copy_fix _ aB len capB data hB hlen) ?_
  rintro v J1 _ hJ1 ⟨aC, capC, rfl, hC⟩
  conv => whnf
  intro b43
  skip
  refine appendD tabOk rfl rfl rfl rfl rfl rfl rfl 0 rfl hL (SrcOk.slice (n := 1) (news := imgCells [⟨k, aC, len, capC, data⟩]) tabOk rfl ((OwnC.whole (len := 1) (size := 2) rfl).slC 4 rfl) (by intro v hv; simp [imgCells] at hv; rcases hv with rfl | rfl <;> rfl)) rfl (by show (0 + gs.length + 1) * 32 ≤ _; omega) (by omega) ?_
  intro aM capM chM hM
  repeat (first | refine LoadD.own 3 rfl _ rfl rfl ?_ | refine StoreD.st 3 rfl rfl rfl ?_)
  refine ToD.i64 (by omega) (by omega) ?_
  repeat (first | refine LoadD.own 2 rfl _ rfl rfl ?_ | refine LoadD.own 3 rfl _ rfl rfl ?_ | refine StoreD.st 2 rfl rfl rfl ?_ | refine StoreD.st 3 rfl rfl rfl ?_)
  refine Done.mk ⟨[chM], Drop.pick [0] _ rfl, ?_⟩
  have hd : d.write k data = ({ d.stop.1 with now := d.now.set k data, writes := d.writes ++ [((k : Int), data)], count := d.count + 1 }, 0) := by
    unfold DSt.write; rw [hw0, if_neg (by simp), if_neg (by omega), if_neg (by omega)]; rfl
  rw [hd] at hwr ⊢
  refine ⟨rV ⟨sa, sl, sc⟩ ⟨aM, 0 + gs.length + 1, capM⟩ (d.count + 1) d.stop.1.down (gv d.stop.1.arm) (gv d.stop.1.fault), chM, rfl, rfl, fun J' hJ' hm => ⟨hwr, ?_, ⟨sa, sl, sc⟩, ⟨aM, 0 + gs.length + 1, capM⟩, bS, gs ++ [⟨k, aC, len, capC, data⟩], rfl, hS.mono (Imm.le_trans hJ1 hJ'), fun b hb => (hBk b hb).mono (Imm.le_trans hJ1 hJ'), by rw [hst.1]; exact hbd, ⟨?_, ?_⟩, by simp, by simp [hwp]⟩⟩
  · rw [hst.1]; exact snd_write hwf hsnd k data
  · rw [List.length_append, List.length_singleton]
    rw [imgCells_snoc]
    have := Rds.of_ownS hM hm
    rw [List.nil_append, Nat.zero_add] at this
    show Rds J' aM _ _
    exact this
  · intro g hg
    rcases List.mem_append.1 hg with hg | hg
    · exact (hW.2 g hg).mono (Imm.le_trans hJ1 hJ')
    · simp only [List.mem_singleton] at hg
      subst hg
      exact ⟨hn, hC.mono hJ'⟩
end Go.Proofs.YtegdcjnjnoeinaaGreat
namespace Go.Proofs.YtegdcjnjnoeinaaGreat
open Go.RowKit Go.Sl
set_option maxRecDepth 20000

set_option maxHeartbeats 1000000 in
theorem r4_Flush {I : Imm} {v : Value} {d : DSt} (hD : RDk I v d) (hf : d.Few 1000000) :
    Tri Tryz.prog 127 #[v] I [] fun r J _ => ∃ v', r = .tuple #[v', .int .i64 d.flush.2] ∧ RDk J v' d.flush.1 := by
  refine Tri.fixed (Q := fun r J S' => ∃ v' ch, r = .tuple #[v', .int .i64 d.flush.2] ∧ S' = [ch] ∧ ∀ J', J.le J' → (∀ x ∈ ch, J' x.1 = some x.2) → RDk J' v' d.flush.1) ?_ ?_
  rotate_left
  · rintro r J S' hJ ⟨v', ch, rfl, rfl, h⟩
    exact ⟨0, ch, rfl, fun J' hJ' hm => ⟨v', rfl, h J' hJ' hm⟩⟩
  have hwf := hD.wf
  have hsnd := hD.snd
  have hwr := hD.wf.flush
  obtain ⟨s, w, bS, gs, rfl, hS, hBk, hbd, hW, hwl, hwp⟩ := hD.ex
  obtain ⟨q1, q2, q3, q4⟩ := stop_r4 d hwf.arm hwf.fault
  have hsl : s.len = d.safe.length := by rw [← hbd, List.length_map]; have := hS.len; rw [List.length_map] at this; exact this.symm
  have hgl : gs.length = d.writes.length := by rw [← hwp, List.length_map]
  obtain ⟨f1, f2, f3⟩ := hf
  have hr := hwf.range
  have hll := hwf.len
  have hst := d.stop_same
  refine Tri.lay (S2 := [[]]) (by simp) ?_
  refine Tri.drop ?_ (fun _ _ _ _ h => h)
  have hop := r4_operation s w d.count d.down (gv d.arm) (gv d.fault) (gv_in hwf.arm) (gv_in hwf.fault)
  rw [q1, q2, q3, q4] at hop
  have hat := r4_At s w d.count d.down (gv d.arm) (gv d.fault) bS gs
  obtain ⟨sa, sl, sc⟩ := s
  obtain ⟨wa, wl, wc⟩ := w
  dsimp only at hS hW hwl hsl hat
  subst hwl
  refine Tri.of (args := [rV ⟨sa, sl, sc⟩ ⟨wa, gs.length, wc⟩ d.count d.down (gv d.arm) (gv d.fault)]) tabOk Tryz.func127 rfl (by kernel_rfl) (by kernel_rfl) ?_
  conv => whnf
  intro b1
  conv => whnf
  intro b2
  repeat (first | refine LoadD.own 1 rfl _ rfl rfl ?_)
  refine Tri.free (hop _) ?_
  rintro v J0 _ hJ0 ⟨rfl, rfl⟩
  conv => whnf
  intro b3
  repeat (first | refine StoreD.st 3 rfl rfl rfl ?_)
  refine CmpD.split (fun c4 => ?_) (fun c4 => ?_)
  rotate_left
  · repeat (first | refine LoadD.own 2 rfl _ rfl rfl ?_ | refine LoadD.own 3 rfl _ rfl rfl ?_ | refine StoreD.st 2 rfl rfl rfl ?_)
    have hd : d.flush = d.stop := by unfold DSt.flush; rw [if_pos c4]
    refine Done.mk ⟨[[]], Drop.pick [0] _ rfl, ?_⟩
    rw [hd]
    exact ⟨_, [], rfl, rfl, fun J' hJ' _ => (RDk.stop hwf hsnd hS hBk hbd hW rfl hwp).mono hJ'⟩
  skip
  have hst2 := hst.2.1
  refine CodeF.loopD [1, 2, 4, 6, 7] (fun vs J' S' => ∃ (i : Nat) (a : Option Addr) (cap : Nat) (ch : List Blk) (bks : List Bk), i ≤ sl ∧ OwnC ch 1 a i cap (bks.map Bk.cell) ∧ bks.map Bk.data = d.now.take i ∧ (∀ b ∈ bks, BkOk I b) ∧ vs = [.pointer (some ⟨b1, 0, none⟩), .pointer (some ⟨b2, 0, none⟩), .pointer (some ⟨b3, 0, none⟩), .slice a i cap, .int .i64 i] ∧ I = J' ∧
      S' = [ch, [(b1, row [.slice sa sl sc, .slice wa gs.length wc, .int .i64 d.count, .bool d.down, .int .i64 (gv d.arm), .int .i64 (gv d.fault)] 76)], [(b2, row [.slice none 0 0, .slice none 0 0, .int .i64 0, .bool false, .int .i64 0, .int .i64 0] 76)], [(b3, row [.slice sa sl sc, .slice wa gs.length wc, .int .i64 d.count, .bool d.stop.1.down, .int .i64 (gv d.stop.1.arm), .int .i64 (gv d.stop.1.fault)] 76)]])
    (fun vs _ _ => match vs with | [_, _, _, _, .int _ i] => ((sl : Int) - i).toNat | _ => 0) ?_ ?_
  · exact ⟨_, Drop.pick [0, 1, 2, 3] _ rfl, 0, none, 0, [], [], by omega, OwnC.nil 1 none, by simp, by simp, rfl, rfl, rfl⟩
  rintro vs gE J' S' hJ' ⟨i, a, cap, ch, bks, hi, hO, hdat, hok, rfl, rfl, rfl⟩
  refine LoadD.own 1 rfl _ rfl rfl ?_
  refine CmpD.split (fun c1 => ?_) (fun c1 => ?_)
  · have hlt : i < sl := by omega
    have hbi : i < bS.length := by have := congrArg List.length hbd; rw [List.length_map] at this; omega
    have hsafe : d.safe.getD i [] = bS[i].data := by rw [← hbd, List.getD_eq_getElem?_getD, List.getElem?_map, List.getElem?_eq_getElem hbi]; rfl
    have hn : d.now[i]? = some (atP bS[i].data d.writes i) := by have := hsnd i (by omega); rwa [hsafe] at this
    have hln : (atP bS[i].data d.writes i).length = 4096 := hwf.now _ (List.mem_of_getElem? hn)
    have hati := hat I hS (by omega) hW rfl (by omega) i (List.getElem?_eq_getElem hbi) (hBk _ (List.getElem_mem hbi))
    rw [hwp] at hati
    generalize atP bS[i].data d.writes i = dat at *
    repeat (first | refine LoadD.own 1 rfl _ rfl rfl ?_)
    refine Tri.free hati ?_
    rintro v J1 _ hJ1 ⟨rfl, aN, len, capN, rfl, hN⟩
    obtain rfl : len = 4096 := by have := hN.len; rw [bts_length] at this; omega
    conv => whnf
    intro b4
    skip
    refine appendD tabOk rfl rfl rfl rfl rfl rfl rfl 0 rfl hO (SrcOk.slice (n := 1) (news := [.slice aN 4096 capN]) tabOk rfl ((OwnC.whole (len := 1) (size := 1) rfl).slC 4 rfl) (by intro v hv; simp only [List.mem_singleton] at hv; subst hv; rfl)) rfl (by show (i + 1) * 24 ≤ _; omega) (by omega) ?_
    intro a2 cap2 ch2 hO2
    refine ToD.i64 (by omega) (by omega) ?_
    refine ⟨_, Drop.pick [0, 1, 2, 3] _ rfl, ⟨i + 1, a2, cap2, ch2, bks ++ [⟨aN, capN, dat⟩], by omega, by rw [List.map_append]; exact hO2, ?_, ?_, rfl, rfl, rfl⟩, ?_⟩
    · rw [List.map_append, hdat, List.take_add_one, hn]; rfl
    · intro b hb
      rcases List.mem_append.1 hb with hb | hb
      · exact hok b hb
      · simp only [List.mem_singleton] at hb
        subst hb
        exact hN
    · show ((sl : Int) - ((i : Int) + 1)).toNat < ((sl : Int) - i).toNat; omega
  · obtain rfl : i = sl := by omega
    repeat (first | refine LoadD.own 2 rfl _ rfl rfl ?_ | refine LoadD.own 3 rfl _ rfl rfl ?_ | refine StoreD.st 2 rfl rfl rfl ?_ | refine StoreD.st 3 rfl rfl rfl ?_)
    have hd : d.flush = ({ d.stop.1 with safe := d.now, writes := [] }, 0) := by unfold DSt.flush; rw [if_neg (by omega)]
    refine Done.mk ⟨[ch], Drop.pick [0] _ rfl, ?_⟩
    rw [hd] at hwr ⊢
    have htake : d.now.take i = d.now := List.take_of_length_le (by omega)
    rw [htake] at hdat
    refine ⟨rV ⟨a, i, cap⟩ ⟨none, 0, 0⟩ d.count d.stop.1.down (gv d.stop.1.arm) (gv d.stop.1.fault), ch, rfl, rfl, fun J' hJ' hm => ⟨hwr, ?_, ⟨a, i, cap⟩, ⟨none, 0, 0⟩, bks, [], ?_, Rds.of_own hO hm, fun b hb => (hok b hb).mono hJ', hdat, ⟨⟨rfl, .inl rfl⟩, by simp⟩, rfl, rfl⟩⟩
    · intro k hk
      dsimp only at hk ⊢
      rw [hst2]
      show d.now[k]? = some (d.now.getD k [])
      rw [List.getD_eq_getElem?_getD, List.getElem?_eq_getElem hk]; rfl
    · show _ = rV _ _ d.stop.1.count _ _ _
      rw [hst.2.2.2]
end Go.Proofs.YtegdcjnjnoeinaaGreat
namespace Go.Proofs.YtegdcjnjnoeinaaGreat
open Go.RowKit Go.Sl
set_option maxRecDepth 20000

theorem r4_Armed {I : Imm} {v : Value} {d : DSt} (hD : RDk I v d) (n : Int) (hn : In64 n) :
    Tri Tryz.prog 54 #[v, .int .i64 n] I [] fun r J _ => ∃ v', r = .tuple #[v', .int .i64 (d.armed n).2] ∧ RDk J v' (d.armed n).1 := by
  have hwf := hD.wf
  have hsnd := hD.snd
  obtain ⟨⟨sa, sl, sc⟩, ⟨wa, wl, wc⟩, bS, gs, rfl, hS, hBk, hbd, hW, hwl, hwp⟩ := hD.ex
  unfold In64 at hn
  refine Tri.of (args := [rV ⟨sa, sl, sc⟩ ⟨wa, wl, wc⟩ d.count d.down (gv d.arm) (gv d.fault), .int .i64 n]) tabOk Tryz.func54 rfl (by kernel_rfl) (by kernel_rfl) ?_
  conv => whnf
  intro b1
  conv => whnf
  intro b2
  unfold DSt.armed
  refine CmpD.split (fun c1 => ?_) (fun c1 => ?_)
  · repeat (first | refine LoadD.own 0 rfl _ rfl rfl ?_ | refine LoadD.own 1 rfl _ rfl rfl ?_ | refine StoreD.st 1 rfl rfl rfl ?_)
    rw [if_pos c1]
    exact Done.mk ⟨_, rfl, hD⟩
  · repeat (first | refine LoadD.own 0 rfl _ rfl rfl ?_ | refine LoadD.own 1 rfl _ rfl rfl ?_ | refine StoreD.st 0 rfl rfl rfl ?_ | refine StoreD.st 1 rfl rfl rfl ?_)
    rw [if_neg c1]
    refine Done.mk ⟨_, rfl, ⟨⟨hwf.len, hwf.range, hwf.safe, hwf.now, hwf.writes, fun _ => ⟨by show 0 ≤ n; omega, by show n ≤ 9223372036854775807; omega⟩, hwf.fault⟩, hsnd, ⟨sa, sl, sc⟩, ⟨wa, wl, wc⟩, bS, gs, rfl, hS, hBk, hbd, hW, hwl, hwp⟩⟩
end Go.Proofs.YtegdcjnjnoeinaaGreat
namespace Go.Proofs.YtegdcjnjnoeinaaGreat
open Go.RowKit Go.Sl
set_option maxRecDepth 20000

set_option maxHeartbeats 1000000 in
theorem r4_Image {I : Imm} {v : Value} {d : DSt} (hD : RDk I v d) (hf : d.Few 1000000) :
    Tri Tryz.prog 51 #[v] I [] fun r J S' => ∃ a cap ch, r = .slice a (d.now.length * 4096) cap ∧ OwnB ch a (d.now.length * 4096) cap d.now.flatten ∧ I = J ∧ S' = [ch] := by
  have hwf := hD.wf
  have hsnd := hD.snd
  obtain ⟨s, w, bS, gs, rfl, hS, hBk, hbd, hW, hwl, hwp⟩ := hD.ex
  have hsl : s.len = d.safe.length := by rw [← hbd, List.length_map]; have := hS.len; rw [List.length_map] at this; exact this.symm
  have hgl : gs.length = d.writes.length := by rw [← hwp, List.length_map]
  obtain ⟨f1, f2, f3⟩ := hf
  have hr := hwf.range
  have hll := hwf.len
  refine Tri.lay (S2 := [[]]) (by simp) ?_
  refine Tri.drop ?_ (fun _ _ _ _ h => h)
  have hat := r4_At s w d.count d.down (gv d.arm) (gv d.fault) bS gs
  obtain ⟨sa, sl, sc⟩ := s
  obtain ⟨wa, wl, wc⟩ := w
  dsimp only at hS hW hwl hsl hat
  subst hwl
  refine Tri.of (args := [rV ⟨sa, sl, sc⟩ ⟨wa, gs.length, wc⟩ d.count d.down (gv d.arm) (gv d.fault)]) tabOk Tryz.func51 rfl (by kernel_rfl) (by kernel_rfl) ?_
  conv => whnf
  intro b1
  refine CodeF.loopD [1, 3, 4] (fun vs J' S' => ∃ (i : Nat) (a : Option Addr) (cap : Nat) (ch : List Blk), i ≤ sl ∧ OwnB ch a (i * 4096) cap (d.now.take i).flatten ∧ vs = [.pointer (some ⟨b1, 0, none⟩), .slice a (i * 4096 : Nat) cap, .int .i64 i] ∧ I = J' ∧
      S' = [ch, [(b1, row [.slice sa sl sc, .slice wa gs.length wc, .int .i64 d.count, .bool d.down, .int .i64 (gv d.arm), .int .i64 (gv d.fault)] 76)]])
    (fun vs _ _ => match vs with | [_, _, .int _ i] => ((sl : Int) - i).toNat | _ => 0) ?_ ?_
  · exact ⟨_, Drop.pick [0, 1] _ rfl, 0, none, 0, [], by omega, OwnC.nil 1 none, rfl, rfl, rfl⟩
  rintro vs gE J' S' hJ' ⟨i, a, cap, ch, hi, hO, rfl, rfl, rfl⟩
  refine LoadD.own 1 rfl _ rfl rfl ?_
  refine CmpD.split (fun c1 => ?_) (fun c1 => ?_)
  · have hlt : i < sl := by omega
    have hbi : i < bS.length := by have := congrArg List.length hbd; rw [List.length_map] at this; omega
    have hsafe : d.safe.getD i [] = bS[i].data := by rw [← hbd, List.getD_eq_getElem?_getD, List.getElem?_map, List.getElem?_eq_getElem hbi]; rfl
    have hn : d.now[i]? = some (atP bS[i].data d.writes i) := by have := hsnd i (by omega); rwa [hsafe] at this
    have hln : (atP bS[i].data d.writes i).length = 4096 := hwf.now _ (List.mem_of_getElem? hn)
    have hati := hat I hS (by omega) hW rfl (by omega) i (List.getElem?_eq_getElem hbi) (hBk _ (List.getElem_mem hbi))
    rw [hwp] at hati
    generalize atP bS[i].data d.writes i = dat at *
    repeat (first | refine LoadD.own 1 rfl _ rfl rfl ?_)
    refine Tri.free hati ?_
    rintro v J1 _ hJ1 ⟨rfl, aN, len, capN, rfl, hN⟩
    obtain rfl : len = 4096 := by have := hN.len; rw [bts_length] at this; omega
    refine appendD tabOk rfl rfl rfl rfl rfl rfl rfl 0 rfl hO (SrcOk.slice (n := 4096) (news := bts dat) tabOk rfl (by show SlC _ _ _ (4096 * 1) _; exact hN.slC) (bts_plain _)) rfl (by show (i * 4096 + 4096) * 1 ≤ _; omega) (by omega) ?_
    intro a2 cap2 ch2 hO2
    refine ToD.i64 (by omega) (by omega) ?_
    have e : i * 4096 + 4096 = (i + 1) * 4096 := by omega
    refine ⟨_, Drop.pick [0, 1] _ rfl, ⟨i + 1, a2, cap2, ch2, by omega, ?_, by rw [← e]; rfl, rfl, rfl⟩, ?_⟩
    · have h3 : (d.now.take (i + 1)).flatten = (d.now.take i).flatten ++ dat := by rw [List.take_add_one, hn]; simp
      rw [h3, ← e, OwnB, bts_append]
      exact hO2
    · show ((sl : Int) - ((i : Int) + 1)).toNat < ((sl : Int) - i).toNat; omega
  · obtain rfl : i = sl := by omega
    have htake : d.now.take i = d.now := List.take_of_length_le (by omega)
    rw [htake] at hO
    have e : d.now.length = i := by omega
    rw [e]
    exact Done.mk ⟨[ch], Drop.pick [0] _ rfl, a, cap, ch, rfl, hO, rfl, rfl⟩
end Go.Proofs.YtegdcjnjnoeinaaGreat
namespace Go.Proofs.YtegdcjnjnoeinaaGreat
open Go.RowKit Go.Sl
set_option maxRecDepth 20000

theorem rdk_fresh {I : Imm} {l : List Dat} {bS : List Bk} {a : Option Addr} {n cap : Nat} (hn : 1 ≤ n ∧ n ≤ 512) (hR : Rds I a n (bS.map Bk.cell)) (hok : ∀ b ∈ bS, BkOk I b) (hd : bS.map Bk.data = l) (hl : l.length = n) (h4 : ∀ b ∈ l, b.length = 4096) :
    RDk I (rV ⟨a, n, cap⟩ ⟨none, 0, 0⟩ 0 false (-1) (-1)) (DSt.of l) := by
  refine ⟨⟨rfl, by show 1 ≤ l.length ∧ l.length ≤ 512; omega, h4, h4, fun w hw => (List.not_mem_nil hw).elim, fun h => (Bool.false_ne_true h).elim, fun h => (Bool.false_ne_true h).elim⟩, ?_, ⟨a, n, cap⟩, ⟨none, 0, 0⟩, bS, [], rfl, hR, hok, hd, ⟨⟨rfl, .inl rfl⟩, by simp⟩, rfl, rfl⟩
  intro i hi
  show l[i]? = some (l.getD i [])
  have hi : i < l.length := hi
  rw [List.getD_eq_getElem?_getD, List.getElem?_eq_getElem hi]; rfl
set_option maxHeartbeats 1000000 in
theorem r4_Load {I : Imm} (a : Option Addr) (n cap : Nat) (l : Dat) (hn : 1 ≤ n ∧ n ≤ 512) (h : Rds I a (n * 4096) (bts l)) (hcap : n * 4096 ≤ cap) :
    Tri Tryz.prog 53 #[.slice a (n * 4096 : Nat) cap] I [] fun r J _ => ∃ v', r = .tuple #[v', .int .i64 0] ∧ RDk J v' (DSt.of (blocksOf l n)) := by
  refine Tri.fixed (Q := fun r J S' => ∃ v' ch, r = .tuple #[v', .int .i64 0] ∧ S' = [ch] ∧ ∀ J', J.le J' → (∀ x ∈ ch, J' x.1 = some x.2) → RDk J' v' (DSt.of (blocksOf l n))) ?_ ?_
  rotate_left
  · rintro r J S' hJ ⟨v', ch, rfl, rfl, h⟩
    exact ⟨0, ch, rfl, fun J' hJ' hm => ⟨v', rfl, h J' hJ' hm⟩⟩
  have hll : l.length = n * 4096 := by rw [← bts_length, h.len]
  rcases h.mem with q0 | ⟨b, off, c, T, fr, rfl, hIb, hc⟩
  · omega
  refine Tri.lay (S2 := [[]]) (by simp) ?_
  refine Tri.drop ?_ (fun _ _ _ _ h => h)
  refine Tri.of (args := [.slice (some ⟨b, off, none⟩) (n * 4096 : Nat) cap]) tabOk Tryz.func53 rfl (by kernel_rfl) (by kernel_rfl) ?_
  conv => whnf
  intro b2
  conv => whnf
  intro b4
  repeat (first | refine StoreD.st 2 rfl rfl rfl ?_)
  refine CmpD.no (by omega) ?_
  skip
  refine CmpD.no (by omega) ?_
  skip
  refine Chk.mk (by decide) ?_
  refine ToD.rem (by omega) ?_
  refine CmpD.yes (by omega) ?_
  skip
  refine CodeF.loopD [0, 2, 4, 5] (fun vs J' S' => ∃ (i : Nat) (aS : Option Addr) (capS : Nat) (ch : List Blk) (bks : List Bk), i ≤ n ∧ OwnC ch 1 aS i capS (bks.map Bk.cell) ∧ bks.map Bk.data = blocksOf l i ∧ (∀ b ∈ bks, BkOk J' b) ∧ I.le J' ∧ vs = [.slice (some ⟨b, off, none⟩) (n * 4096 : Nat) cap, .pointer (some ⟨b2, 0, none⟩), .pointer (some ⟨b4, 0, none⟩), .int .i64 (i * 4096 : Nat)] ∧
      S' = [ch, [(b2, row [.slice none 0 0, .slice none 0 0, .int .i64 0, .bool false, .int .i64 0, .int .i64 0] 76)], [(b4, row [.slice aS i capS, .slice none 0 0, .int .i64 0, .bool false, .int .i64 (-1), .int .i64 (-1)] 76)]])
    (fun vs _ _ => match vs with | [_, _, _, .int _ i] => ((n * 4096 : Nat) - i).toNat | _ => 0) ?_ ?_
  · exact ⟨_, Drop.pick [0, 1, 2] _ rfl, 0, none, 0, [], [], by omega, OwnC.nil 1 none, by unfold blocksOf; rfl, by simp, Imm.le_refl _, rfl, rfl⟩
  rintro vs gE J' S' hJ' ⟨i, aS, capS, ch, bks, hi, hO, hdat, hok, hle, rfl, rfl⟩
  refine CmpD.split (fun c1 => ?_) (fun c1 => ?_)
  · have hlt : i < n := by omega
    refine CodeF.sched [[], [0], [], [], [], [4], [2, 3, 4, 5], [2, 3, 4, 5, 6], [2, 3, 4, 5, 6, 7], [0, 1, 2, 3, 4, 5, 6, 7, 8], [0, 1, 2, 3, 4, 5, 6, 7, 8, 9], [0, 1, 2, 3, 4, 5, 6, 7, 8, 9, 10]] [0, 1, 2, 3, 4, 5, 6, 7, 8, 9, 10, 11] (by kernel_rfl) ?_
    refine LoadP.at 2 rfl _ rfl rfl ?_
    refine ToD.to ((i * 4096 + 4096 : Nat) : Int) (by rw [wrap_i64 (by omega) (by omega)]; omega) ?_
    refine sliceD tabOk rfl rfl rfl rfl (i * 4096) (i * 4096 + 4096) cap ⟨_, rfl⟩ ⟨_, rfl⟩ rfl (.inl rfl) (by omega) ?_
    repeat (first | refine Chk.mk ⟨rfl, trivial⟩ ?_)
    have hp := (Rds_part h (i * 4096) 4096 (by omega)).mono hle
    have hx : Value.slice (slAddr (some ⟨b, off, none⟩) (i * 4096) cap 1) (i * 4096 + 4096 - i * 4096) (cap - i * 4096) = .slice (some ⟨b, off + i * 4096, none⟩) 4096 (cap - i * 4096) := by
      unfold slAddr
      rw [if_neg (by omega), Nat.add_sub_cancel_left]
      simp [add_none]
    have hcall := copy_fix J' _ 4096 (cap - i * 4096) _ hp (by omega)
    rw [← hx] at hcall
    refine Tri.free hcall ?_
    rintro v J1 _ hJ1 ⟨aC, capC, rfl, hC⟩
    repeat (first | refine Chk.mk ⟨rfl, trivial⟩ ?_)
    conv => whnf
    intro b36
    repeat (first | refine Chk.mk ⟨rfl, trivial⟩ ?_)
    refine appendD tabOk rfl rfl rfl rfl rfl rfl rfl 0 rfl hO (SrcOk.slice (n := 1) (news := [.slice aC 4096 capC]) tabOk rfl ((OwnC.whole (len := 1) (size := 1) rfl).slC 3 rfl) (by intro v hv; simp only [List.mem_singleton] at hv; subst hv; rfl)) rfl (by show (i + 1) * 24 ≤ _; omega) (by omega) ?_
    intro a2 cap2 ch2 hO2
    repeat (first | refine StoreD.st 2 rfl rfl rfl ?_)
    refine ToD.to ((((i + 1) * 4096 : Nat)) : Int) (by rw [wrap_i64 (by omega) (by omega)]; omega) ?_
    refine ⟨_, Drop.pick [0, 1, 2] _ rfl, ⟨i + 1, a2, cap2, ch2, bks ++ [⟨aC, capC, (l.drop (i * 4096)).take 4096⟩], by omega, by rw [List.map_append]; exact hO2, ?_, ?_, Imm.le_trans hle hJ1, rfl, rfl⟩, ?_⟩
    · rw [List.map_append, hdat, blocksOf_succ]; rfl
    · intro x hx
      rcases List.mem_append.1 hx with hx | hx
      · exact (hok x hx).mono hJ1
      · simp only [List.mem_singleton] at hx
        subst hx
        exact hC
    · show ((n * 4096 : Nat) - ((((i + 1) * 4096 : Nat)) : Int)).toNat < ((n * 4096 : Nat) - (((i * 4096 : Nat)) : Int)).toNat
      omega
  · obtain rfl : i = n := by omega
    repeat (first | refine LoadD.own 1 rfl _ rfl rfl ?_ | refine LoadD.own 2 rfl _ rfl rfl ?_ | refine StoreD.st 1 rfl rfl rfl ?_)
    refine Done.mk ⟨[ch], Drop.pick [0] _ rfl, _, ch, rfl, rfl, fun J2 hJ2 hm => ?_⟩
    refine rdk_fresh hn (Rds.of_own hO hm) (fun x hx => (hok x hx).mono hJ2) hdat (blocksOf_length l i) ?_
    intro x hx
    unfold blocksOf at hx
    obtain ⟨k, hk, rfl⟩ := List.mem_map.1 hx
    have := List.mem_range.1 hk
    rw [List.length_take, List.length_drop]
    omega
end Go.Proofs.YtegdcjnjnoeinaaGreat
namespace Go.Proofs.YtegdcjnjnoeinaaGreat
open Go.RowKit Go.Sl
set_option maxRecDepth 20000

theorem ref_PutF (s : Sup) (I : Imm) : Tri Tryz.prog 111 #[s.v] I [] fun v J _ =>
    (¬ RightS s ∧ v = .tuple #[.slice none 0 0, .int .i64 2]) ∨ (RightS s ∧ ∃ a cap, v = .tuple #[.slice a 4096 cap, .int .i64 0] ∧ Rds J a 4096 (bts (supL s))) := by
  by_cases hR : RightS s
  · refine Tri.fixed (ref_PutSuper s I) ?_
    rintro v J S' hJ ⟨rfl, ⟨h, _⟩ | ⟨_, a, cap, ch, rfl, hown, rfl⟩⟩
    · exact absurd hR h
    · exact ⟨0, ch, rfl, fun J' hJ' hm => .inr ⟨hR, a, cap, rfl, Rds.of_own hown hm⟩⟩
  · refine (ref_PutSuper s I).mono ?_
    rintro v J S' hJ ⟨rfl, ⟨_, rfl, rfl⟩ | ⟨h, _⟩⟩
    · exact .inl ⟨hR, rfl⟩
    · exact absurd h hR
@[reducible] def rBox (b : Nat) (s w : Hd) (count : Int) (down : Bool) (arm fault : Int) : List Blk := [(b, row [s.v, w.v, .int .i64 count, .bool down, .int .i64 arm, .int .i64 fault] 76)]
@[reducible] def sBox (b : Nat) (s : Sup) : List Blk := [(b, row [.int .i64 s.blocks, .int .i64 s.epoch, .int .i64 s.seq, .int .i64 s.tail] 143)]
set_option maxHeartbeats 4000000 in
theorem r10_Do {I : Imm} {v : Value} {d : DSt} (hD : RDk I v d) (k : Nat) (hf : d.Few k) (aL : Option Addr) (capL : Nat) (gs : List Img) (hi : ImgsOk I aL gs) (hk : k + gs.length ≤ 900000) (s : Sup) (slot : Int) (hslot : In64 slot) :
    Tri Tryz.prog 119 #[v, .slice aL gs.length capL, s.v, .int .i64 slot] I [] fun r J _ => ∃ v', r = .tuple #[v', .int .i64 (doP d (gs.map Img.pr) s slot).2] ∧ RDk J v' (doP d (gs.map Img.pr) s slot).1 := by
  have hr := hD.wf.range
  have hll := hD.wf.len
  obtain ⟨⟨sa, sl, sc⟩, ⟨wa, wl, wc⟩, bS, gW, rfl, hS, hBk, hbd, hex⟩ := id hD.ex
  dsimp only at hS
  have hsl : sl = d.safe.length := by rw [← hbd, List.length_map]; have := hS.len; rw [List.length_map] at this; exact this.symm
  refine Tri.of (args := [rV ⟨sa, sl, sc⟩ ⟨wa, wl, wc⟩ d.count d.down (gv d.arm) (gv d.fault), .slice aL gs.length capL, s.v, .int .i64 slot]) tabOk Tryz.func119 rfl (by kernel_rfl) (by kernel_rfl) ?_
  conv => whnf
  intro b4
  conv => whnf
  intro b6
  conv => whnf
  intro b8
  repeat (first | refine LoadD.own 1 rfl _ rfl rfl ?_)
  unfold doP
  refine Tri.free (ref_PutF s I) ?_
  rintro v J _ hJ (⟨hR, rfl⟩ | ⟨hR, aB, capB, rfl, hB⟩)
  · repeat (first | refine LoadD.own 0 rfl _ rfl rfl ?_ | refine LoadD.own 2 rfl _ rfl rfl ?_ | refine StoreD.st 2 rfl rfl rfl ?_ | refine CmpD.no (by decide) ?_)
    rw [if_pos (.inl hR)]
    exact Done.mk ⟨_, rfl, hD.mono hJ⟩
  have hDJ := hD.mono hJ
  have hiJ := hi.mono hJ
  repeat (first | refine CmpD.yes rfl ?_)
  by_cases hs01 : slot = 0 ∨ slot = 1
  rotate_left
  · refine CmpD.no (fun h => hs01 (.inl h)) ?_
    skip
    refine CmpD.no (fun h => hs01 (.inr h)) ?_
    repeat (first | refine LoadD.own 0 rfl _ rfl rfl ?_ | refine LoadD.own 2 rfl _ rfl rfl ?_ | refine StoreD.st 2 rfl rfl rfl ?_)
    rw [if_pos (by by_cases h : slot < 0; exact .inr (.inl h); exact .inr (.inr (.inl (by omega))))]
    exact Done.mk ⟨_, rfl, hDJ⟩
  rcases hs01 with h01 | h01
  all_goals
    repeat (first | refine CmpD.yes (by omega) ?_ | refine CmpD.no (by omega) ?_)
    refine CodeF.loopD [1, 3, 4, 8, 10, 12] (fun vs J' S' => ∃ i : Nat, i ≤ gs.length ∧ DoOk d ((gs.take i).map Img.pr) ∧ (∀ g ∈ gs.take i, g.len = 4096) ∧ vs = [.slice aL gs.length capL, .int .i64 slot, .pointer (some ⟨b4, 0, none⟩), .pointer (some ⟨b8, 0, none⟩), .slice aB 4096 capB, .int .i64 i] ∧ J = J' ∧
        S' = [rBox b4 ⟨sa, sl, sc⟩ ⟨wa, wl, wc⟩ d.count d.down (gv d.arm) (gv d.fault), rBox b8 ⟨none, 0, 0⟩ ⟨none, 0, 0⟩ 0 false 0 0])
      (fun vs _ _ => match vs with | [_, _, _, _, _, .int _ i] => ((gs.length : Int) - i).toNat | _ => 0) ?_ ?_
    · exact ⟨_, Drop.pick [0, 2] _ rfl, 0, by omega, by intro g hg; simp at hg, by simp, rfl, rfl, rfl⟩
    rintro vs gE J' S' hJ' ⟨i, hil, hok, hlen, rfl, rfl, rfl⟩
    refine CmpD.split (fun c3 => ?_) (fun c3 => ?_)
    · have hlt : i < gs.length := by omega
      rcases hiJ.1.mem with q0 | ⟨bA, oA, cA, TA, fA, rfl, hIA, hcA⟩
      · omega
      have hpair := take_part hcA (i := i * 2) (m := 2) (by omega)
      rw [imgCells_at hlt] at hpair
      have htk : gs.take (i + 1) = gs.take i ++ [gs[i]] := by rw [List.take_add_one, List.getElem?_eq_getElem hlt]; rfl
      have hmem : gs[i] ∈ gs := List.getElem_mem hlt
      have hdl := hiJ.len hmem
      have no : ¬ (2 ≤ gs[i].blk ∧ gs[i].blk < d.now.length ∧ gs[i].len = 4096) → ¬ DoOk d (gs.map Img.pr) := by
        intro h h'
        have := h' gs[i].pr (List.mem_map_of_mem hmem)
        exact h ⟨this.1, this.2.1, by rw [← hdl]; exact this.2.2⟩
      generalize gs[i] = g at *
      refine CodeF.sched [[], [], [0, 1], [0, 1, 2], [0, 1, 2, 3], [0, 1, 2, 3, 4], [0, 1, 2, 3, 4, 5], [0, 1, 2, 3, 4, 5, 6], [0, 1, 2, 3, 4, 5, 6], [0, 1, 2, 3, 4, 5, 6, 7, 8], [0, 1, 2, 3, 4, 5, 6, 7, 8, 9], [0, 1, 2, 3, 4, 5, 6, 7, 8, 9, 10], [0, 1, 2, 3, 4, 5, 6], [0, 1, 2, 3, 4, 5, 6, 12], [0, 1, 2, 3, 4, 5, 6, 12, 13], [0, 1, 2, 3, 4, 5, 6, 7, 8, 9, 10, 11, 12, 13, 14], [0, 1, 2, 3, 4, 5, 6, 7, 8, 9, 10, 11, 12, 13, 14, 15], [0, 1, 2, 3, 4, 5, 6, 7, 8, 9, 10, 11, 12, 13, 14, 15, 16], [0, 1, 2, 3, 4, 5, 6, 7, 8, 9, 10, 11, 12, 13, 14, 15, 16, 17], [0, 1, 2, 3, 4, 5, 6, 7, 8, 9, 10, 11, 12, 13, 14, 15, 16, 17], [0, 1, 2, 3, 4, 5, 6, 7, 8, 9, 10, 11, 12, 13, 14, 15, 16, 17, 18, 19], [0, 1, 2, 3, 4, 5, 6, 7, 8, 9, 10, 11, 12, 13, 14, 15, 16, 17, 18, 19, 20], [0, 1, 2, 3, 4, 5, 6, 7, 8, 9, 10, 11, 12, 13, 14, 15, 16, 17, 18, 19, 20, 21], [0, 1, 2, 3, 4, 5, 6, 7, 8, 9, 10, 11, 12, 13, 14, 15, 16, 17, 18, 19, 20, 21, 22], [0, 1, 2, 3, 4, 5, 6, 7, 8, 9, 10, 11, 12, 13, 14, 15, 16, 17, 18, 19, 20, 21, 22, 23], [0, 1, 2, 3, 4, 5, 6, 7, 8, 9, 10, 11, 12, 13, 14, 15, 16, 17, 18, 19, 20, 21, 22, 23, 24]] [0, 1, 2, 3, 4, 5, 6, 7, 8, 9, 10, 11, 12, 13, 14, 15, 16, 17, 18, 19, 20, 21, 22, 23, 24, 25] (by kernel_rfl) ?_
      refine Chk.mk (by omega) ?_
      refine LoadP.imm [.int .i64 g.blk] ⟨cA, TA, fA, .imm hIA, pair_fst hpair, rfl⟩ ?_
      refine CmpD.split (fun c4 => ?_) (fun c4 => ?_)
      · repeat (first | refine LoadD.own 0 rfl _ rfl rfl ?_ | refine LoadD.own 1 rfl _ rfl rfl ?_ | refine StoreD.st 1 rfl rfl rfl ?_)
        rw [if_pos (.inr (.inr (.inr (no (fun h => by omega)))))]
        exact Done.mk ⟨_, rfl, hDJ⟩
      skip
      refine Chk.mk (by omega) ?_
      refine LoadP.imm [.int .i64 g.blk] ⟨cA, TA, fA, .imm hIA, pair_fst hpair, rfl⟩ ?_
      repeat (first | refine LoadP.at 0 rfl _ rfl rfl ?_)
      refine CmpD.split (fun c5 => ?_) (fun c5 => ?_)
      · have c5 : (sl : Int) ≤ g.blk := c5
        repeat (first | refine LoadD.own 0 rfl _ rfl rfl ?_ | refine LoadD.own 1 rfl _ rfl rfl ?_ | refine StoreD.st 1 rfl rfl rfl ?_)
        rw [if_pos (.inr (.inr (.inr (no (fun h => by omega)))))]
        exact Done.mk ⟨_, rfl, hDJ⟩
      have c5 : ¬ (sl : Int) ≤ g.blk := c5
      skip
      refine Chk.mk (by omega) ?_
      refine LoadP.imm [.slice g.a g.len g.cap] ⟨cA, TA, fA, .imm hIA, pair_snd hpair, rfl⟩ ?_
      refine CmpD.split (fun c6 => ?_) (fun c6 => ?_)
      rotate_left
      · repeat (first | refine LoadD.own 0 rfl _ rfl rfl ?_ | refine LoadD.own 1 rfl _ rfl rfl ?_ | refine StoreD.st 1 rfl rfl rfl ?_)
        rw [if_pos (.inr (.inr (.inr (no (fun h => by omega)))))]
        exact Done.mk ⟨_, rfl, hDJ⟩
      skip
      refine ToD.i64 (by omega) (by omega) ?_
      refine ⟨_, Drop.pick [0, 1] _ rfl, ⟨i + 1, by omega, ?_, ?_, rfl, rfl, rfl⟩, ?_⟩
      · rw [htk, List.map_append]
        intro q hq
        rcases List.mem_append.1 hq with hq | hq
        · exact hok q hq
        · simp only [List.map_cons, List.map_nil, List.mem_singleton] at hq
          subst hq
          exact ⟨by show 2 ≤ g.blk; omega, by show g.blk < _; omega, by show g.data.length = _; omega⟩
      · intro q hq
        rw [htk] at hq
        rcases List.mem_append.1 hq with hq | hq
        · exact hlen q hq
        · simp only [List.mem_singleton] at hq
          subst hq
          omega
      · show ((gs.length : Int) - ((i : Int) + 1)).toNat < ((gs.length : Int) - (i : Int)).toNat
        omega
    obtain rfl : i = gs.length := by omega
    rw [List.take_length] at hok hlen
    rw [if_neg (by rintro (h | h | h | h); exact h hR; omega; omega; exact h hok)]
    obtain ⟨W, hW⟩ : ∃ W, W = wrImgs (gs.map Img.pr) d := ⟨_, rfl⟩
    have hWf : W.1.Few (k + gs.length) := by rw [hW]; have := wrImgs_few (gs.map Img.pr) d k hf; rwa [List.length_map] at this
    rw [← hW]
    refine CodeF.loopD [1, 3, 4, 8, 10, 13] (fun vs J' S' => ∃ (i : Nat) (d' : DSt) (s' w' : Hd), i ≤ gs.length ∧ W = wrImgs ((gs.drop i).map Img.pr) d' ∧ d'.Few (k + i) ∧ RDk J' (rV s' w' d'.count d'.down (gv d'.arm) (gv d'.fault)) d' ∧ J.le J' ∧
        vs = [.slice aL gs.length capL, .int .i64 slot, .pointer (some ⟨b4, 0, none⟩), .pointer (some ⟨b8, 0, none⟩), .slice aB 4096 capB, .int .i64 i] ∧ S' = [rBox b4 s' w' d'.count d'.down (gv d'.arm) (gv d'.fault), rBox b8 ⟨none, 0, 0⟩ ⟨none, 0, 0⟩ 0 false 0 0])
      (fun vs _ _ => match vs with | [_, _, _, _, _, .int _ i] => ((gs.length : Int) - i).toNat | _ => 0) ?_ ?_
    · exact ⟨_, Drop.refl _, 0, d, ⟨sa, sl, sc⟩, ⟨wa, wl, wc⟩, by omega, by rw [hW]; rfl, hf, hDJ, J.le_refl, rfl, rfl⟩
    rintro vs gE2 J2 S2 hJ2 ⟨i, d', ⟨sa', sl', sc'⟩, ⟨wa', wl', wc'⟩, hil2, hWi, hfi, hDi, hle, rfl, rfl⟩
    refine CmpD.split (fun c4 => ?_) (fun c4 => ?_)
    · have hlt : i < gs.length := by omega
      rcases hiJ.1.mem with q0 | ⟨bA, oA, cA, TA, fA, rfl, hIA, hcA⟩
      · omega
      have hpair := take_part hcA (i := i * 2) (m := 2) (by omega)
      rw [imgCells_at hlt] at hpair
      have hmem : gs[i] ∈ gs := List.getElem_mem hlt
      have hdata := hiJ.2 _ hmem
      have hgl := hlen _ hmem
      have hdr : gs.drop i = gs[i] :: gs.drop (i + 1) := List.drop_eq_getElem_cons hlt
      generalize gs[i] = g at *
      rw [hdr, List.map_cons, wrImgs] at hWi
      have hIA2 := hle _ _ hIA
      refine CodeF.sched [[], [], [], [1, 2], [1, 2, 3], [1, 2, 3, 4], [], [], [6, 7], [6, 7, 8], [6, 7, 8, 9], [0, 1, 2, 3, 4, 5, 6, 7, 8, 9, 10], [0, 1, 2, 3, 4, 5, 6, 7, 8, 9, 10, 11], [0, 1, 2, 3, 4, 5, 6, 7, 8, 9, 10, 11, 12], [0, 1, 2, 3, 4, 5, 6, 7, 8, 9, 10, 11, 12], [0, 1, 2, 3, 4, 5, 6, 7, 8, 9, 10, 11, 12, 13], [0, 1, 2, 3, 4, 5, 6, 7, 8, 9, 10, 11, 12, 13, 14, 15]] [0, 1, 2, 3, 4, 5, 6, 7, 8, 9, 10, 11, 12, 13, 14, 15, 16] (by kernel_rfl) ?_
      refine LoadP.at 0 rfl _ rfl rfl ?_
      refine Chk.mk (by omega) ?_
      refine LoadP.imm [.int .i64 g.blk] ⟨cA, TA, fA, .imm hIA2, pair_fst hpair, rfl⟩ ?_
      refine Chk.mk (by omega) ?_
      refine LoadP.imm [.slice g.a g.len g.cap] ⟨cA, TA, fA, .imm hIA2, pair_snd hpair, rfl⟩ ?_
      refine Tri.free (r4_Write hDi (hfi.mono (by omega)) g.blk g.a g.len g.cap g.data (hdata.2.mono hle) (by omega) hdata.1) ?_
      rintro v J3 _ hJ3 ⟨v3, rfl, hD3⟩
      obtain ⟨⟨sa3, sl3, sc3⟩, ⟨wa3, wl3, wc3⟩, _, _, rfl, _⟩ := id hD3.ex
      have hf3 := hfi.write g.blk g.data
      rw [show g.pr.1 = g.blk from rfl, show g.pr.2 = g.data from rfl] at hWi
      generalize hwr : d'.write g.blk g.data = wr at *
      repeat (first | refine StoreD.st 0 rfl rfl rfl ?_)
      refine CmpD.split (fun c5 => ?_) (fun c5 => ?_)
      · rw [if_neg (by simpa using c5)] at hWi
        skip
        refine ToD.i64 (by omega) (by omega) ?_
        refine ⟨_, Drop.pick [0, 1] _ rfl, ⟨i + 1, _, ⟨sa3, sl3, sc3⟩, ⟨wa3, wl3, wc3⟩, by omega, hWi, hf3, hD3, Imm.le_trans hle hJ3, rfl, rfl⟩, ?_⟩
        show ((gs.length : Int) - ((i : Int) + 1)).toNat < ((gs.length : Int) - (i : Int)).toNat
        omega
      · rw [if_pos c5] at hWi
        repeat (first | refine LoadD.own 0 rfl _ rfl rfl ?_ | refine LoadD.own 1 rfl _ rfl rfl ?_ | refine StoreD.st 1 rfl rfl rfl ?_)
        rw [hWi, if_pos c5]
        exact Done.mk ⟨_, rfl, hD3⟩
    obtain rfl : i = gs.length := by omega
    rw [List.drop_length, List.map_nil, wrImgs] at hWi
    subst hWi
    dsimp only at hWf ⊢
    rw [if_neg (by simp)]
    repeat (first | refine LoadD.own 0 rfl _ rfl rfl ?_)
    refine Tri.free (r4_Flush hDi (hWf.mono (by omega))) ?_
    rintro v J3 _ hJ3 ⟨v3, rfl, hD3⟩
    obtain ⟨⟨sa3, sl3, sc3⟩, ⟨wa3, wl3, wc3⟩, _, _, rfl, _⟩ := id hD3.ex
    have hf3 := hWf.flush
    generalize d'.flush = fl at *
    repeat (first | refine StoreD.st 0 rfl rfl rfl ?_)
    refine CmpD.split (fun c5 => ?_) (fun c5 => ?_)
    rotate_left
    · repeat (first | refine LoadD.own 0 rfl _ rfl rfl ?_ | refine LoadD.own 1 rfl _ rfl rfl ?_ | refine StoreD.st 1 rfl rfl rfl ?_)
      rw [if_pos c5]
      exact Done.mk ⟨_, rfl, hD3⟩
    rw [if_neg (by simpa using c5)]
    unfold lastWr
    repeat (first | refine LoadD.own 0 rfl _ rfl rfl ?_)
    refine Tri.free (r4_Write hD3 (hf3.mono (by omega)) slot aB 4096 capB (supL s) (hB.mono (Imm.le_trans hle hJ3)) (by omega) hslot) ?_
    rintro v J4 _ hJ4 ⟨v4, rfl, hD4⟩
    obtain ⟨⟨sa4, sl4, sc4⟩, ⟨wa4, wl4, wc4⟩, _, _, rfl, _⟩ := id hD4.ex
    have hf4 := hf3.write slot (supL s)
    repeat (first | refine StoreD.st 0 rfl rfl rfl ?_)
    refine CmpD.split (fun c6 => ?_) (fun c6 => ?_)
    rotate_left
    · repeat (first | refine LoadD.own 0 rfl _ rfl rfl ?_ | refine LoadD.own 1 rfl _ rfl rfl ?_ | refine StoreD.st 1 rfl rfl rfl ?_)
      rw [if_pos c6]
      exact Done.mk ⟨_, rfl, hD4⟩
    rw [if_neg (by simpa using c6)]
    repeat (first | refine LoadD.own 0 rfl _ rfl rfl ?_)
    refine Tri.free (r4_Flush hD4 (hf4.mono (by omega))) ?_
    rintro v J5 _ hJ5 ⟨v5, rfl, hD5⟩
    obtain ⟨⟨sa5, sl5, sc5⟩, ⟨wa5, wl5, wc5⟩, _, _, rfl, _⟩ := id hD5.ex
    repeat (first | refine LoadD.own 1 rfl _ rfl rfl ?_ | refine StoreD.st 1 rfl rfl rfl ?_)
    exact Done.mk ⟨_, rfl, hD5⟩
end Go.Proofs.YtegdcjnjnoeinaaGreat
namespace Go.Proofs.YtegdcjnjnoeinaaGreat
open Go.RowKit Go.Sl
set_option maxRecDepth 20000

theorem ref_Number {I : Imm} {S : St} {a : Option Addr} {len cap : Nat} {l : List UInt8} (h : SlC I S a len (bts l)) (hlen : len ≤ 1000000000) (at_ : Int) (hat : In64 at_) (n : Nat) (hn : n ≤ 8) :
    Tri Tryz.prog 230 #[.slice a len cap, .int .i64 at_, .int .i64 n] I S fun v J S' => v = .tuple #[.int .u64 (numV l at_ n).1, .bool (numV l at_ n).2] ∧ I = J ∧ S' = S := by
  have hl : l.length = len := by rw [← bts_length, h.len]
  unfold In64 at hat
  unfold numV
  refine Tri.of (args := [.slice a len cap, .int .i64 at_, .int .i64 n]) tabOk Tryz.func230 rfl (by kernel_rfl) (by kernel_rfl) ?_
  refine CmpD.split (fun c1 => ?_) (fun c1 => ?_)
  · rw [if_pos (.inl c1)]; exact Done.mk ⟨rfl, rfl, rfl⟩
  refine CmpD.split (fun c0 => ?_) (fun c0 => ?_)
  · rw [if_pos (.inr (by omega))]; exact Done.mk ⟨rfl, rfl, rfl⟩
  refine ToD.i64 (by omega) (by omega) ?_
  refine CmpD.split (fun c2 => ?_) (fun c2 => ?_)
  · rw [if_pos (.inr (by omega))]; exact Done.mk ⟨rfl, rfl, rfl⟩
  rw [if_neg (by omega)]
  obtain ⟨k, rfl⟩ : ∃ k : Nat, at_ = k := ⟨at_.toNat, by omega⟩
  rw [show ((k : Int)).toNat = k from rfl]
  refine CodeF.loopD [0, 1, 2, 8, 9] (fun vs J' S' => ∃ (i : Nat), i ≤ n ∧ vs = [.slice a len cap, .int .i64 k, .int .i64 n, .int .u64 (nb ((l.drop k).take i) : Nat), .int .i64 i] ∧ I = J' ∧ S' = S)
    (fun vs _ _ => match vs with | [_, _, _, _, .int _ i] => ((n : Int) - i).toNat | _ => 0) ?_ ?_
  · exact ⟨_, Drop.refl _, 0, by omega, rfl, rfl, rfl⟩
  rintro vs g J' S' hJ' ⟨i, hi, rfl, rfl, rfl⟩
  refine CmpD.split (fun c3 => ?_) (fun c3 => ?_)
  · have hin : k + i < l.length := by omega
    rcases h.mem with h0 | ⟨b, off, rfl, hc⟩
    · omega
    have hv := nb_lt ((l.drop k).take i)
    have hvl : ((l.drop k).take i).length ≤ 7 := by rw [List.length_take]; omega
    have hv2 : nb ((l.drop k).take i) < 2 ^ 56 := Nat.lt_of_lt_of_le hv (Nat.pow_le_pow_right (by omega) (by omega))
    have htk : (l.drop k).take (i + 1) = (l.drop k).take i ++ [l[k + i]] := by
      rw [List.take_add_one, List.getElem?_drop, List.getElem?_eq_getElem hin]; rfl
    have hb := l[k + i].toNat_lt
    refine ToD.to ((nb ((l.drop k).take i) * 256 : Nat) : Int) ?_ ?_
    · rw [wrap_u rfl (by omega) (by show 256 * (nb ((l.drop k).take i) : Int) < 2 ^ 64; omega)]
      omega
    refine ToD.i64 (by omega) (by omega) ?_
    refine Chk.mk (by omega) ?_
    refine LoadD.mk [byte l[k + i]] (hc.at (i := k + i) (bts_get (List.getElem?_eq_getElem hin))) ?_
    refine ToD.to ((l[k + i].toNat : Nat) : Int) (wrap_u rfl (by omega) (by show (l[k + i].toNat : Int) < 2 ^ 64; omega)) ?_
    refine ToD.to ((nb ((l.drop k).take i) * 256 ||| l[k + i].toNat : Nat) : Int) ?_ ?_
    · rw [or_low _ _ (by omega), wrap_u rfl (by omega) (by show ((nb ((l.drop k).take i) * 256 : Nat) : Int) + (l[k + i].toNat : Int) < 2 ^ 64; omega)]
      omega
    refine ToD.i64 (by omega) (by omega) ?_
    refine ⟨_, Drop.refl _, ⟨i + 1, by omega, by rw [htk, nb_snoc]; rfl, rfl, rfl⟩, ?_⟩
    show ((n : Int) - ((i : Int) + 1)).toNat < ((n : Int) - (i : Int)).toNat
    omega
  · obtain rfl : i = n := by omega
    exact Done.mk ⟨rfl, rfl, rfl⟩
theorem ref_number3 {I : Imm} {S : St} {a : Option Addr} {len cap : Nat} {l : List UInt8} (h : SlC I S a len (bts l)) (hlen : len ≤ 1000000000) (at_ : Int) (hat : In64 at_) (n : Nat) (hn : n ≤ 8) :
    Tri Tryz.prog 201 #[.slice a len cap, .int .i64 at_, .int .i64 n] I S fun v J S' => v = .int .i64 (IntKind.i64.wrap ((numV l at_ n).1 : Int)) ∧ I = J ∧ S' = S := by
  refine Tri.of (args := [.slice a len cap, .int .i64 at_, .int .i64 n]) tabOk Tryz.func201 rfl (by kernel_rfl) (by kernel_rfl) ?_
  refine Tri.mono (ref_Number h hlen at_ hat n hn) ?_
  rintro v J S' hJ ⟨rfl, rfl, rfl⟩
  refine ToD.to _ rfl ?_
  exact Done.mk ⟨rfl, rfl, rfl⟩
end Go.Proofs.YtegdcjnjnoeinaaGreat
namespace Go.Proofs.YtegdcjnjnoeinaaGreat
open Go.RowKit Go.Sl
set_option maxRecDepth 20000

theorem ref_GetSuper {I : Imm} {a : Option Addr} {len cap : Nat} {b : Dat} (h : Rds I a len (bts b)) (hlen : len ≤ 1000000000) : Tri Tryz.prog 173 #[.slice a len cap] I [] fun v J _ => I = J ∧ v = getV (getS b) := by
  refine Tri.of (args := [.slice a len cap]) tabOk Tryz.func173 rfl (by kernel_rfl) (by kernel_rfl) ?_
  conv => whnf
  intro b2
  refine Tri.free (ref_number3 h.slC hlen 8 (by unfold In64; omega) 8 (by omega)) ?_
  rintro v J1 _ hJ1 ⟨rfl, rfl, _⟩
  refine Tri.free (ref_number3 h.slC hlen 16 (by unfold In64; omega) 8 (by omega)) ?_
  rintro v J2 _ hJ2 ⟨rfl, rfl, _⟩
  refine Tri.free (ref_number3 h.slC hlen 24 (by unfold In64; omega) 8 (by omega)) ?_
  rintro v J3 _ hJ3 ⟨rfl, rfl, _⟩
  refine Tri.free (ref_number3 h.slC hlen 32 (by unfold In64; omega) 8 (by omega)) ?_
  rintro v J4 _ hJ4 ⟨rfl, rfl, _⟩
  conv => whnf
  intro b4
  repeat (first | refine LoadD.own 1 rfl _ rfl rfl ?_ | refine StoreD.st 1 rfl rfl rfl ?_)
  refine Tri.frameX (ref_PutSuper (decS b) I) [] rfl rfl ?_
  rintro v J5 A' hJ5 ⟨rfl, ⟨hR, rfl, rfl⟩ | ⟨hR, aP, capP, ch, rfl, hO, rfl⟩⟩
  · repeat (first | refine LoadD.own 0 rfl _ rfl rfl ?_ | refine StoreD.st 0 rfl rfl rfl ?_ | refine CmpD.no (by decide) ?_)
    rw [show getS b = none from by unfold getS; rw [if_neg (fun h' => hR h'.1)]]
    exact Done.mk ⟨rfl, rfl⟩
  repeat (first | refine CmpD.yes rfl ?_)
  refine Tri.mono (same_bytes (hO.slC1 2 rfl) h.slC) ?_
  rintro v J6 S' hJ6 ⟨rfl, rfl, rfl⟩
  by_cases e : supL (decS b) = b
  · rw [decide_eq_true e]
    repeat (first | refine LoadD.own 0 rfl _ rfl rfl ?_ | refine LoadD.own 1 rfl _ rfl rfl ?_ | refine StoreD.st 0 rfl rfl rfl ?_)
    rw [show getS b = some (decS b) from by unfold getS; rw [if_pos ⟨hR, e⟩]]
    exact Done.mk ⟨rfl, rfl⟩
  · rw [decide_eq_false e]
    repeat (first | refine LoadD.own 0 rfl _ rfl rfl ?_ | refine StoreD.st 0 rfl rfl rfl ?_)
    rw [show getS b = none from by unfold getS; rw [if_neg (fun h' => e h'.2)]]
    exact Done.mk ⟨rfl, rfl⟩
end Go.Proofs.YtegdcjnjnoeinaaGreat
namespace Go.Proofs.YtegdcjnjnoeinaaGreat
open Go.RowKit Go.Sl
set_option maxRecDepth 20000

theorem r10_Choose {I : Imm} {a1 a2 : Option Addr} {n1 n2 c1 c2 : Nat} {l1 l2 : Dat} (h1 : Rds I a1 n1 (bts l1)) (h2 : Rds I a2 n2 (bts l2)) (hn1 : n1 ≤ 1000000000) (hn2 : n2 ≤ 1000000000) :
    Tri Tryz.prog 115 #[.slice a1 n1 c1, .slice a2 n2 c2] I [] fun v J _ => I = J ∧ v = chooseV (chooseP (getS l1) (getS l2)) := by
  refine Tri.of (args := [.slice a1 n1 c1, .slice a2 n2 c2]) tabOk Tryz.func115 rfl (by kernel_rfl) (by kernel_rfl) ?_
  conv => whnf
  intro b4
  refine Tri.free (ref_GetSuper h1 hn1) ?_
  rintro v J _ hJ ⟨rfl, rfl⟩
  refine Go.Proofs.YtegdcjnjnoeinaaGreat.two_ways (getS l1) (fun s1 e1 => ?_) (fun e1 => ?_)
  all_goals
    rw [e1]
    conv => whnf
    intro b7
    repeat (first | refine StoreD.st 1 rfl rfl rfl ?_)
    refine Tri.free (ref_GetSuper h2 hn2) ?_
    rintro v J _ hJ ⟨rfl, rfl⟩
    refine Go.Proofs.YtegdcjnjnoeinaaGreat.two_ways (getS l2) (fun s2 e2 => ?_) (fun e2 => ?_)
  all_goals
    rw [e2]
    conv => whnf
    intro b9
    repeat (first | refine LoadD.own 0 rfl _ rfl rfl ?_ | refine LoadD.own 1 rfl _ rfl rfl ?_ | refine LoadD.own 2 rfl _ rfl rfl ?_ | refine StoreD.st 0 rfl rfl rfl ?_ | refine StoreD.st 2 rfl rfl rfl ?_ | refine CmpD.yes rfl ?_ | refine CmpD.no (by decide) ?_)
  · refine CmpD.split (fun c1 => ?_) (fun c1 => ?_)
    · repeat (first | refine LoadD.own 1 rfl _ rfl rfl ?_ | refine LoadD.own 2 rfl _ rfl rfl ?_)
      refine CmpD.split (fun c3 => ?_) (fun c3 => ?_)
      · repeat (first | refine LoadD.own 0 rfl _ rfl rfl ?_ | refine LoadD.own 1 rfl _ rfl rfl ?_ | refine StoreD.st 0 rfl rfl rfl ?_)
        refine Done.mk ⟨rfl, ?_⟩
        show _ = chooseV (chooseP (some s1) (some s2))
        rw [chooseP, if_pos (.inr ⟨c1.symm, c3⟩)]; rfl
      · repeat (first | refine LoadD.own 0 rfl _ rfl rfl ?_ | refine LoadD.own 2 rfl _ rfl rfl ?_ | refine StoreD.st 0 rfl rfl rfl ?_)
        refine Done.mk ⟨rfl, ?_⟩
        show _ = chooseV (chooseP (some s1) (some s2))
        rw [chooseP, if_neg (by rintro (h | h); omega; exact c3 h.2)]; rfl
    · repeat (first | refine LoadD.own 1 rfl _ rfl rfl ?_ | refine LoadD.own 2 rfl _ rfl rfl ?_)
      refine CmpD.split (fun c3 => ?_) (fun c3 => ?_)
      · repeat (first | refine LoadD.own 0 rfl _ rfl rfl ?_ | refine LoadD.own 1 rfl _ rfl rfl ?_ | refine StoreD.st 0 rfl rfl rfl ?_)
        refine Done.mk ⟨rfl, ?_⟩
        show _ = chooseV (chooseP (some s1) (some s2))
        rw [chooseP, if_pos (.inl c3)]; rfl
      · repeat (first | refine LoadD.own 0 rfl _ rfl rfl ?_ | refine LoadD.own 2 rfl _ rfl rfl ?_ | refine StoreD.st 0 rfl rfl rfl ?_)
        refine Done.mk ⟨rfl, ?_⟩
        show _ = chooseV (chooseP (some s1) (some s2))
        rw [chooseP, if_neg (by rintro (h | h); exact c3 h; omega)]; rfl
  all_goals
    exact Done.mk ⟨rfl, rfl⟩
end Go.Proofs.YtegdcjnjnoeinaaGreat
namespace Go.Proofs.YtegdcjnjnoeinaaGreat
open Go.RowKit Go.Sl
set_option maxRecDepth 20000

theorem grow_nil (I : Imm) (n : Nat) (hn : n ≤ 1000000000) :
    Tri Tryz.prog 177 #[.slice none 0 0, .int .i64 n] I [] fun v J S' => ∃ a cap ch, v = .slice a 0 cap ∧ OwnB ch a 0 cap [] ∧ I = J ∧ S' = [ch] := by
  refine Tri.lay (S2 := [[]]) (by simp) ?_
  refine Tri.of (args := [.slice none 0 0, .int .i64 n]) tabOk Tryz.func177 rfl (by kernel_rfl) (by kernel_rfl) ?_
  refine CmpD.no (by omega) ?_
  refine capD tabOk rfl rfl rfl rfl rfl rfl ?_
  refine ToD.i64 (by omega) (by omega) ?_
  refine ToD.to (n : Int) (by rw [wrap_i64 (by omega) (by omega)]; omega) ?_
  refine CmpD.split (fun c1 => ?_) (fun c1 => ?_)
  · refine capD tabOk rfl rfl rfl rfl rfl rfl ?_
    refine sliceD tabOk rfl rfl rfl rfl 0 0 0 rfl ⟨_, rfl⟩ rfl (.inl rfl) (by omega) ?_
    refine appendZD tabOk rfl rfl rfl rfl rfl rfl rfl rfl 0 rfl (OwnC.nil 1 none) n rfl rfl (by decide) (by intro v hv; have hv : v ∈ [Value.int .u8 0] := hv; simp at hv; subst hv; rfl) (by show (0 + n) * 1 ≤ _; omega) (by omega) ?_
    intro a1 cap1 ch1 hown1
    refine sliceD tabOk rfl rfl rfl rfl 0 0 cap1 rfl ⟨_, rfl⟩ rfl (.inl rfl) (by omega) ?_
    have := hown1.part 0 0 (Nat.le_refl _) (by omega)
    exact Done.mk ⟨_, cap1 - 0, ch1, rfl, this, rfl, rfl⟩
  · exact Done.mk ⟨none, 0, [], rfl, OwnC.nil 1 none, rfl, rfl⟩
theorem concat_one (c0 : List Blk) {I : Imm} (a : Option Addr) (n cap : Nat) (bks : List Bk) (hn : n ≤ 512) (h : SlC I [c0] a n (bks.map Bk.cell)) (hok : ∀ b ∈ bks, BkOk I b) :
    Tri Tryz.prog 121 #[.slice a n cap] I [c0] fun v J S' => ∃ a' cap' ch, v = .slice a' (n * 4096 : Nat) cap' ∧ OwnB ch a' (n * 4096) cap' (bks.map Bk.data).flatten ∧ I = J ∧ S' = [c0, ch] := by
  have hl : bks.length = n := by have := h.len; rwa [List.length_map] at this
  refine Tri.drop ?_ (fun _ _ _ _ h => h)
  refine Tri.of (args := [.slice a n cap]) tabOk Tryz.func121 rfl (by kernel_rfl) (by kernel_rfl) ?_
  refine CodeF.loopD [0, 3, 9, 10, 11] (fun vs J' S' => ∃ i : Nat, i ≤ n ∧ vs = [.slice a n cap, .int .i64 (i * 4096 : Nat), .slice a n cap, .int .i64 n, .int .i64 i] ∧ I = J' ∧ S' = [c0])
    (fun vs _ _ => match vs with | [_, _, _, _, .int _ i] => ((n : Int) - i).toNat | _ => 0) ?_ ?_
  · exact ⟨_, Drop.pick [0] _ rfl, 0, by omega, rfl, rfl, rfl⟩
  · rintro vs gE J' S' hJ' ⟨i, hi, rfl, rfl, rfl⟩
    refine CmpD.split (fun c1 => ?_) (fun c1 => ?_)
    · have hlt : i < bks.length := by omega
      have hcell : (bks.map Bk.cell)[i]? = some bks[i].cell := by rw [List.getElem?_map, List.getElem?_eq_getElem hlt]; rfl
      rcases h.mem with q0 | ⟨b, off, rfl, hc⟩
      · omega
      refine Chk.mk (by omega) ?_
      refine LoadD.mk [bks[i].cell] (hc.at (i := i) hcell) ?_
      refine ToD.to ((((i + 1) * 4096 : Nat)) : Int) (by rw [wrap_i64 (by omega) (by omega)]; omega) ?_
      refine CmpD.no (by omega) ?_
      refine ToD.i64 (by omega) (by omega) ?_
      refine ⟨_, Drop.pick [0] _ rfl, ⟨i + 1, by omega, rfl, rfl, rfl⟩, ?_⟩
      show ((n : Int) - ((i : Int) + 1)).toNat < ((n : Int) - i).toNat; omega
    · obtain rfl : i = n := by omega
      refine Tri.frame (grow_nil I (i * 4096) (by omega)) [] rfl rfl ?_
      rintro v J A' hJ ⟨aG, capG, chG, rfl, hG, rfl, rfl⟩
      refine ⟨by simp, ?_⟩
      refine CodeF.loopD [6, 25, 26, 27] (fun vs J' S' => ∃ (k : Nat) (aG : Option Addr) (capG : Nat) (chG : List Blk), k ≤ i ∧ OwnB chG aG (k * 4096) capG ((bks.map Bk.data).take k).flatten ∧ vs = [.slice aG (k * 4096 : Nat) capG, .slice a i cap, .int .i64 i, .int .i64 k] ∧ I = J' ∧ S' = [c0, chG])
        (fun vs _ _ => match vs with | [_, _, _, .int _ k] => ((i : Int) - k).toNat | _ => 0) ?_ ?_
      · exact ⟨_, Drop.pick [0, 1] _ rfl, 0, aG, capG, chG, by omega, by rw [Nat.zero_mul]; exact hG, by rw [Nat.zero_mul]; rfl, rfl, rfl⟩
      rintro vs gE2 J2 S2 hJ2 ⟨k, aK, capK, chK, hk, hK, rfl, rfl, rfl⟩
      refine CmpD.split (fun c2 => ?_) (fun c2 => ?_)
      · have hlt : k < bks.length := by omega
        have hcell : (bks.map Bk.cell)[k]? = some bks[k].cell := by rw [List.getElem?_map, List.getElem?_eq_getElem hlt]; rfl
        have hb := hok _ (List.getElem_mem hlt)
        have htk : ((bks.map Bk.data).take (k + 1)).flatten = ((bks.map Bk.data).take k).flatten ++ bks[k].data := by
          rw [List.take_add_one, List.getElem?_map, List.getElem?_eq_getElem hlt]; simp
        generalize bks[k] = bk at *
        rcases (h.more [] (I := I) : SlC I ([c0] ++ [[]]) a i (bks.map Bk.cell)).mem with q0 | ⟨b, off, rfl, _⟩
        · omega
        rcases (h.more chK).mem with q0 | ⟨b2, off2, e2, hc⟩
        · omega
        cases e2
        refine Chk.mk (by omega) ?_
        refine LoadD.mk [bk.cell] (hc.at (i := k) hcell) ?_
        refine appendD tabOk rfl rfl rfl rfl rfl rfl rfl 1 rfl hK (SrcOk.slice (n := 4096) (news := bts bk.data) tabOk rfl (by show SlC _ _ _ (4096 * 1) _; exact Rds.slC hb) (bts_plain _)) rfl (by show (k * 4096 + 4096) * 1 ≤ _; omega) (by omega) ?_
        intro a2 cap2 ch2 hO2
        refine ToD.i64 (by omega) (by omega) ?_
        have e : k * 4096 + 4096 = (k + 1) * 4096 := by omega
        refine ⟨_, Drop.pick [0, 1] _ rfl, ⟨k + 1, a2, cap2, ch2, by omega, ?_, by rw [← e]; rfl, rfl, rfl⟩, ?_⟩
        · rw [htk, ← e, OwnB, bts_append]; exact hO2
        · show ((i : Int) - ((k : Int) + 1)).toNat < ((i : Int) - k).toNat; omega
      · obtain rfl : k = i := by omega
        rw [List.take_of_length_le (by rw [List.length_map]; omega)] at hK
        exact Done.mk ⟨_, Drop.pick [0, 1] _ rfl, aK, capK, chK, rfl, hK, rfl, rfl⟩
theorem dk_Image {I : Imm} {bD : Nat} {st : DSt} {ch : List Blk} (h : Dk I bD st ch) :
    Tri Tryz.prog 50 #[.pointer (some ⟨bD, 0, none⟩)] I [ch] fun v J S' => ∃ a cap chB, v = .slice a (st.now.length * 4096 : Nat) cap ∧ OwnB chB a (st.now.length * 4096) cap st.now.flatten ∧ I = J ∧ S' = [ch, chB] := by
  obtain ⟨hw, d, chS, chN, chW, bS, bN, bW, rfl, hD, q1, q2, q3, q4, q5, q6, q7⟩ := h
  have hl := hD.hN.len1
  have hl' : st.now.length = d.now.len := by rw [← q2]; simpa using hl
  have hr := hw.range
  refine Tri.lay (S2 := [dChunk bD d, chS, chN, chW]) (by simp) ?_
  refine Tri.drop ?_ (fun _ _ _ _ h => h)
  refine Tri.of (args := [.pointer (some ⟨bD, 0, none⟩)]) tabOk Tryz.func50 rfl (by kernel_rfl) (by kernel_rfl) ?_
  refine Tri.frame1 0 rfl (disk_none bD d I) ?_
  rintro v J S' hJ ⟨rfl, rfl, rfl⟩
  refine ⟨_, rfl, ?_⟩
  rw [decide_eq_false (show ¬ d.now.len = 0 by omega)]
  have hslc := hD.hN.slC1 (I := I) (S := [chN]) 0 rfl
  have hc := concat_one chN d.now.a d.now.len d.now.cap bN (by omega) hslc hD.okN
  obtain ⟨⟨sa, sl, sc⟩, ⟨na, nl, nc⟩, ⟨wa, wl, wc⟩, count, down, ⟨ao, al⟩, ⟨fo, fl⟩⟩ := d
  dsimp only at hl hl' hc
  refine LoadD.own 0 rfl [.slice na nl nc] rfl rfl ?_
  refine Tri.frame hc [2] rfl rfl ?_
  rintro v J A' hJ ⟨a', cap', chB, rfl, hB, rfl, rfl⟩
  refine ⟨by simp, ?_⟩
  rw [q2] at hB
  rw [hl']
  exact Done.mk ⟨[_ ++ (chS ++ (chN ++ chW)), chB], Drop.flat (by simp), a', cap', chB, rfl, hB, rfl, rfl⟩
end Go.Proofs.YtegdcjnjnoeinaaGreat
namespace Go.Proofs.YtegdcjnjnoeinaaGreat
open Go.RowKit Go.Sl
set_option maxRecDepth 20000

end Go.Proofs.YtegdcjnjnoeinaaGreat
namespace Go.Proofs.YtegdcjnjnoeinaaGreat
open Go.RowKit Go.Sl
set_option maxRecDepth 20000

theorem get_none {b : Dat} (h : ∀ s, supL s ≠ b) : getS b = none := by
  unfold getS; rw [if_neg (fun h' => h _ h'.2)]
theorem get_zeros : getS (List.replicate 4096 0) = none := get_none fun s h => by
  have e := congrArg (·[0]?) h
  have e1 : (supL s)[0]? = some 76 := rfl
  have e2 : (List.replicate 4096 (0 : UInt8))[0]? = some 0 := by rw [List.getElem?_replicate, if_pos (by omega)]
  simp only [e1, e2] at e
  exact absurd e (by decide)
theorem flush_calm {d : DSt} (h : d.Calm) : d.flush = ({ d with safe := d.now, writes := [] }, 0) := by
  unfold DSt.flush; rw [DSt.stop_calm h]; simp
end Go.Proofs.YtegdcjnjnoeinaaGreat
namespace Go.Proofs.YtegdcjnjnoeinaaGreat
open Go.RowKit Go.Sl
set_option maxRecDepth 20000

theorem own_mem : ∀ {cs : List (List Blk)} {gs : List Img} {J : Imm}, OwnImgs cs gs → (∀ x ∈ cs.flatten, J x.1 = some x.2) → ∀ g ∈ gs, Rds J g.a g.len (bts g.data)
  | [], [], _, _, _, g, hg => by simp at hg
  | c :: cs, x :: gs, J, h, hm, g, hg => by
    rcases List.mem_cons.1 hg with rfl | hg
    · exact Rds.of_own h.1 fun y hy => hm y (by simp [hy])
    · exact own_mem h.2 (fun y hy => hm y (by rw [List.flatten_cons]; exact List.mem_append_right _ hy)) g hg
  | [], _ :: _, _, h, _, _, _ => h.elim
  | _ :: _, [], _, h, _, _, _ => h.elim
/-- Home's answer, fixed -/
theorem home_fix {I : Imm} {aG : Option Addr} {capG : Nat} {l : List Grp} (hG : GrpsR I [] aG l) (hl : l.length ≤ 1000000) (hall : (allI l).length ≤ 1000000) (hfew : ∀ g ∈ allI l, g.len ≤ 100000000) (x : Lay) :
    Tri Tryz.prog 108 #[x.v, .slice aG l.length capG] I [] fun v J _ =>
      ((¬ LayOk x ∧ v = .tuple #[.slice none 0 0, .int .i64 2]) ∨
       (LayOk x ∧ ¬ HomeOk x (allP l) ∧ v = .tuple #[.slice none 0 0, .int .i64 90]) ∨
       (LayOk x ∧ HomeOk x (allP l) ∧ ∃ (aO : Option Addr) (capO : Nat) (outs : List Img), v = .tuple #[.slice aO outs.length capO, .int .i64 0] ∧ ImgsR J [] aO outs ∧ outs.map Img.pr = homeP (allP l))) := by
  refine Tri.fixed (Q := fun v _ S' => ∃ ch, S' = [ch] ∧
      ((¬ LayOk x ∧ v = .tuple #[.slice none 0 0, .int .i64 2]) ∨
       (LayOk x ∧ ¬ HomeOk x (allP l) ∧ v = .tuple #[.slice none 0 0, .int .i64 90]) ∨
       (LayOk x ∧ HomeOk x (allP l) ∧ ∃ (aO : Option Addr) (capO : Nat) (chO : List Blk) (chs : List (List Blk)) (outs : List Img), v = .tuple #[.slice aO outs.length capO, .int .i64 0] ∧ OwnC chO 2 aO outs.length capO (imgCells outs) ∧ OwnImgs chs outs ∧ outs.map Img.pr = homeP (allP l) ∧ ch = chO ++ chs.flatten))) ?_ ?_
  · refine Tri.drop (home_any hG hl hall hfew x) ?_
    rintro v J S' hJ (⟨h, rfl, rfl⟩ | ⟨h1, h2, rfl, rfl⟩ | ⟨h1, h2, aO, capO, chO, chs, outs, rfl, hO, hcs, hpr, rfl⟩)
    · exact ⟨[[]], Drop.flat rfl, [], rfl, .inl ⟨h, rfl⟩⟩
    · exact ⟨[[]], Drop.flat rfl, [], rfl, .inr (.inl ⟨h1, h2, rfl⟩)⟩
    · exact ⟨[chO ++ chs.flatten], Drop.flat (by simp), _, rfl, .inr (.inr ⟨h1, h2, aO, capO, chO, chs, outs, rfl, hO, hcs, hpr, rfl⟩)⟩
  · rintro v J S' hJ ⟨ch, rfl, h⟩
    refine ⟨0, ch, rfl, fun J' hJ' hm => ?_⟩
    rcases h with ⟨h, rfl⟩ | ⟨h1, h2, rfl⟩ | ⟨h1, h2, aO, capO, chO, chs, outs, rfl, hO, hcs, hpr, rfl⟩
    · exact .inl ⟨h, rfl⟩
    · exact .inr (.inl ⟨h1, h2, rfl⟩)
    · refine .inr (.inr ⟨h1, h2, aO, capO, outs, rfl, ⟨(Rds.of_ownS hO fun y hy => hm y (List.mem_append_left _ hy)).slC, fun g hg => ⟨(own_mem hcs (fun y hy => hm y (List.mem_append_right _ hy)) g hg).slC⟩⟩, hpr⟩)
open Classical in
/-- what Home answers -/
noncomputable def homeA (x : Lay) (l : List PImg) : List PImg × Int := if ¬ LayOk x then ([], 2) else if ¬ HomeOk x l then ([], 90) else (homeP l, 0)
theorem homeA_1 {x : Lay} {l : List PImg} (h : ¬ LayOk x) : homeA x l = ([], 2) := by unfold homeA; rw [if_pos h]
theorem homeA_2 {x : Lay} {l : List PImg} (h : LayOk x) (h2 : ¬ HomeOk x l) : homeA x l = ([], 90) := by unfold homeA; rw [if_neg (by simpa using h), if_pos h2]
theorem homeA_3 {x : Lay} {l : List PImg} (h : LayOk x) (h2 : HomeOk x l) : homeA x l = (homeP l, 0) := by unfold homeA; rw [if_neg (by simpa using h), if_neg (by simpa using h2)]
theorem imgsR_nil {I : Imm} {S : St} : ImgsR I S none [] := ⟨⟨rfl, .inl rfl⟩, by simp⟩
theorem home_ref {I : Imm} {aG : Option Addr} {capG : Nat} {l : List Grp} (hG : GrpsR I [] aG l) (hl : l.length ≤ 1000000) (hall : (allI l).length ≤ 1000000) (hfew : ∀ g ∈ allI l, g.len ≤ 100000000) (x : Lay) :
    Tri Tryz.prog 118 #[x.v, .slice aG l.length capG] I [] fun v J _ => ∃ (aO : Option Addr) (capO : Nat) (outs : List Img), v = .tuple #[.slice aO outs.length capO, .int .i64 (homeA x (allP l)).2] ∧ ImgsR J [] aO outs ∧ outs.map Img.pr = (homeA x (allP l)).1 := by
  refine (r10_Home hG hl hall hfew x).mono ?_
  rintro v J S' hJ (⟨h, rfl⟩ | ⟨h1, h2, rfl⟩ | ⟨h1, h2, aO, capO, outs, rfl, hR, hpr⟩)
  · rw [homeA_1 h]; exact ⟨none, 0, [], rfl, imgsR_nil, rfl⟩
  · rw [homeA_2 h1 h2]; exact ⟨none, 0, [], rfl, imgsR_nil, rfl⟩
  · rw [homeA_3 h1 h2]; exact ⟨aO, capO, outs, rfl, ⟨hR.1.slC, fun g hg => ⟨(hR.2 g hg).2.slC⟩⟩, hpr⟩
theorem doP_few {d : DSt} {k : Nat} (h : d.Few k) (l : List PImg) (s : Sup) (slot : Int) : (doP d l s slot).1.Few (k + l.length + 1) := by
  have h1 := wrImgs_few l d k h
  unfold doP
  split
  · exact h.mono (by omega)
  split
  · exact h1.mono (by omega)
  split
  · exact h1.flush.mono (by omega)
  unfold lastWr
  split
  · exact h1.flush.write _ _
  · exact (h1.flush.write _ _).flush
end Go.Proofs.YtegdcjnjnoeinaaGreat
namespace Go.Proofs.YtegdcjnjnoeinaaGreat
open Go.RowKit Go.Sl
set_option maxRecDepth 20000

theorem stampB_eq {e s : Nat} (he : e ≤ 8388608) (hs : s ≤ 549755813888) : stampB e s = be (e * 1099511627776 + s) 8 := by
  unfold stampB
  have h1 : e * 2 ^ 40 % 2 ^ 64 = e * 2 ^ 40 := Nat.mod_eq_of_lt (by omega)
  rw [h1]
  have h2 : e * 2 ^ 40 ||| s = e * 2 ^ 40 + s := by
    rw [Nat.mul_comm, ← Nat.two_pow_add_eq_or_of_lt (by omega)]
  rw [h2]
theorem r6_stamp1 (c0 : List Blk) {I : Imm} (e s : Nat) (he : e ≤ 8388608) (hs : s ≤ 549755813888) (a : Option Addr) (n cap : Nat) :
    Tri Tryz.prog 233 #[.agg #[.int .i64 e, .int .i64 s, .slice a n cap]] I [c0] fun v J S' => ∃ a' cap' ch, v = .slice a' 8 cap' ∧ OwnB ch a' 8 cap' (stampB e s) ∧ I = J ∧ S' = [c0, ch] := by
  refine Tri.drop ?_ (fun _ _ _ _ h => h)
  refine Tri.of (args := [.agg #[.int .i64 e, .int .i64 s, .slice a n cap]]) tabOk Tryz.func233 rfl (by kernel_rfl) (by kernel_rfl) ?_
  conv => whnf
  intro b1
  repeat (first | refine LoadD.own 1 rfl _ rfl rfl ?_)
  refine ToD.to (e : Int) (wrap_u64 e (by omega)) ?_
  refine ToD.to ((e * 1099511627776 : Nat) : Int) (by rw [← wrap_u64 (e * 1099511627776) (by omega)]; congr 1) ?_
  repeat (first | refine LoadD.own 1 rfl _ rfl rfl ?_)
  refine ToD.to (s : Int) (wrap_u64 s (by omega)) ?_
  refine ToD.to ((e * 1099511627776 + s : Nat) : Int) (by rw [← wrap_u64 (e * 1099511627776 + s) (by omega)]; congr 1) ?_
  refine Tri.nf (ref_Add' (a := none) (len := 0) (cap := 0) (l := []) ⟨rfl, .inl rfl⟩ (by omega) (e * 1099511627776 + s) (by omega) 8 (by omega)) ?_
  rintro v J S' hJ ⟨a', cap', ch, rfl, hown, rfl, rfl⟩
  rw [List.nil_append, ← stampB_eq he hs, Nat.zero_add] at hown
  exact Done.mk ⟨[c0, ch], Drop.pick [0, 2] _ rfl, a', cap', ch, by show Value.slice _ _ _ = _; rw [Nat.zero_add], hown, rfl, rfl⟩
theorem r6_stamp {S : St} {I : Imm} (e s : Nat) (he : e ≤ 8388608) (hs : s ≤ 549755813888) (a : Option Addr) (n cap : Nat) :
    Tri Tryz.prog 233 #[.agg #[.int .i64 e, .int .i64 s, .slice a n cap]] I S fun v J S' => ∃ a' cap' ch, v = .slice a' 8 cap' ∧ OwnB ch a' 8 cap' (stampB e s) ∧ I = J ∧ S' = S ++ [ch] := by
  refine Tri.pack ((r6_stamp1 S.flatten e s he hs a n cap).mono ?_)
  rintro r J S' hJ ⟨a', cap', ch, rfl, hown, rfl, rfl⟩
  exact ⟨[ch], rfl, a', cap', ch, rfl, hown, rfl, rfl⟩

theorem right_no {e s : Int} {l : List PImg} {p : Prop} (h : RightP e s l → p) (hn : ¬ p) : Value.bool false = Value.bool (decide (RightP e s l)) := by
  rw [decide_eq_false fun h' => hn (h h')]
set_option maxHeartbeats 4000000 in
theorem r6_Right1 (c0 : List Blk) {I : Imm} (e s : Int) {a : Option Addr} {cap : Nat} {gs : List Img} (h : ImgsR I [c0] a gs) (hlen : gs.length ≤ 1000000000) :
    Tri Tryz.prog 231 #[.agg #[.int .i64 e, .int .i64 s, .slice a gs.length cap]] I [c0] fun v J S' => v = .bool (decide (RightP e s (gs.map Img.pr))) ∧ I = J ∧ S' = [c0] := by
  have hml : (gs.map Img.pr).length = gs.length := List.length_map ..
  refine Tri.drop ?_ (fun _ _ _ _ h => h)
  refine Tri.of (args := [.agg #[.int .i64 e, .int .i64 s, .slice a gs.length cap]]) tabOk Tryz.func231 rfl (by kernel_rfl) (by kernel_rfl) ?_
  conv => whnf
  intro b1
  have no : ∀ p : Prop, (RightP e s (gs.map Img.pr) → p) → ¬ p → ∃ S'', Drop [c0, [(b1, row [.int .i64 e, .int .i64 s, .slice a gs.length cap] 128)]] S'' ∧ Value.bool false = Value.bool (decide (RightP e s (gs.map Img.pr))) ∧ I = I ∧ S'' = [c0] :=
    fun p hp hn => ⟨[c0], Drop.pick [0] _ rfl, right_no hp hn, rfl, rfl⟩
  refine LoadD.own 1 rfl _ rfl rfl ?_
  refine CmpD.split (fun c1 => ?_) (fun c1 => ?_)
  · exact Done.mk (no (1 ≤ e) (fun h => h.1) (by omega))
  refine LoadD.own 1 rfl _ rfl rfl ?_
  refine CmpD.split (fun c2 => ?_) (fun c2 => ?_)
  · exact Done.mk (no (e ≤ 8388608) (fun h => h.2.1) (by omega))
  refine LoadD.own 1 rfl _ rfl rfl ?_
  refine CmpD.split (fun c3 => ?_) (fun c3 => ?_)
  · exact Done.mk (no (1 ≤ s) (fun h => h.2.2.1) (by omega))
  refine LoadD.own 1 rfl _ rfl rfl ?_
  refine CmpD.split (fun c4 => ?_) (fun c4 => ?_)
  · exact Done.mk (no (s ≤ 549755813888) (fun h => h.2.2.2.1) (by omega))
  refine LoadD.own 1 rfl _ rfl rfl ?_
  refine CmpD.split (fun c5 => ?_) (fun c5 => ?_)
  · exact Done.mk (no (1 ≤ gs.length) (fun h => by rw [← hml]; exact h.2.2.2.2.1) (by omega))
  refine LoadD.own 1 rfl _ rfl rfl ?_
  refine CmpD.split (fun c6 => ?_) (fun c6 => ?_)
  · exact Done.mk (no (gs.length ≤ 32) (fun h => by rw [← hml]; exact h.2.2.2.2.2.1) (by omega))
  have hnd : RightP e s (gs.map Img.pr) → (gs.map Img.blk).Nodup := fun h => by have := h.2.2.2.2.2.2.2; rwa [List.map_map] at this
  have hea : RightP e s (gs.map Img.pr) → ∀ g ∈ gs, 0 ≤ g.blk ∧ g.blk < 512 ∧ g.data.length = 4096 := fun h g hg => h.2.2.2.2.2.2.1 g.pr (List.mem_map_of_mem hg)
  refine CodeF.loopD [1, 3] (fun vs J' S' => ∃ (i : Nat), i ≤ gs.length ∧ (∀ g ∈ gs.take i, 0 ≤ g.blk ∧ g.blk < 512 ∧ g.data.length = 4096) ∧ ((gs.take i).map Img.blk).Nodup ∧ vs = [.pointer (some ⟨b1, 0, none⟩), .int .i64 i] ∧ I = J' ∧ S' = [c0, [(b1, row [.int .i64 e, .int .i64 s, .slice a gs.length cap] 128)]])
    (fun vs _ _ => match vs with | [_, .int _ i] => ((gs.length : Int) - i).toNat | _ => 0) ?_ ?_
  · exact ⟨_, Drop.refl _, 0, by omega, by simp, by simp, rfl, rfl, rfl⟩
  rintro vs gE J' S' hJ' ⟨i, hi, hall, hn, rfl, rfl, rfl⟩
  refine LoadD.own 1 rfl _ rfl rfl ?_
  refine CmpD.split (fun c7 => ?_) (fun c7 => ?_)
  · have i1 : i < gs.length := by omega
    obtain ⟨bA, oA, rfl, hcA⟩ := SlC.split h.sl (by omega)
    have hcA' : ∀ L : St, Cells I ([c0] ++ L) bA oA (gs.length * 2) (imgCells gs) := fun L => by
      have := h.sl.mores L
      rcases this.mem with q | ⟨b, o, e, hc⟩
      · omega
      · cases e; exact hc
    have hr := h.each _ (List.getElem_mem i1)
    have hdl : gs[i].data.length = gs[i].len := by have := hr.rd.len; rwa [bts_length] at this
    have hmem := List.getElem_mem i1
    have htake : gs.take (i + 1) = gs.take i ++ [gs[i]] := by rw [List.take_add_one, List.getElem?_eq_getElem i1]; rfl
    have h0 := imgCells_0 i1
    have h1 := imgCells_1 i1
    refine LoadD.own 1 rfl _ rfl rfl ?_
    refine Chk.mk (by omega) ?_
    refine LoadD.mk _ ((hcA' _).at h0) ?_
    refine CmpD.split (fun d1 => ?_) (fun d1 => ?_)
    · exact Done.mk (no (0 ≤ gs[i].blk) (fun h => (hea h _ hmem).1) (by omega))
    refine LoadD.own 1 rfl _ rfl rfl ?_
    refine Chk.mk (by omega) ?_
    refine LoadD.mk _ ((hcA' _).at h0) ?_
    refine CmpD.split (fun d2 => ?_) (fun d2 => ?_)
    · exact Done.mk (no (gs[i].blk < 512) (fun h => (hea h _ hmem).2.1) (by omega))
    refine LoadD.own 1 rfl _ rfl rfl ?_
    refine Chk.mk (by omega) ?_
    refine LoadD.mk _ ((hcA' _).at h1) ?_
    refine CmpD.split (fun (d3 : (gs[i].len : Int) = 4096) => ?_) (fun (d3 : ¬ ((gs[i].len : Int) = 4096)) => ?_)
    rotate_left
    · exact Done.mk (no (gs[i].data.length = 4096) (fun h => (hea h _ hmem).2.2) (by omega))
    refine CodeF.loopD [1, 3, 4] (fun vs J' S' => ∃ (j : Nat), j ≤ i ∧ (∀ g ∈ gs.take j, ¬ g.blk = gs[i].blk) ∧ vs = [.pointer (some ⟨b1, 0, none⟩), .int .i64 i, .int .i64 j] ∧ I = J' ∧ S' = [c0, [(b1, row [.int .i64 e, .int .i64 s, .slice (some ⟨bA, oA, none⟩) gs.length cap] 128)]])
      (fun vs _ _ => match vs with | [_, _, .int _ j] => ((i : Int) - j).toNat | _ => 0) ?_ ?_
    · exact ⟨_, Drop.refl _, 0, by omega, by simp, rfl, rfl, rfl⟩
    rintro vs gE2 J' S' hJ' ⟨j, hj, hne, rfl, rfl, rfl⟩
    refine CmpD.split (fun c8 => ?_) (fun c8 => ?_)
    · have j1 : j < gs.length := by omega
      have hj0 := imgCells_0 j1
      have htj : gs.take (j + 1) = gs.take j ++ [gs[j]] := by rw [List.take_add_one, List.getElem?_eq_getElem j1]; rfl
      refine CodeF.sched [[], [0], [], [0, 1, 2], [0, 1, 2, 3], [0, 1, 2, 3, 4], [], [6], [], [6, 7, 8], [6, 7, 8, 9], [6, 7, 8, 9, 10], [0, 1, 2, 3, 4, 5, 6, 7, 8, 9, 10, 11]] [0, 1, 2, 3, 4, 5, 6, 7, 8, 9, 10, 11, 12] (by kernel_rfl) ?_
      refine LoadP.at 1 rfl _ rfl rfl ?_
      refine Chk.mk (by omega) ?_
      refine LoadP.own 0 _ (hcA.at hj0) ?_
      refine LoadP.at 1 rfl _ rfl rfl ?_
      refine Chk.mk (by omega) ?_
      refine LoadP.own 0 _ (hcA.at h0) ?_
      refine CmpD.split (fun d4 => ?_) (fun d4 => ?_)
      · refine Done.mk (no ((gs.map Img.blk).Nodup) hnd ?_)
        intro hnn
        have := (List.pairwise_iff_getElem.1 hnn) j i (by simpa using j1) (by simpa using i1) (by omega)
        exact this (by simpa using d4)
      · refine ToD.i64 (by omega) (by omega) ?_
        refine ⟨_, Drop.refl _, ⟨j + 1, by omega, ?_, rfl, rfl, rfl⟩, ?_⟩
        · intro g hg
          rw [htj] at hg
          rcases List.mem_append.1 hg with hg | hg
          · exact hne g hg
          · simp only [List.mem_singleton] at hg
            subst hg; exact d4
        · show ((i : Int) - ((j : Int) + 1)).toNat < ((i : Int) - (j : Int)).toNat
          omega
    · obtain rfl : j = i := by omega
      refine ToD.i64 (by omega) (by omega) ?_
      refine ⟨_, Drop.refl _, ⟨j + 1, by omega, ?_, ?_, rfl, rfl, rfl⟩, ?_⟩
      · intro x hx
        rw [htake] at hx
        rcases List.mem_append.1 hx with hx | hx
        · exact hall x hx
        · simp only [List.mem_singleton] at hx
          subst hx
          exact ⟨by omega, by omega, by omega⟩
      · rw [htake, List.map_append, List.nodup_append]
        refine ⟨hn, by simp, ?_⟩
        rintro x hx y hy rfl
        simp only [List.map_cons, List.map_nil, List.mem_singleton] at hy
        subst hy
        obtain ⟨g, hg, hg2⟩ := List.mem_map.1 hx
        exact hne g hg hg2
      · show ((gs.length : Int) - ((j : Int) + 1)).toNat < ((gs.length : Int) - (j : Int)).toNat
        omega
  · obtain rfl : i = gs.length := by omega
    rw [List.take_length] at hall hn
    refine Done.mk ⟨[c0], Drop.pick [0] _ rfl, ?_, rfl, rfl⟩
    show Value.bool true = _
    rw [decide_eq_true]
    refine ⟨by omega, by omega, by omega, by omega, by omega, by omega, ?_, by rw [List.map_map]; exact hn⟩
    intro g hg
    obtain ⟨x, hx, rfl⟩ := List.mem_map.1 hg
    exact hall x hx
theorem r6_Right {S : St} {I : Imm} (e s : Int) {a : Option Addr} {cap : Nat} {gs : List Img} (h : ImgsR I S a gs) (hlen : gs.length ≤ 1000000000) :
    Tri Tryz.prog 231 #[.agg #[.int .i64 e, .int .i64 s, .slice a gs.length cap]] I S fun v J S' => v = .bool (decide (RightP e s (gs.map Img.pr))) ∧ I = J ∧ S' = S := by
  refine Tri.pack ((r6_Right1 _ e s h.pack hlen).mono ?_)
  rintro v J S' hJ ⟨rfl, rfl, rfl⟩
  exact ⟨[], rfl, rfl, rfl, by simp⟩
end Go.Proofs.YtegdcjnjnoeinaaGreat
namespace Go.Proofs.YtegdcjnjnoeinaaGreat
open Go.RowKit Go.Sl
set_option maxRecDepth 20000

theorem slC_part {I : Imm} {S : St} {a : Option Addr} {n cap : Nat} {vs : List Value} (h : SlC I S a n vs) (lo m : Nat) (hm : 0 < m) (hle : lo + m ≤ n) (hc : n ≤ cap) : SlC I S (slAddr a lo cap 1) m ((vs.drop lo).take m) := by
  have hl := h.len
  refine ⟨by rw [List.length_take, List.length_drop]; omega, ?_⟩
  rcases h.mem with q | ⟨b, off, rfl, hc'⟩
  · omega
  · refine .inr ⟨b, off + lo, ?_, hc'.part hle⟩
    unfold slAddr
    rw [if_neg (by omega)]
    simp [add_none]
theorem bts_part (l : Dat) (lo m : Nat) : ((bts l).drop lo).take m = bts ((l.drop lo).take m) := by simp [bts, List.map_take, List.map_drop]
theorem hidP_snoc (l : List PImg) (g : PImg) : hidP (l ++ [g]) = hidP l ++ (be g.1.toNat 2 ++ hidK g.2 8) := by simp [hidP]

set_option maxHeartbeats 4000000 in
theorem r6_head1 (c0 : List Blk) {I : Imm} (e s : Nat) {a : Option Addr} {cap : Nat} {gs : List Img} (h : ImgsR I [c0] a gs) (hcap : ∀ g ∈ gs, g.len ≤ g.cap) (hR : RightP e s (gs.map Img.pr)) :
    Tri Tryz.prog 232 #[.agg #[.int .i64 e, .int .i64 s, .slice a gs.length cap]] I [c0] fun v J S' => ∃ a' cap' ch, v = .slice a' 4096 cap' ∧ OwnB ch a' 4096 cap' (hblk e s (gs.map Img.pr)) ∧ I = J ∧ S' = [c0, ch] := by
  have hml : (gs.map Img.pr).length = gs.length := List.length_map ..
  have hea : ∀ g ∈ gs, 0 ≤ g.blk ∧ g.blk < 512 ∧ g.data.length = 4096 := fun g hg => hR.2.2.2.2.2.2.1 g.pr (List.mem_map_of_mem hg)
  have hlens : ∀ g ∈ gs.map Img.pr, g.2.length = 4096 := hR.lens
  have h32 : gs.length ≤ 32 := by rw [← hml]; exact hR.2.2.2.2.2.1
  have h1 : 1 ≤ gs.length := by rw [← hml]; exact hR.2.2.2.2.1
  have hE := hR.2.1
  have hS := hR.2.2.2.1
  refine Tri.drop ?_ (fun _ _ _ _ h => h)
  refine Tri.of (args := [.agg #[.int .i64 e, .int .i64 s, .slice a gs.length cap]]) tabOk Tryz.func232 rfl (by kernel_rfl) (by kernel_rfl) ?_
  conv => whnf
  intro b1
  obtain ⟨bA, oA, rfl, hcA⟩ := SlC.split h.sl (by omega)
  have hcA' : ∀ L : St, Cells I ([c0] ++ L) bA oA (gs.length * 2) (imgCells gs) := fun L => by
    have := h.sl.mores L
    rcases this.mem with q | ⟨b, o, e, hc⟩
    · omega
    · cases e; exact hc
  refine CodeF.loopD [1, 3, 4] (fun vs J' S' => ∃ (i : Nat) (a3 : Option Addr) (cap3 : Nat) (ch3 : List Blk), i ≤ gs.length ∧ OwnB ch3 a3 (66 * i) cap3 (hidP ((gs.take i).map Img.pr)) ∧ vs = [.pointer (some ⟨b1, 0, none⟩), .slice a3 (66 * i : Nat) cap3, .int .i64 i] ∧ I = J' ∧ S' = [c0, [(b1, row [.int .i64 e, .int .i64 s, .slice (some ⟨bA, oA, none⟩) gs.length cap] 128)], ch3])
    (fun vs _ _ => match vs with | [_, _, .int _ i] => ((gs.length : Int) - i).toNat | _ => 0) ?_ ?_
  · exact ⟨_, Drop.and (Drop.refl _), 0, none, 0, [], by omega, OwnC.nil _ _, rfl, rfl, rfl⟩
  rintro vs gE J' S' hJ' ⟨i, a3, cap3, ch3, hi, h3, rfl, rfl, rfl⟩
  refine LoadD.own 1 rfl _ rfl rfl ?_
  refine CmpD.split (fun c7 => ?_) (fun c7 => ?_)
  · have i1 : i < gs.length := by omega
    have hr := h.each _ (List.getElem_mem i1)
    obtain ⟨q1, q2, q3⟩ := hea _ (List.getElem_mem i1)
    have hcp := hcap _ (List.getElem_mem i1)
    have hdl : gs[i].data.length = gs[i].len := by have := hr.rd.len; rwa [bts_length] at this
    have htake : gs.take (i + 1) = gs.take i ++ [gs[i]] := by rw [List.take_add_one, List.getElem?_eq_getElem i1]; rfl
    have h0 := imgCells_0 i1
    have h1' := imgCells_1 i1
    generalize gs[i] = g at *
    obtain ⟨n, hn⟩ : ∃ n : Nat, g.blk = n := ⟨g.blk.toNat, by omega⟩
    refine LoadD.own 1 rfl _ rfl rfl ?_
    refine Chk.mk (by omega) ?_
    refine LoadD.mk _ ((hcA' _).at h0) ?_
    rw [hn]
    refine ToD.to (n : Int) (wrap_u64 n (by omega)) ?_
    refine Tri.nf (ref_Add' (h3.slC1 2 rfl) (by omega) n (by omega) 2 (by omega)) ?_
    rintro v J S' hJ ⟨a4, cap4, ch4, rfl, h4, rfl, rfl⟩
    refine CodeF.loopD [1, 3, 4, 5] (fun vs J' S' => ∃ (j : Nat) (a3 : Option Addr) (cap3 : Nat) (ch3 : List Blk), j ≤ 8 ∧ OwnB ch3 a3 (66 * i + 2 + 8 * j) cap3 (hidP ((gs.take i).map Img.pr) ++ be n 2 ++ hidK g.data j) ∧ vs = [.pointer (some ⟨b1, 0, none⟩), .slice a3 (66 * i + 2 + 8 * j : Nat) cap3, .int .i64 i, .int .i64 j] ∧ I = J' ∧ S' = [c0, [(b1, row [.int .i64 e, .int .i64 s, .slice (some ⟨bA, oA, none⟩) gs.length cap] 128)], ch3])
      (fun vs _ _ => match vs with | [_, _, _, .int _ j] => ((8 : Int) - j).toNat | _ => 0) ?_ ?_
    · exact ⟨_, Drop.pick [0, 1, 3] _ rfl, 0, a4, cap4, ch4, by omega, by rw [hidK_zero, List.append_nil]; exact h4, rfl, rfl, rfl⟩
    rintro vs gE2 J' S' hJ' ⟨j, a5, cap5, ch5, hj, h5, rfl, rfl, rfl⟩
    refine CmpD.split (fun c8 => ?_) (fun c8 => ?_)
    · refine LoadD.own 1 rfl _ rfl rfl ?_
      refine Chk.mk (by omega) ?_
      refine LoadD.mk _ ((hcA' _).at h1') ?_
      refine ToD.to ((j * 512 : Nat) : Int) (by rw [wrap_i64 (by omega) (by omega)]; omega) ?_
      refine ToD.to ((j * 512 : Nat) : Int) (by rw [wrap_i64 (by omega) (by omega)]; omega) ?_
      refine ToD.to ((j * 512 + 8 : Nat) : Int) (by rw [wrap_i64 (by omega) (by omega)]; omega) ?_
      refine sliceD tabOk rfl rfl rfl rfl (j * 512) (j * 512 + 8) g.cap ⟨_, rfl⟩ ⟨_, rfl⟩ rfl (.inl rfl) (by omega) ?_
      rw [show j * 512 + 8 - j * 512 = 8 by omega]
      refine appendD tabOk rfl rfl rfl rfl rfl rfl rfl 2 rfl h5 (SrcOk.slice (n := 8) (news := bts ((g.data.drop (j * 512)).take 8)) tabOk rfl (by rw [← bts_part]; exact SlC.mores (slC_part hr.rd (cap := g.cap) (j * 512) 8 (by omega) (by omega) hcp) [_, _]) (bts_plain _)) rfl (by show (66 * i + 2 + 8 * j + 8) * 1 ≤ _; omega) (by omega) ?_
      intro a6 cap6 ch6 h6
      refine ToD.i64 (by omega) (by omega) ?_
      refine ⟨_, Drop.refl _, ⟨j + 1, a6, cap6, ch6, by omega, ?_, rfl, rfl, rfl⟩, ?_⟩
      · rw [hidK_succ, OwnB, ← List.append_assoc, bts_append]
        exact h6
      · show ((8 : Int) - ((j : Int) + 1)).toNat < ((8 : Int) - (j : Int)).toNat
        omega
    · obtain rfl : j = 8 := by omega
      refine ToD.i64 (by omega) (by omega) ?_
      refine ⟨_, Drop.refl _, ⟨i + 1, a5, cap5, ch5, by omega, ?_, rfl, rfl, rfl⟩, ?_⟩
      · rw [htake, List.map_append, List.map_cons, List.map_nil, hidP_snoc]
        show OwnB _ _ _ _ (_ ++ (be g.blk.toNat 2 ++ hidK g.data 8))
        rw [hn, Int.toNat_natCast, ← List.append_assoc]
        exact h5
      · show ((gs.length : Int) - ((i : Int) + 1)).toNat < ((gs.length : Int) - (i : Int)).toNat
        omega
  · obtain rfl : i = gs.length := by omega
    rw [List.take_length] at h3
    refine CodeF.loopD [1, 3] (fun vs J' S' => ∃ (k : Nat) (a3 : Option Addr) (cap3 : Nat) (ch3 : List Blk), k ≤ 4026 - 66 * gs.length ∧ OwnB ch3 a3 (66 * gs.length + k) cap3 (hidP (gs.map Img.pr) ++ List.replicate k 0) ∧ vs = [.pointer (some ⟨b1, 0, none⟩), .slice a3 (66 * gs.length + k : Nat) cap3] ∧ I = J' ∧ S' = [c0, [(b1, row [.int .i64 e, .int .i64 s, .slice (some ⟨bA, oA, none⟩) gs.length cap] 128)], ch3])
      (fun vs _ _ => match vs with | [_, .slice _ n _] => 4026 - n | _ => 0) ?_ ?_
    · exact ⟨_, Drop.refl _, 0, a3, cap3, ch3, by omega, by rw [List.replicate_zero, List.append_nil]; exact h3, rfl, rfl, rfl⟩
    rintro vs gE2 J' S' hJ' ⟨k, a4, cap4, ch4, hk, h4, rfl, rfl, rfl⟩
    refine CmpD.split (fun c8 => ?_) (fun c8 => ?_)
    · conv => whnf
      intro bN
      refine appendD tabOk rfl rfl rfl rfl rfl rfl rfl 2 rfl h4 (SrcOk.slice (n := 1) (news := bts [0]) tabOk rfl ((OwnC.whole (len := 1) (size := 1) rfl).slC 3 rfl) (bts_plain _)) rfl (by show (66 * gs.length + k + 1) * 1 ≤ _; omega) (by omega) ?_
      intro a6 cap6 ch6 h6
      refine ⟨_, Drop.pick [0, 1, 2] _ rfl, ⟨k + 1, a6, cap6, ch6, by omega, ?_, rfl, rfl, rfl⟩, ?_⟩
      · rw [List.replicate_succ', ← List.append_assoc, OwnB, bts_append]
        exact h6
      · show 4026 - (66 * gs.length + k + 1) < 4026 - (66 * gs.length + k)
        omega
    · have hk2 : 66 * gs.length + k = 4026 := by omega
      have hlist : hidP (gs.map Img.pr) ++ List.replicate k 0 = listP (gs.map Img.pr) := by
        rw [listP, hml, show 4026 - 66 * gs.length = k by omega]
      rw [hk2, hlist] at h4
      rw [hk2]
      have hcrc : crcMore 0 (listP (gs.map Img.pr)) < 4294967296 := Nat.xor_lt_two_pow (n := 32) (crcReg_lt (by decide) _) (by decide)
      refine LoadD.own 1 rfl _ rfl rfl ?_
      refine ToD.to (gs.length : Int) (wrap_u64 gs.length (by omega)) ?_
      refine Tri.nf (ref_Add' (a := none) (len := 0) (cap := 0) (l := []) ⟨rfl, .inl rfl⟩ (by omega) gs.length (by omega) 2 (by omega)) ?_
      rintro v J S' hJ ⟨a5, cap5, ch5, rfl, h5, rfl, rfl⟩
      refine Tri.nf (ref_More 0 (by omega) (h4.slC1 2 rfl) (by omega)) ?_
      rintro v J S' hJ ⟨rfl, rfl, rfl⟩
      refine ToD.to ((crcMore 0 (listP (gs.map Img.pr)) : Nat) : Int) (wrap_u64 _ (by omega)) ?_
      refine Tri.nf (ref_Add' (h5.slC1 3 rfl) (by omega) _ (by omega) 4 (by omega)) ?_
      rintro v J S' hJ ⟨a6, cap6, ch6, rfl, h6, rfl, rfl⟩
      refine appendD tabOk rfl rfl rfl rfl rfl rfl rfl 4 rfl h6 (SrcOk.slice (n := 4026) tabOk rfl (h4.slC 2 rfl) (bts_plain _)) rfl (by show (0 + 2 + 4 + 4026) * 1 ≤ _; omega) (by omega) ?_
      intro a7 cap7 ch7 h7
      have h7 : OwnB ch7 a7 4032 cap7 (headP (gs.map Img.pr)) := by
        rw [headP, hml, OwnB, bts_append]
        exact h7
      have hc7 := h7.le
      refine CodeF.loopD [1, 6, 7, 8] (fun vs J' S' => ∃ (k : Nat) (a8 : Option Addr) (cap8 : Nat) (ch8 : List Blk), k ≤ 8 ∧ OwnB ch8 a8 (512 * k) cap8 (sprK (stampB e s) (headP (gs.map Img.pr)) k) ∧ vs = [.pointer (some ⟨b1, 0, none⟩), .slice a7 4032 cap7, .slice a8 (512 * k : Nat) cap8, .int .i64 k] ∧ I = J' ∧ S' = [c0, [(b1, row [.int .i64 e, .int .i64 s, .slice (some ⟨bA, oA, none⟩) gs.length cap] 128)], ch7, ch8])
        (fun vs _ _ => match vs with | [_, _, _, .int _ k] => ((8 : Int) - k).toNat | _ => 0) ?_ ?_
      · exact ⟨_, Drop.and (Drop.pick [0, 1, 4] _ rfl), 0, none, 0, [], by omega, by rw [sprK_zero]; exact OwnC.nil _ _, rfl, rfl, rfl⟩
      rintro vs gE3 J' S' hJ' ⟨k, a8, cap8, ch8, hk, h8, rfl, rfl, rfl⟩
      refine CmpD.split (fun c9 => ?_) (fun c9 => ?_)
      · refine LoadD.own 1 rfl _ rfl rfl ?_
        refine Tri.nf (r6_stamp e s (by omega) (by omega) _ _ _) ?_
        rintro v J S' hJ ⟨aM, capM, chM, rfl, hM, rfl, rfl⟩
        refine appendD tabOk rfl rfl rfl rfl rfl rfl rfl 3 rfl h8 (SrcOk.slice (n := 8) tabOk rfl (hM.slC 4 rfl) (bts_plain _)) rfl (by show (512 * k + 8) * 1 ≤ _; omega) (by omega) ?_
        intro a9 cap9 ch9 h9
        refine ToD.to ((k * 504 : Nat) : Int) (by rw [wrap_i64 (by omega) (by omega)]; omega) ?_
        refine ToD.to ((k + 1 : Nat) : Int) (by rw [wrap_i64 (by omega) (by omega)]; omega) ?_
        refine ToD.to ((k * 504 + 504 : Nat) : Int) (by rw [wrap_i64 (by omega) (by omega)]; omega) ?_
        refine sliceD tabOk rfl rfl rfl rfl (k * 504) (k * 504 + 504) cap7 ⟨_, rfl⟩ ⟨_, rfl⟩ rfl (.inl rfl) (by omega) ?_
        rw [show k * 504 + 504 - k * 504 = 504 by omega]
        refine appendD tabOk rfl rfl rfl rfl rfl rfl rfl 3 rfl h9 (SrcOk.slice (n := 504) (news := bts (((headP (gs.map Img.pr)).drop (k * 504)).take 504)) tabOk rfl (by rw [← bts_part]; exact (slC_part (h7.slC1 2 rfl) (cap := cap7) (k * 504) 504 (by omega) (by omega) hc7)) (bts_plain _)) rfl (by show (512 * k + 8 + 504) * 1 ≤ _; omega) (by omega) ?_
        intro a10 cap10 ch10 h10
        refine ToD.i64 (by omega) (by omega) ?_
        refine ⟨_, Drop.pick [0, 1, 2, 3] _ rfl, ⟨k + 1, a10, cap10, ch10, by omega, ?_, ?_, rfl, rfl⟩, ?_⟩
        · rw [sprK_succ, OwnB, bts_append, bts_append, show 512 * (k + 1) = 512 * k + 8 + 504 by omega]
          exact h10
        · rw [show 512 * (k + 1) = 512 * k + 8 + 504 by omega]; rfl
        · show ((8 : Int) - ((k : Int) + 1)).toNat < ((8 : Int) - (k : Int)).toNat
          omega
      · obtain rfl : k = 8 := by omega
        exact Done.mk ⟨[c0, ch8], Drop.pick [0, 3] _ rfl, a8, cap8, ch8, rfl, h8, rfl, rfl⟩
theorem r6_head {S : St} {I : Imm} (e s : Nat) {a : Option Addr} {cap : Nat} {gs : List Img} (h : ImgsR I S a gs) (hcap : ∀ g ∈ gs, g.len ≤ g.cap) (hR : RightP e s (gs.map Img.pr)) :
    Tri Tryz.prog 232 #[.agg #[.int .i64 e, .int .i64 s, .slice a gs.length cap]] I S fun v J S' => ∃ a' cap' ch, v = .slice a' 4096 cap' ∧ OwnB ch a' 4096 cap' (hblk e s (gs.map Img.pr)) ∧ I = J ∧ S' = S ++ [ch] := by
  refine Tri.pack ((r6_head1 S.flatten e s h.pack hcap hR).mono ?_)
  rintro r J S' hJ ⟨a', cap', ch, rfl, hown, rfl, rfl⟩
  exact ⟨[ch], rfl, a', cap', ch, rfl, hown, rfl, rfl⟩
end Go.Proofs.YtegdcjnjnoeinaaGreat
namespace Go.Proofs.YtegdcjnjnoeinaaGreat
open Go.RowKit Go.Sl
set_option maxRecDepth 20000

theorem bts_set {x y : Dat} {p : Nat} {v : UInt8} (hp : p < x.length) (h : y = x.set p v) : bts y = (bts x).take p ++ [byte v] ++ (bts x).drop (p + 1) := by
  subst h
  rw [List.set_eq_take_append_cons_drop, if_pos hp]
  simp [bts, List.map_take, List.map_drop]
def gen (f g : Nat → UInt8) (q : Nat) : Dat := (List.range 4096).map fun j => if j < q then f j else g j
theorem gen_length (f g : Nat → UInt8) (q : Nat) : (gen f g q).length = 4096 := by simp [gen]
theorem gen_get (f g : Nat → UInt8) (q : Nat) {j : Nat} (h : j < 4096) : (gen f g q)[j]? = some (if j < q then f j else g j) := by simp [gen, h]
theorem getD_get {l : Dat} {j : Nat} (h : j < l.length) : l[j]? = some (l.getD j 0) := by
  rw [List.getD_eq_getElem?_getD, List.getElem?_eq_getElem h]; rfl
theorem gen_zero (f : Nat → UInt8) {l : Dat} (hl : l.length = 4096) : gen f (fun j => l.getD j 0) 0 = l := by
  refine ext4096 (gen_length _ _ _) hl fun j hj => ?_
  rw [gen_get _ _ _ hj, if_neg (by omega), getD_get (by omega)]
theorem gen_skip (f g : Nat → UInt8) {q : Nat} (h : f q = g q) : gen f g (q + 1) = gen f g q := by
  refine ext4096 (gen_length _ _ _) (gen_length _ _ _) fun j hj => ?_
  rw [gen_get _ _ _ hj, gen_get _ _ _ hj]
  by_cases h1 : j < q
  · rw [if_pos h1, if_pos (by omega)]
  · rw [if_neg h1]
    by_cases h2 : j = q
    · subst h2; rw [if_pos (by omega), h]
    · rw [if_neg (by omega)]
theorem gen_step (f g : Nat → UInt8) {q : Nat} (hq : q < 4096) : gen f g (q + 1) = (gen f g q).set q (f q) := by
  apply List.ext_getElem?
  intro j
  rcases Nat.lt_or_ge j 4096 with hj | hj
  · rw [gen_get _ _ _ hj]
    by_cases h2 : q = j
    · subst h2; rw [List.getElem?_set_self (by rw [gen_length]; exact hq), if_pos (by omega)]
    · rw [List.getElem?_set_ne h2, gen_get _ _ _ hj]
      by_cases h1 : j < q
      · rw [if_pos h1, if_pos (by omega)]
      · rw [if_neg h1, if_neg (by omega)]
  · rw [List.getElem?_eq_none (by rw [gen_length]; exact hj), List.getElem?_eq_none (by rw [List.length_set, gen_length]; exact hj)]
/-- marked, byte by byte -/
def mrkF (m l : Dat) (j : Nat) : UInt8 := if j % 512 < 8 then m.getD (j % 512) 0 else l.getD j 0
theorem gen_mark {m l : Dat} (hm : m.length = 8) (hl : l.length = 4096) : gen (mrkF m l) (fun j => l.getD j 0) 4096 = markK m l 8 := by
  have hk := markK_length (l := l) hm 8 (by omega) (by omega)
  refine ext4096 (gen_length _ _ _) (by omega) fun j hj => ?_
  rw [gen_get _ _ _ hj, if_pos hj, markK_at hm hl 8 (by omega) j hj, mrkF]
  by_cases h : j % 512 < 8
  · rw [if_pos h, if_pos ⟨by omega, h⟩, getD_get (by omega)]
  · rw [if_neg h, if_neg (by omega), getD_get (by omega)]
/-- filled, byte by byte -/
def filF (l r : Dat) (j : Nat) : UInt8 := if 8 ≤ j % 512 then r.getD j 0 else l.getD j 0
theorem gen_fill {r hid : Dat} (hr : r.length = 4096) (hh : hid.length = 64) : gen (filF (shoK noughts hid 8) r) (fun j => (shoK noughts hid 8).getD j 0) 4096 = shoK r hid 8 := by
  have hz := shoK_length noughts_length hh 8 (by omega)
  have hk := shoK_length hr hh 8 (by omega)
  refine ext4096 (gen_length _ _ _) (by omega) fun j hj => ?_
  rw [gen_get _ _ _ hj, if_pos hj, shoK_at hr hh 8 (by omega) j hj, filF]
  by_cases h : 8 ≤ j % 512
  · rw [if_pos h, if_neg (by omega), getD_get (by omega)]
  · rw [if_neg h, if_pos (by omega), ← getD_get (by omega), shoK_at noughts_length hh 8 (by omega) j hj, if_pos (by omega)]
/-- the hidden bytes, one by one -/
def shw (hid : Dat) (n : Nat) : Dat := (List.range 4096).map fun j => if j % 512 < 8 ∧ 8 * (j / 512) + j % 512 < n then hid.getD (8 * (j / 512) + j % 512) 0 else 0
theorem shw_length (hid : Dat) (n : Nat) : (shw hid n).length = 4096 := by simp [shw]
theorem shw_get (hid : Dat) (n : Nat) {j : Nat} (h : j < 4096) : (shw hid n)[j]? = some (if j % 512 < 8 ∧ 8 * (j / 512) + j % 512 < n then hid.getD (8 * (j / 512) + j % 512) 0 else 0) := by simp [shw, h]
theorem noughts_get {j : Nat} (h : j < 4096) : noughts[j]? = some 0 := by
  unfold noughts
  rw [List.getElem?_replicate, if_pos h]
theorem shw_zero (hid : Dat) : shw hid 0 = noughts := by
  refine ext4096 (shw_length _ _) noughts_length fun j hj => ?_
  rw [shw_get _ _ hj, if_neg (by omega), noughts_get hj]
theorem shw_all {hid : Dat} (hh : hid.length = 64) : shw hid 64 = shoK noughts hid 8 := by
  have hz := shoK_length noughts_length hh 8 (by omega)
  refine ext4096 (shw_length _ _) hz fun j hj => ?_
  rw [shw_get _ _ hj, shoK_at noughts_length hh 8 (by omega) j hj]
  by_cases h : j % 512 < 8
  · rw [if_pos (by omega), if_pos (by omega), getD_get (by omega)]
  · rw [if_neg (by omega), if_neg (by omega), noughts_get hj]
theorem shw_step (hid : Dat) (n : Nat) : shw hid (n + 1) = (shw hid n).set (n / 8 * 512 + n % 8) (hid.getD n 0) := by
  apply List.ext_getElem?
  intro j
  rcases Nat.lt_or_ge j 4096 with hj | hj
  · rw [shw_get _ _ hj]
    by_cases h2 : n / 8 * 512 + n % 8 = j
    · rw [h2, List.getElem?_set_self (by rw [shw_length]; exact hj), if_pos (by omega), show 8 * (j / 512) + j % 512 = n by omega]
    · rw [List.getElem?_set_ne h2, shw_get _ _ hj]
      by_cases h1 : j % 512 < 8 ∧ 8 * (j / 512) + j % 512 < n
      · rw [if_pos h1, if_pos (by omega)]
      · rw [if_neg h1, if_neg (by omega)]
  · rw [List.getElem?_eq_none (by rw [shw_length]; exact hj), List.getElem?_eq_none (by rw [List.length_set, shw_length]; exact hj)]
/-- gathered, byte by byte -/
def cq (q : Nat) : Nat := q / 512 * 504 + (q % 512 - 8)
theorem gat_step {b : Dat} (hb : b.length = 4096) {q : Nat} (hq : q < 4096) (h8 : 8 ≤ q % 512) : (gatK b 8).take (cq (q + 1)) = (gatK b 8).take (cq q) ++ [b.getD q 0] ∧ cq (q + 1) = cq q + 1 := by
  have e : cq (q + 1) = cq q + 1 := by unfold cq; omega
  have hc : cq q < 4032 := by unfold cq; omega
  have hg := gatK_at hb 8 (by omega) (cq q) (by omega)
  have hi : cq q / 504 * 512 + 8 + cq q % 504 = q := by unfold cq; omega
  rw [hi, getD_get (l := b) (j := q) (by omega)] at hg
  exact ⟨by rw [e, List.take_add_one, hg]; rfl, e⟩
theorem cq_skip {q : Nat} (h8 : ¬ 8 ≤ q % 512) : cq (q + 1) = cq q := by unfold cq; omega
theorem cq_all {b : Dat} (hb : b.length = 4096) : (gatK b 8).take (cq 4096) = gatK b 8 := by
  have := gatK_length hb 8 (by omega)
  exact List.take_of_length_le (by unfold cq; omega)
theorem hidB_get {b : Dat} (hb : b.length = 4096) {i n : Nat} (hi : i < 32) (hn : n < 64) : (gatK b 8)[8 + 66 * i + n]? = some ((hidB b i).getD n 0) := by
  have hg := gatK_length hb 8 (by omega)
  have hl : (hidB b i).length = 64 := by unfold hidB; rw [List.length_take, List.length_drop]; omega
  rw [← getD_get (by omega), hidB, List.getElem?_take, if_pos hn, List.getElem?_drop]
theorem hidB_length {b : Dat} (hb : b.length = 4096) {i : Nat} (hi : i < 32) : (hidB b i).length = 64 := by
  have hg := gatK_length hb 8 (by omega)
  unfold hidB; rw [List.length_take, List.length_drop]; omega
end Go.Proofs.YtegdcjnjnoeinaaGreat
