/- Layer 7: contracts of the document's functions (ledgerstoneref07). -/
import Derived.Test.YthlcdoabjgdpiaaRing
namespace Go.Proofs.Ythlcdoabjgdpiaa
open Go.RowKit Go.Sl

theorem ref_Right (s t u h : Int) (I : Imm) (hs : In64 s) (ht : In64 t) (hu : In64 u) (hh : In64 h) : Tri Try.prog 20 #[rg s t u h] I [] fun v J _ => ∃ b, v = .bool b ∧ (b = true ↔ Ok s t u h) ∧ I = J := by
  unfold In64 at *
  refine Tri.of (args := [rg s t u h]) tabOk Try.func20 rfl (by kernel_rfl) (by kernel_rfl) ?_
  conv => whnf
  intro b
  refine LoadD.own 0 rfl _ rfl rfl ?_
  refine CmpD.split (fun c => ?_) (fun c => ?_)
  · refine Done.mk ⟨_, rfl, ?_, rfl⟩
    simp only [Ok, Bool.false_eq_true, false_iff]; omega
  refine LoadD.own 0 rfl _ rfl rfl ?_
  refine CmpD.split (fun c => ?_) (fun c => ?_)
  · refine Done.mk ⟨_, rfl, ?_, rfl⟩
    simp only [Ok, Bool.false_eq_true, false_iff]; omega
  refine LoadD.own 0 rfl _ rfl rfl ?_
  refine CmpD.split (fun c => ?_) (fun c => ?_)
  · refine Done.mk ⟨_, rfl, ?_, rfl⟩
    simp only [Ok, Bool.false_eq_true, false_iff]; omega
  iterate 2 refine LoadD.own 0 rfl _ rfl rfl ?_
  refine CmpD.split (fun c => ?_) (fun c => ?_)
  · refine Done.mk ⟨_, rfl, ?_, rfl⟩
    simp only [Ok, Bool.false_eq_true, false_iff]; omega
  refine LoadD.own 0 rfl _ rfl rfl ?_
  refine CmpD.split (fun c => ?_) (fun c => ?_)
  case refine_2 =>
    refine Done.mk ⟨_, rfl, ?_, rfl⟩
    simp only [Ok, Bool.false_eq_true, false_iff]; omega
  refine LoadD.own 0 rfl _ rfl rfl ?_
  refine CmpD.split (fun c => ?_) (fun c => ?_)
  case refine_2 =>
    refine Done.mk ⟨_, rfl, ?_, rfl⟩
    simp only [Ok, Bool.false_eq_true, false_iff]; omega
  refine LoadD.own 0 rfl _ rfl rfl ?_
  refine CmpD.split (fun c => ?_) (fun c => ?_)
  case refine_2 =>
    refine Done.mk ⟨_, rfl, ?_, rfl⟩
    simp only [Ok, Bool.false_eq_true, false_iff]; omega
  refine LoadD.own 0 rfl _ rfl rfl ?_
  refine CmpD.split (fun c => ?_) (fun c => ?_)
  case refine_2 =>
    refine Done.mk ⟨_, rfl, ?_, rfl⟩
    simp only [Ok, Bool.false_eq_true, false_iff]; omega
  iterate 2 refine LoadD.own 0 rfl _ rfl rfl ?_
  refine ToD.i64 (by omega) (by omega) ?_
  refine LoadD.own 0 rfl _ rfl rfl ?_
  refine CmpD.keep ?_
  refine Done.mk ⟨_, rfl, ?_, rfl⟩
  simp only [Ok, decide_eq_true_eq]; omega

theorem ref_next (s t u h a : Int) (I : Imm) (ha : 0 ≤ a ∧ a < 512) : Tri Try.prog 23 #[rg s t u h, .int .i64 a] I [] fun v J _ => v = .int .i64 (if a + 1 = s then 0 else a + 1) ∧ I = J := by
  refine Tri.of (args := [rg s t u h, .int .i64 a]) tabOk Try.func23 rfl (by kernel_rfl) (by kernel_rfl) ?_
  conv => whnf
  intro b
  refine ToD.i64 (by omega) (by omega) ?_
  refine LoadD.own 0 rfl _ rfl rfl ?_
  refine CmpD.split (fun c => ?_) (fun c => ?_)
  · refine Done.mk ⟨?_, rfl⟩
    rw [if_pos c]; rfl
  refine ToD.i64 (by omega) (by omega) ?_
  refine Done.mk ⟨?_, rfl⟩
  rw [if_neg c]; rfl

/-- one place on -/
theorem next_mod {s a k : Int} (hs : 1 ≤ s) : (if (a + k) % s + 1 = s then 0 else (a + k) % s + 1) = (a + (k + 1)) % s := by
  have h0 := Int.emod_nonneg (a + k) (show s ≠ 0 by omega)
  have h1 := Int.emod_lt_of_pos (a + k) (show 0 < s by omega)
  have e : (a + (k + 1)) % s = ((a + k) % s + 1) % s := by
    rw [Int.emod_add_emod]; congr 1; omega
  rw [e]
  split
  · rename_i hh; rw [hh, Int.emod_self]
  · exact (Int.emod_eq_of_lt (a := (a + k) % s + 1) (b := s) (by omega) (by omega)).symm

section
variable (s t u h n : Int) (I : Imm) (hs : In64 s) (ht : In64 t) (hu : In64 u) (hh : In64 h) (hn : In64 n)
include hs ht hu hh
theorem ref_Free : Tri Try.prog 21 #[rg s t u h] I [] fun v J _ => v = .int .i64 (if Ok s t u h then s - u - h else 0) ∧ I = J := by
  have hR := ref_Right s t u h I hs ht hu hh
  unfold In64 at *
  refine Tri.of (args := [rg s t u h]) tabOk Try.func21 rfl (by kernel_rfl) (by kernel_rfl) ?_
  conv => whnf
  intro b
  refine LoadD.own 0 rfl _ rfl rfl ?_
  refine Tri.free hR ?_
  rintro v J _ hJ ⟨b1, rfl, h1, rfl⟩
  cases b1
  · refine Done.mk ⟨?_, rfl⟩
    rw [if_neg (by simpa using h1)]; rfl
  replace h1 := h1.1 rfl
  have h1' := h1
  unfold Ok at h1'
  iterate 3 refine LoadD.own 0 rfl _ rfl rfl ?_
  refine ToD.i64 (by omega) (by omega) ?_
  refine ToD.to (s - u - h) (by rw [wrap_i64 (by omega) (by omega)]; omega) ?_
  refine Done.mk ⟨?_, rfl⟩
  rw [if_pos h1]; rfl

include hn
theorem ref_At : Tri Try.prog 15 #[rg s t u h, .int .i64 n] I [] fun v J _ => ∃ a e, v = .tuple #[.int .i64 a, .int .i64 e] ∧ (a, e) = atS s t u h n ∧ I = J := by
  have hR := ref_Right s t u h I hs ht hu hh
  unfold In64 at *
  refine Tri.of (args := [rg s t u h, .int .i64 n]) tabOk Try.func15 rfl (by kernel_rfl) (by kernel_rfl) ?_
  conv => whnf
  intro b
  refine LoadD.own 0 rfl _ rfl rfl ?_
  refine Tri.free hR ?_
  rintro v J _ hJ ⟨b1, rfl, h1, rfl⟩
  cases b1
  · refine Done.mk ⟨_, _, rfl, ?_, rfl⟩
    rw [atS, if_pos (.inl (by simpa using h1))]
  replace h1 := h1.1 rfl
  have h1' := h1
  unfold Ok at h1'
  refine CmpD.split (fun c => ?_) (fun c => ?_)
  · refine Done.mk ⟨_, _, rfl, ?_, rfl⟩
    rw [atS, if_pos (.inr (.inl c))]
  refine LoadD.own 0 rfl _ rfl rfl ?_
  refine CmpD.split (fun c2 => ?_) (fun c2 => ?_)
  · refine Done.mk ⟨_, _, rfl, ?_, rfl⟩
    rw [atS, if_pos (.inr (.inr c2))]
  refine LoadD.own 0 rfl _ rfl rfl ?_
  refine CodeF.loopD [1, 2, 6] (fun vs J S' => ∃ k : Int, 0 ≤ k ∧ k ≤ n ∧ vs = [.int .i64 (n - k), .pointer (some ⟨b, 0, none⟩), .int .i64 ((t + k) % s)] ∧ I = J ∧ S' = [[(b, row [.int .i64 s, .int .i64 t, .int .i64 u, .int .i64 h] 25)]])
    (fun vs _ _ => match vs with | .int _ k :: _ => k.toNat | _ => 0) ?_ ?_
  · refine ⟨_, Drop.refl _, 0, by omega, by omega, ?_, rfl, rfl⟩
    rw [Int.add_zero, Int.emod_eq_of_lt (by omega) (by omega), Int.sub_zero]; rfl
  · rintro vs g J S' hJ ⟨k, hk0, hk1, rfl, rfl, rfl⟩
    have hm0 := Int.emod_nonneg (t + k) (show s ≠ 0 by omega)
    have hm1 := Int.emod_lt_of_pos (t + k) (show 0 < s by omega)
    refine CmpD.split (fun c => ?_) (fun c => ?_)
    · refine LoadD.own 0 rfl _ rfl rfl ?_
      refine Tri.free (ref_next s t u h _ _ (by omega)) ?_
      rintro v J' _ hJ' ⟨rfl, rfl⟩
      refine ToD.i64 (by omega) (by omega) ?_
      refine ⟨_, Drop.refl _, ⟨k + 1, by omega, by omega, ?_, rfl, rfl⟩, ?_⟩
      · rw [← next_mod (by omega), show n - (k + 1) = n - k - 1 from by omega]; rfl
      · show (n - k - 1).toNat < (n - k).toNat; omega
    · obtain rfl : k = n := by omega
      refine Done.mk ⟨_, _, rfl, ?_, rfl⟩
      rw [atS, if_neg (by unfold Ok; omega)]

theorem ref_Reserve : Tri Try.prog 16 #[rg s t u h, .int .i64 n] I [] fun v J _ => Is5 v (reserveS s t u h n) ∧ I = J := by
  have hR := ref_Right s t u h I hs ht hu hh
  have hF := ref_Free s t u h I hs ht hu hh
  unfold In64 at *
  refine Tri.of (args := [rg s t u h, .int .i64 n]) tabOk Try.func16 rfl (by kernel_rfl) (by kernel_rfl) ?_
  conv => whnf
  intro b
  conv => whnf
  intro b2
  refine LoadD.own 0 rfl _ rfl rfl ?_
  refine Tri.free hR ?_
  rintro v J _ hJ ⟨b1, rfl, h1, rfl⟩
  cases b1
  · refine StoreD.st 1 rfl rfl rfl ?_
    refine LoadD.own 1 rfl _ rfl rfl ?_
    refine Done.mk ⟨Is5.mk 0 0 0 0 2 ?_, rfl⟩
    rw [reserveS, if_pos (.inl (by simpa using h1))]
  replace h1 := h1.1 rfl
  have h1' := h1
  unfold Ok at h1'
  refine CmpD.split (fun c => ?_) (fun c => ?_)
  · refine StoreD.st 1 rfl rfl rfl ?_
    refine LoadD.own 1 rfl _ rfl rfl ?_
    refine Done.mk ⟨Is5.mk 0 0 0 0 2 ?_, rfl⟩
    rw [reserveS, if_pos (.inr c)]
  refine LoadD.own 0 rfl _ rfl rfl ?_
  refine Tri.free hF ?_
  rintro v J _ hJ ⟨rfl, rfl⟩
  rw [if_pos h1]
  refine CmpD.split (fun c2 => ?_) (fun c2 => ?_)
  · refine StoreD.st 1 rfl rfl rfl ?_
    refine LoadD.own 1 rfl _ rfl rfl ?_
    refine Done.mk ⟨Is5.mk 0 0 0 0 5 ?_, rfl⟩
    rw [reserveS, if_neg (by unfold Ok; omega), if_pos c2]
  refine LoadD.own 0 rfl _ rfl rfl ?_
  refine ToD.i64 (by omega) (by omega) ?_
  refine StoreD.st 0 rfl rfl rfl ?_
  refine LoadD.own 0 rfl _ rfl rfl ?_
  refine StoreD.st 1 rfl rfl rfl ?_
  refine LoadD.own 1 rfl _ rfl rfl ?_
  refine Done.mk ⟨Is5.mk s t u (h + n) 0 ?_, rfl⟩
  rw [reserveS, if_neg (by unfold Ok; omega), if_neg (by omega)]

theorem ref_Release : Tri Try.prog 17 #[rg s t u h, .int .i64 n] I [] fun v J _ => Is5 v (releaseS s t u h n) ∧ I = J := by
  have hR := ref_Right s t u h I hs ht hu hh
  unfold In64 at *
  refine Tri.of (args := [rg s t u h, .int .i64 n]) tabOk Try.func17 rfl (by kernel_rfl) (by kernel_rfl) ?_
  conv => whnf
  intro b
  conv => whnf
  intro b2
  refine LoadD.own 0 rfl _ rfl rfl ?_
  refine Tri.free hR ?_
  rintro v J _ hJ ⟨b1, rfl, h1, rfl⟩
  cases b1
  · refine StoreD.st 1 rfl rfl rfl ?_
    refine LoadD.own 1 rfl _ rfl rfl ?_
    refine Done.mk ⟨Is5.mk 0 0 0 0 2 ?_, rfl⟩
    rw [releaseS, if_pos (.inl (by simpa using h1))]
  replace h1 := h1.1 rfl
  have h1' := h1
  unfold Ok at h1'
  refine CmpD.split (fun c => ?_) (fun c => ?_)
  · refine StoreD.st 1 rfl rfl rfl ?_
    refine LoadD.own 1 rfl _ rfl rfl ?_
    refine Done.mk ⟨Is5.mk 0 0 0 0 2 ?_, rfl⟩
    rw [releaseS, if_pos (.inr (.inl c))]
  refine LoadD.own 0 rfl _ rfl rfl ?_
  refine CmpD.split (fun c2 => ?_) (fun c2 => ?_)
  · refine StoreD.st 1 rfl rfl rfl ?_
    refine LoadD.own 1 rfl _ rfl rfl ?_
    refine Done.mk ⟨Is5.mk 0 0 0 0 2 ?_, rfl⟩
    rw [releaseS, if_pos (.inr (.inr c2))]
  refine LoadD.own 0 rfl _ rfl rfl ?_
  refine ToD.i64 (by omega) (by omega) ?_
  refine StoreD.st 0 rfl rfl rfl ?_
  refine LoadD.own 0 rfl _ rfl rfl ?_
  refine StoreD.st 1 rfl rfl rfl ?_
  refine LoadD.own 1 rfl _ rfl rfl ?_
  refine Done.mk ⟨Is5.mk s t u (h - n) 0 ?_, rfl⟩
  rw [releaseS, if_neg (by unfold Ok; omega)]

theorem ref_Drop : Tri Try.prog 19 #[rg s t u h, .int .i64 n] I [] fun v J _ => Is5 v (dropS s t u h n) ∧ I = J := by
  have hR := ref_Right s t u h I hs ht hu hh
  unfold In64 at *
  refine Tri.of (args := [rg s t u h, .int .i64 n]) tabOk Try.func19 rfl (by kernel_rfl) (by kernel_rfl) ?_
  conv => whnf
  intro b
  conv => whnf
  intro b2
  refine LoadD.own 0 rfl _ rfl rfl ?_
  refine Tri.free hR ?_
  rintro v J _ hJ ⟨b1, rfl, h1, rfl⟩
  cases b1
  · refine StoreD.st 1 rfl rfl rfl ?_
    refine LoadD.own 1 rfl _ rfl rfl ?_
    refine Done.mk ⟨Is5.mk 0 0 0 0 2 ?_, rfl⟩
    rw [dropS, if_pos (.inl (by simpa using h1))]
  replace h1 := h1.1 rfl
  have h1' := h1
  unfold Ok at h1'
  refine CmpD.split (fun c => ?_) (fun c => ?_)
  · refine StoreD.st 1 rfl rfl rfl ?_
    refine LoadD.own 1 rfl _ rfl rfl ?_
    refine Done.mk ⟨Is5.mk 0 0 0 0 2 ?_, rfl⟩
    rw [dropS, if_pos (.inr (.inl c))]
  refine LoadD.own 0 rfl _ rfl rfl ?_
  refine CmpD.split (fun c2 => ?_) (fun c2 => ?_)
  · refine StoreD.st 1 rfl rfl rfl ?_
    refine LoadD.own 1 rfl _ rfl rfl ?_
    refine Done.mk ⟨Is5.mk 0 0 0 0 2 ?_, rfl⟩
    rw [dropS, if_pos (.inr (.inr c2))]
  refine CodeF.loopD [1, 2, 4, 6] (fun vs J S' => ∃ k : Int, 0 ≤ k ∧ k ≤ n ∧ vs = [.int .i64 n, .pointer (some ⟨b, 0, none⟩), .pointer (some ⟨b2, 0, none⟩), .int .i64 k] ∧ I = J ∧
      S' = [[(b, row [.int .i64 s, .int .i64 ((t + k) % s), .int .i64 u, .int .i64 h] 25)], [(b2, row [.int .i64 0, .int .i64 0, .int .i64 0, .int .i64 0] 25)]])
    (fun vs _ _ => match vs with | .int _ n :: _ :: _ :: .int _ k :: _ => (n - k).toNat | _ => 0) ?_ ?_
  · refine ⟨_, Drop.refl _, 0, by omega, by omega, rfl, rfl, ?_⟩
    rw [Int.add_zero, Int.emod_eq_of_lt (by omega) (by omega)]; rfl
  · rintro vs g J S' hJ ⟨k, hk0, hk1, rfl, rfl, rfl⟩
    have hm0 := Int.emod_nonneg (t + k) (show s ≠ 0 by omega)
    have hm1 := Int.emod_lt_of_pos (t + k) (show 0 < s by omega)
    refine CmpD.split (fun c => ?_) (fun c => ?_)
    · refine LoadD.own 0 rfl _ rfl rfl ?_
      refine LoadD.own 0 rfl _ rfl rfl ?_
      refine Tri.free (ref_next s _ u h _ _ (by omega)) ?_
      rintro v J' _ hJ' ⟨rfl, rfl⟩
      refine StoreD.st 0 rfl rfl rfl ?_
      refine ToD.i64 (by omega) (by omega) ?_
      refine ⟨_, Drop.refl _, ⟨k + 1, by omega, by omega, rfl, rfl, ?_⟩, ?_⟩
      · rw [← next_mod (by omega)]; rfl
      · show (n - (k + 1)).toNat < (n - k).toNat; omega
    · obtain rfl : k = n := by omega
      refine LoadD.own 0 rfl _ rfl rfl ?_
      refine ToD.i64 (by omega) (by omega) ?_
      refine StoreD.st 0 rfl rfl rfl ?_
      refine LoadD.own 0 rfl _ rfl rfl ?_
      refine StoreD.st 1 rfl rfl rfl ?_
      refine LoadD.own 1 rfl _ rfl rfl ?_
      refine Done.mk ⟨Is5.mk s ((t + k) % s) (u - k) h 0 ?_, rfl⟩
      rw [dropS, if_neg (by unfold Ok; omega)]

theorem ref_Put (k : Int) (hk : In64 k) : Tri Try.prog 18 #[rg s t u h, .int .i64 n, .int .i64 k] I [] fun v J _ =>
    (∃ a b c d x e, v = .tuple #[rg a b c d, .int .i64 x, .int .i64 e] ∧ putS s t u h n k = ((a, b, c, d, e), x)) ∧ I = J := by
  have hR := ref_Right s t u h I hs ht hu hh
  have hF := ref_Free s t u h I hs ht hu hh
  unfold In64 at *
  refine Tri.of (args := [rg s t u h, .int .i64 n, .int .i64 k]) tabOk Try.func18 rfl (by kernel_rfl) (by kernel_rfl) ?_
  conv => whnf
  intro b
  conv => whnf
  intro b2
  refine LoadD.own 0 rfl _ rfl rfl ?_
  refine Tri.free hR ?_
  rintro v J _ hJ ⟨b1, rfl, h1, rfl⟩
  cases b1
  · refine StoreD.st 1 rfl rfl rfl ?_
    refine LoadD.own 1 rfl _ rfl rfl ?_
    refine Done.mk ⟨⟨_, _, _, _, _, _, rfl, ?_⟩, rfl⟩
    rw [putS, if_pos (.inl (by simpa using h1))]
  replace h1 := h1.1 rfl
  have h1' := h1
  unfold Ok at h1'
  refine CmpD.split (fun c => ?_) (fun c => ?_)
  · refine StoreD.st 1 rfl rfl rfl ?_
    refine LoadD.own 1 rfl _ rfl rfl ?_
    refine Done.mk ⟨⟨_, _, _, _, _, _, rfl, ?_⟩, rfl⟩
    rw [putS, if_pos (.inr (.inl c))]
  refine CmpD.split (fun c1 => ?_) (fun c1 => ?_)
  · refine StoreD.st 1 rfl rfl rfl ?_
    refine LoadD.own 1 rfl _ rfl rfl ?_
    refine Done.mk ⟨⟨_, _, _, _, _, _, rfl, ?_⟩, rfl⟩
    rw [putS, if_pos (.inr (.inr (.inl c1)))]
  refine CmpD.split (fun c2 => ?_) (fun c2 => ?_)
  · refine StoreD.st 1 rfl rfl rfl ?_
    refine LoadD.own 1 rfl _ rfl rfl ?_
    refine Done.mk ⟨⟨_, _, _, _, _, _, rfl, ?_⟩, rfl⟩
    rw [putS, if_pos (by omega)]
  refine LoadD.own 0 rfl _ rfl rfl ?_
  refine CmpD.split (fun c3 => ?_) (fun c3 => ?_)
  · refine StoreD.st 1 rfl rfl rfl ?_
    refine LoadD.own 1 rfl _ rfl rfl ?_
    refine Done.mk ⟨⟨_, _, _, _, _, _, rfl, ?_⟩, rfl⟩
    rw [putS, if_pos (by omega)]
  refine ToD.i64 (by omega) (by omega) ?_
  refine LoadD.own 0 rfl _ rfl rfl ?_
  refine Tri.free hF ?_
  rintro v J _ hJ ⟨rfl, rfl⟩
  rw [if_pos h1]
  refine CmpD.split (fun c4 => ?_) (fun c4 => ?_)
  · refine StoreD.st 1 rfl rfl rfl ?_
    refine LoadD.own 1 rfl _ rfl rfl ?_
    refine Done.mk ⟨⟨_, _, _, _, _, _, rfl, ?_⟩, rfl⟩
    rw [putS, if_neg (by unfold Ok; omega), if_pos c4]
  refine LoadD.own 0 rfl _ rfl rfl ?_
  refine CodeF.loopD [1, 2, 3, 6, 9, 10] (fun vs J S' => ∃ i : Int, 0 ≤ i ∧ i ≤ u ∧ vs = [.int .i64 n, .int .i64 k, .pointer (some ⟨b, 0, none⟩), .pointer (some ⟨b2, 0, none⟩), .int .i64 ((t + i) % s), .int .i64 i] ∧ I = J ∧
      S' = [[(b, row [.int .i64 s, .int .i64 t, .int .i64 u, .int .i64 h] 25)], [(b2, row [.int .i64 0, .int .i64 0, .int .i64 0, .int .i64 0] 25)]])
    (fun vs _ _ => match vs with | [_, _, _, _, _, .int _ k] => (u - k).toNat | _ => 0) ?_ ?_
  · refine ⟨_, Drop.refl _, 0, by omega, by omega, ?_, rfl, rfl⟩
    rw [Int.add_zero, Int.emod_eq_of_lt (by omega) (by omega)]; rfl
  · rintro vs g J S' hJ ⟨i, hi0, hi1, rfl, rfl, rfl⟩
    have hm0 := Int.emod_nonneg (t + i) (show s ≠ 0 by omega)
    have hm1 := Int.emod_lt_of_pos (t + i) (show 0 < s by omega)
    refine LoadD.own 0 rfl _ rfl rfl ?_
    refine CmpD.split (fun c => ?_) (fun c => ?_)
    · refine LoadD.own 0 rfl _ rfl rfl ?_
      refine Tri.free (ref_next s t u h _ _ (by omega)) ?_
      rintro v J' _ hJ' ⟨rfl, rfl⟩
      refine ToD.i64 (by omega) (by omega) ?_
      refine ⟨_, Drop.refl _, ⟨i + 1, by omega, by omega, ?_, rfl, rfl⟩, ?_⟩
      · rw [← next_mod (by omega)]; rfl
      · show (u - (i + 1)).toNat < (u - i).toNat; omega
    · obtain rfl : i = u := by omega
      refine LoadD.own 0 rfl _ rfl rfl ?_
      refine ToD.i64 (by omega) (by omega) ?_
      refine StoreD.st 0 rfl rfl rfl ?_
      refine LoadD.own 0 rfl _ rfl rfl ?_
      refine ToD.i64 (by omega) (by omega) ?_
      refine StoreD.st 0 rfl rfl rfl ?_
      refine LoadD.own 0 rfl _ rfl rfl ?_
      refine StoreD.st 1 rfl rfl rfl ?_
      refine LoadD.own 1 rfl _ rfl rfl ?_
      refine Done.mk ⟨⟨_, _, _, _, _, _, rfl, ?_⟩, rfl⟩
      rw [putS, if_neg (by unfold Ok; omega), if_neg (by omega)]
end
end Go.Proofs.Ythlcdoabjgdpiaa
