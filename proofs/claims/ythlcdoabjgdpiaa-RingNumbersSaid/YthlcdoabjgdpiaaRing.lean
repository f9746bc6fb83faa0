/- Layer 7: contracts of the ring's functions and of the document's. -/
import Derived.Test.YthlcdoabjgdpiaaTab
namespace Go.Proofs.Ythlcdoabjgdpiaa
open Go.RowKit Go.Sl

/-- a ring as a value -/
@[reducible] def rg (s t u h : Int) : Value := .agg #[.int .i64 s, .int .i64 t, .int .i64 u, .int .i64 h]
/-- may a ring be -/
def Ok (s t u h : Int) : Prop := 1 ≤ s ∧ s ≤ 512 ∧ 0 ≤ t ∧ t < s ∧ 0 ≤ u ∧ 0 ≤ h ∧ u + h ≤ s
instance (s t u h : Int) : Decidable (Ok s t u h) := by unfold Ok; infer_instance

theorem ring_within (n h : Int) (I : Imm) (S : St) : Tri Try.prog 22 #[.int .i64 n, .int .i64 h] I S fun v J S' => ∃ b, v = .bool b ∧ (b = true ↔ 0 ≤ n ∧ n ≤ h) ∧ I = J ∧ S' = S := by
  refine Tri.of (args := [.int .i64 n, .int .i64 h]) tabOk Try.func22 rfl (by kernel_rfl) (by kernel_rfl) ?_
  refine CmpD.split (fun h0 => ?_) (fun h0 => ?_)
  · refine CmpD.keep ?_
    refine Done.mk ⟨_, rfl, ?_, rfl, rfl⟩
    simp [h0]
  · refine Done.mk ⟨_, rfl, ?_, rfl, rfl⟩
    simp [h0]

theorem ring_Right (s t u h : Int) (I : Imm) (hs : In64 s) (ht : In64 t) (hu : In64 u) (hh : In64 h) : Tri Try.prog 11 #[rg s t u h] I [] fun v J _ => ∃ b, v = .bool b ∧ (b = true ↔ Ok s t u h) ∧ I = J := by
  unfold In64 at *
  by_cases hmin : s = -9223372036854775808
  · subst hmin
    refine Tri.of (args := [rg _ t u h]) tabOk Try.func11 rfl (by kernel_rfl) (by kernel_rfl) ?_
    conv => whnf
    intro b
    refine LoadD.own 0 rfl _ rfl rfl ?_
    refine ToD.to 9223372036854775807 (by decide) ?_
    refine (ring_within _ _ I _).mono ?_
    rintro v J S' hJ ⟨b1, rfl, h1, rfl, rfl⟩
    cases b1
    · refine Done.mk ⟨_, rfl, by simp [Ok], rfl⟩
    · have := h1.1 rfl; omega
  refine Tri.of (args := [rg s t u h]) tabOk Try.func11 rfl (by kernel_rfl) (by kernel_rfl) ?_
  conv => whnf
  intro b
  refine LoadD.own 0 rfl _ rfl rfl ?_
  refine ToD.i64 (by omega) (by omega) ?_
  refine (ring_within _ _ I _).mono ?_
  rintro v J S' hJ ⟨b1, rfl, h1, rfl, rfl⟩
  cases b1
  · refine Done.mk ⟨_, rfl, ?_, rfl⟩
    simp [Ok]; simp at h1; omega
  replace h1 := h1.1 rfl
  refine LoadD.own 0 rfl _ rfl rfl ?_
  refine LoadD.own 0 rfl _ rfl rfl ?_
  refine ToD.i64 (by omega) (by omega) ?_
  refine (ring_within _ _ _ _).mono ?_
  rintro v J S' hJ2 ⟨b2, rfl, h2, rfl, rfl⟩
  cases b2
  · refine Done.mk ⟨_, rfl, ?_, rfl⟩
    simp [Ok]; simp at h2; omega
  replace h2 := h2.1 rfl
  refine LoadD.own 0 rfl _ rfl rfl ?_
  refine LoadD.own 0 rfl _ rfl rfl ?_
  refine (ring_within _ _ _ _).mono ?_
  rintro v J S' hJ3 ⟨b3, rfl, h3, rfl, rfl⟩
  cases b3
  · refine Done.mk ⟨_, rfl, ?_, rfl⟩
    simp [Ok]; simp at h3; omega
  replace h3 := h3.1 rfl
  refine LoadD.own 0 rfl _ rfl rfl ?_
  refine LoadD.own 0 rfl _ rfl rfl ?_
  refine LoadD.own 0 rfl _ rfl rfl ?_
  refine ToD.i64 (by omega) (by omega) ?_
  refine (ring_within _ _ _ _).mono ?_
  rintro v J S' hJ4 ⟨b4, rfl, h4, rfl, rfl⟩
  refine Done.mk ⟨_, rfl, ?_, rfl⟩
  rw [h4]; unfold Ok; omega

theorem ring_Free (s t u h : Int) (I : Imm) (hs : In64 s) (ht : In64 t) (hu : In64 u) (hh : In64 h) : Tri Try.prog 12 #[rg s t u h] I [] fun v J _ => v = .int .i64 (if Ok s t u h then s - u - h else 0) ∧ I = J := by
  have hR := ring_Right s t u h I hs ht hu hh
  unfold In64 at *
  refine Tri.of (args := [rg s t u h]) tabOk Try.func12 rfl (by kernel_rfl) (by kernel_rfl) ?_
  conv => whnf
  intro b
  refine LoadD.own 0 rfl _ rfl rfl ?_
  refine Tri.free hR ?_
  rintro v J _ hJ ⟨b1, rfl, h1, rfl⟩
  cases b1
  · refine Done.mk ⟨?_, rfl⟩
    rw [if_neg (by simpa using h1)]; rfl
  replace h1 := h1.1 rfl
  have h1' := h1
  unfold Ok at h1'
  repeat (first | refine LoadD.own 0 rfl _ rfl rfl ?_ | refine ToD.i64 (by omega) (by omega) ?_)
  refine Done.mk ⟨?_, rfl⟩
  rw [if_pos h1]; rfl

abbrev R5 := Int × Int × Int × Int × Int
def atS (s t u h i : Int) : Int × Int := if ¬ Ok s t u h ∨ i < 0 ∨ s ≤ i then (0, 2) else ((t + i) % s, 0)
def reserveS (s t u h n : Int) : R5 := if ¬ Ok s t u h ∨ n < 0 then (0, 0, 0, 0, 2) else if s - u - h < n then (0, 0, 0, 0, 5) else (s, t, u, h + n, 0)
def releaseS (s t u h n : Int) : R5 := if ¬ Ok s t u h ∨ n < 0 ∨ h < n then (0, 0, 0, 0, 2) else (s, t, u, h - n, 0)
def dropS (s t u h n : Int) : R5 := if ¬ Ok s t u h ∨ n < 0 ∨ u < n then (0, 0, 0, 0, 2) else (s, (t + n) % s, u - n, h, 0)
def putS (s t u h n k : Int) : R5 × Int := if ¬ Ok s t u h ∨ n < 0 ∨ k < 0 ∨ n < k ∨ h < k then ((0, 0, 0, 0, 2), 0) else if s - u - h < n - k then ((0, 0, 0, 0, 5), 0) else ((s, t, u + n, h - k, 0), (t + u) % s)
/-- a result: a ring and an error -/
def Is5 (v : Value) (r : R5) : Prop := ∃ a b c d e, v = .tuple #[rg a b c d, .int .i64 e] ∧ r = (a, b, c, d, e)
theorem Is5.mk (a b c d e : Int) {r : R5} (h : r = (a, b, c, d, e)) : Is5 (.tuple #[rg a b c d, .int .i64 e]) r := ⟨a, b, c, d, e, rfl, h⟩

section
variable (s t u h n : Int) (I : Imm) (hs : In64 s) (ht : In64 t) (hu : In64 u) (hh : In64 h) (hn : In64 n)
include hs ht hu hh hn
theorem ring_Reserve : Tri Try.prog 7 #[rg s t u h, .int .i64 n] I [] fun v J _ => Is5 v (reserveS s t u h n) ∧ I = J := by
  have hR := ring_Right s t u h I hs ht hu hh
  have hF := ring_Free s t u h I hs ht hu hh
  unfold In64 at *
  refine Tri.of (args := [rg s t u h, .int .i64 n]) tabOk Try.func7 rfl (by kernel_rfl) (by kernel_rfl) ?_
  conv => whnf
  intro b
  conv => whnf
  intro b2
  refine LoadD.own 0 rfl _ rfl rfl ?_
  refine Tri.free hR ?_
  rintro v J _ hJ ⟨b1, rfl, h1, rfl⟩
  cases b1
  · refine StoreD.st 1 rfl rfl rfl ?_
    refine LoadD.own 1 rfl _ rfl rfl ?_
    refine Done.mk ⟨Is5.mk 0 0 0 0 2 ?_, rfl⟩
    rw [reserveS, if_pos (.inl (by simpa using h1))]
  replace h1 := h1.1 rfl
  have h1' := h1
  unfold Ok at h1'
  refine CmpD.split (fun c => ?_) (fun c => ?_)
  · refine StoreD.st 1 rfl rfl rfl ?_
    refine LoadD.own 1 rfl _ rfl rfl ?_
    refine Done.mk ⟨Is5.mk 0 0 0 0 2 ?_, rfl⟩
    rw [reserveS, if_pos (.inr c)]
  refine LoadD.own 0 rfl _ rfl rfl ?_
  refine Tri.free hF ?_
  rintro v J _ hJ ⟨rfl, rfl⟩
  rw [if_pos h1]
  refine CmpD.split (fun c2 => ?_) (fun c2 => ?_)
  · refine StoreD.st 1 rfl rfl rfl ?_
    refine LoadD.own 1 rfl _ rfl rfl ?_
    refine Done.mk ⟨Is5.mk 0 0 0 0 5 ?_, rfl⟩
    rw [reserveS, if_neg (by unfold Ok; omega), if_pos c2]
  refine LoadD.own 0 rfl _ rfl rfl ?_
  refine ToD.i64 (by omega) (by omega) ?_
  refine StoreD.st 0 rfl rfl rfl ?_
  refine LoadD.own 0 rfl _ rfl rfl ?_
  refine StoreD.st 1 rfl rfl rfl ?_
  refine LoadD.own 1 rfl _ rfl rfl ?_
  refine Done.mk ⟨Is5.mk s t u (h + n) 0 ?_, rfl⟩
  rw [reserveS, if_neg (by unfold Ok; omega), if_neg (by omega)]

theorem ring_Release : Tri Try.prog 14 #[rg s t u h, .int .i64 n] I [] fun v J _ => Is5 v (releaseS s t u h n) ∧ I = J := by
  have hR := ring_Right s t u h I hs ht hu hh
  unfold In64 at *
  refine Tri.of (args := [rg s t u h, .int .i64 n]) tabOk Try.func14 rfl (by kernel_rfl) (by kernel_rfl) ?_
  conv => whnf
  intro b
  conv => whnf
  intro b2
  refine LoadD.own 0 rfl _ rfl rfl ?_
  refine Tri.free hR ?_
  rintro v J _ hJ ⟨b1, rfl, h1, rfl⟩
  cases b1
  · refine StoreD.st 1 rfl rfl rfl ?_
    refine LoadD.own 1 rfl _ rfl rfl ?_
    refine Done.mk ⟨Is5.mk 0 0 0 0 2 ?_, rfl⟩
    rw [releaseS, if_pos (.inl (by simpa using h1))]
  replace h1 := h1.1 rfl
  have h1' := h1
  unfold Ok at h1'
  refine CmpD.split (fun c => ?_) (fun c => ?_)
  · refine StoreD.st 1 rfl rfl rfl ?_
    refine LoadD.own 1 rfl _ rfl rfl ?_
    refine Done.mk ⟨Is5.mk 0 0 0 0 2 ?_, rfl⟩
    rw [releaseS, if_pos (.inr (.inl c))]
  refine LoadD.own 0 rfl _ rfl rfl ?_
  refine CmpD.split (fun c2 => ?_) (fun c2 => ?_)
  · refine StoreD.st 1 rfl rfl rfl ?_
    refine LoadD.own 1 rfl _ rfl rfl ?_
    refine Done.mk ⟨Is5.mk 0 0 0 0 2 ?_, rfl⟩
    rw [releaseS, if_pos (.inr (.inr c2))]
  refine LoadD.own 0 rfl _ rfl rfl ?_
  refine ToD.i64 (by omega) (by omega) ?_
  refine StoreD.st 0 rfl rfl rfl ?_
  refine LoadD.own 0 rfl _ rfl rfl ?_
  refine StoreD.st 1 rfl rfl rfl ?_
  refine LoadD.own 1 rfl _ rfl rfl ?_
  refine Done.mk ⟨Is5.mk s t u (h - n) 0 ?_, rfl⟩
  rw [releaseS, if_neg (by unfold Ok; omega)]

theorem ring_Drop : Tri Try.prog 9 #[rg s t u h, .int .i64 n] I [] fun v J _ => Is5 v (dropS s t u h n) ∧ I = J := by
  have hR := ring_Right s t u h I hs ht hu hh
  unfold In64 at *
  refine Tri.of (args := [rg s t u h, .int .i64 n]) tabOk Try.func9 rfl (by kernel_rfl) (by kernel_rfl) ?_
  conv => whnf
  intro b
  conv => whnf
  intro b2
  refine LoadD.own 0 rfl _ rfl rfl ?_
  refine Tri.free hR ?_
  rintro v J _ hJ ⟨b1, rfl, h1, rfl⟩
  cases b1
  · refine StoreD.st 1 rfl rfl rfl ?_
    refine LoadD.own 1 rfl _ rfl rfl ?_
    refine Done.mk ⟨Is5.mk 0 0 0 0 2 ?_, rfl⟩
    rw [dropS, if_pos (.inl (by simpa using h1))]
  replace h1 := h1.1 rfl
  have h1' := h1
  unfold Ok at h1'
  refine CmpD.split (fun c => ?_) (fun c => ?_)
  · refine StoreD.st 1 rfl rfl rfl ?_
    refine LoadD.own 1 rfl _ rfl rfl ?_
    refine Done.mk ⟨Is5.mk 0 0 0 0 2 ?_, rfl⟩
    rw [dropS, if_pos (.inr (.inl c))]
  refine LoadD.own 0 rfl _ rfl rfl ?_
  refine CmpD.split (fun c2 => ?_) (fun c2 => ?_)
  · refine StoreD.st 1 rfl rfl rfl ?_
    refine LoadD.own 1 rfl _ rfl rfl ?_
    refine Done.mk ⟨Is5.mk 0 0 0 0 2 ?_, rfl⟩
    rw [dropS, if_pos (.inr (.inr c2))]
  refine LoadD.own 0 rfl _ rfl rfl ?_
  refine ToD.i64 (by omega) (by omega) ?_
  refine LoadD.own 0 rfl _ rfl rfl ?_
  refine Chk.mk (by omega) ?_
  refine ToD.rem (by omega) ?_
  refine StoreD.st 0 rfl rfl rfl ?_
  refine LoadD.own 0 rfl _ rfl rfl ?_
  refine ToD.i64 (by omega) (by omega) ?_
  refine StoreD.st 0 rfl rfl rfl ?_
  refine LoadD.own 0 rfl _ rfl rfl ?_
  refine StoreD.st 1 rfl rfl rfl ?_
  refine LoadD.own 1 rfl _ rfl rfl ?_
  refine Done.mk ⟨Is5.mk s ((t + n) % s) (u - n) h 0 ?_, rfl⟩
  rw [dropS, if_neg (by unfold Ok; omega)]

theorem ring_Put (k : Int) (hk : In64 k) : Tri Try.prog 10 #[rg s t u h, .int .i64 n, .int .i64 k] I [] fun v J _ =>
    (∃ a b c d x e, v = .tuple #[rg a b c d, .int .i64 x, .int .i64 e] ∧ putS s t u h n k = ((a, b, c, d, e), x)) ∧ I = J := by
  have hR := ring_Right s t u h I hs ht hu hh
  have hF := ring_Free s t u h I hs ht hu hh
  unfold In64 at *
  refine Tri.of (args := [rg s t u h, .int .i64 n, .int .i64 k]) tabOk Try.func10 rfl (by kernel_rfl) (by kernel_rfl) ?_
  conv => whnf
  intro b
  conv => whnf
  intro b2
  refine LoadD.own 0 rfl _ rfl rfl ?_
  refine Tri.free hR ?_
  rintro v J _ hJ ⟨b1, rfl, h1, rfl⟩
  cases b1
  · refine StoreD.st 1 rfl rfl rfl ?_
    refine LoadD.own 1 rfl _ rfl rfl ?_
    refine Done.mk ⟨⟨_, _, _, _, _, _, rfl, ?_⟩, rfl⟩
    rw [putS, if_pos (.inl (by simpa using h1))]
  replace h1 := h1.1 rfl
  have h1' := h1
  unfold Ok at h1'
  refine CmpD.split (fun c => ?_) (fun c => ?_)
  · refine StoreD.st 1 rfl rfl rfl ?_
    refine LoadD.own 1 rfl _ rfl rfl ?_
    refine Done.mk ⟨⟨_, _, _, _, _, _, rfl, ?_⟩, rfl⟩
    rw [putS, if_pos (.inr (.inl c))]
  refine CmpD.split (fun c1 => ?_) (fun c1 => ?_)
  · refine StoreD.st 1 rfl rfl rfl ?_
    refine LoadD.own 1 rfl _ rfl rfl ?_
    refine Done.mk ⟨⟨_, _, _, _, _, _, rfl, ?_⟩, rfl⟩
    rw [putS, if_pos (.inr (.inr (.inl c1)))]
  refine LoadD.own 0 rfl _ rfl rfl ?_
  refine ToD.to (min n h) (by omega) ?_
  refine CmpD.split (fun c2 => ?_) (fun c2 => ?_)
  · refine StoreD.st 1 rfl rfl rfl ?_
    refine LoadD.own 1 rfl _ rfl rfl ?_
    refine Done.mk ⟨⟨_, _, _, _, _, _, rfl, ?_⟩, rfl⟩
    rw [putS, if_pos (by omega)]
  refine ToD.i64 (by omega) (by omega) ?_
  refine LoadD.own 0 rfl _ rfl rfl ?_
  refine Tri.free hF ?_
  rintro v J _ hJ ⟨rfl, rfl⟩
  rw [if_pos h1]
  refine CmpD.split (fun c3 => ?_) (fun c3 => ?_)
  · refine StoreD.st 1 rfl rfl rfl ?_
    refine LoadD.own 1 rfl _ rfl rfl ?_
    refine Done.mk ⟨⟨_, _, _, _, _, _, rfl, ?_⟩, rfl⟩
    rw [putS, if_neg (by unfold Ok; omega), if_pos c3]
  refine LoadD.own 0 rfl _ rfl rfl ?_
  refine LoadD.own 0 rfl _ rfl rfl ?_
  refine ToD.i64 (by omega) (by omega) ?_
  refine LoadD.own 0 rfl _ rfl rfl ?_
  refine Chk.mk (by omega) ?_
  refine ToD.rem (by omega) ?_
  refine LoadD.own 0 rfl _ rfl rfl ?_
  refine ToD.i64 (by omega) (by omega) ?_
  refine StoreD.st 0 rfl rfl rfl ?_
  refine LoadD.own 0 rfl _ rfl rfl ?_
  refine ToD.i64 (by omega) (by omega) ?_
  refine StoreD.st 0 rfl rfl rfl ?_
  refine LoadD.own 0 rfl _ rfl rfl ?_
  refine StoreD.st 1 rfl rfl rfl ?_
  refine LoadD.own 1 rfl _ rfl rfl ?_
  refine Done.mk ⟨⟨_, _, _, _, _, _, rfl, ?_⟩, rfl⟩
  rw [putS, if_neg (by unfold Ok; omega), if_neg (by omega)]
end
end Go.Proofs.Ythlcdoabjgdpiaa
