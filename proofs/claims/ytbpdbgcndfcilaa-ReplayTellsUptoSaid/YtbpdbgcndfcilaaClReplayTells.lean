/- 'ReplayTells' holds: the law returns true for every input, and its arguments read as they did. No condition. -/
import Derived.Test.YtbpdbgcndfcilaaRows
import Derived.WalkKit
import Derived.ProofKit
import Derived.OpenShut
import Derived.ShutString
import Derived.ChangeOld
import Derived.Below
import Derived.SizedLaws
import Derived.JoinedCond
import Derived.Test.YtbpdbgcndfcilaaBReplayTells1
import Derived.Test.YtbpdbgcndfcilaaBReplayTells2
import Derived.Test.YtbpdbgcndfcilaaBReplayTells3
import Derived.Test.YtbpdbgcndfcilaaBReplayTells4
import Derived.Test.YtbpdbgcndfcilaaBReplayTells5
import Derived.Test.YtbpdbgcndfcilaaBReplayTells6
namespace Go.Proofs.Ytbpdbgcndfcilaa.replayTells
open Go.ChangeShapes Go.WideShapes Go.ChangeAt Go.RowKit Go.Sl
open Go.ChangeMaps (open_string shut_string)
theorem own : ownKnob Try.prog.godebug = none := by kernel_rfl
theorem laidOut : laidOutB Try.prog = true := by kernel_rfl
theorem long2 {l : List Int} (h : l.length = 7) : ∃ a0 a1 a2 a3 a4 a5 a6, l = [a0, a1, a2, a3, a4, a5, a6] := by
  match l, h with
  | [a0, a1, a2, a3, a4, a5, a6], _ => exact ⟨_, _, _, _, _, _, _, rfl⟩
theorem long5 {l : List Int} (h : l.length = 4) : ∃ a0 a1 a2 a3, l = [a0, a1, a2, a3] := by
  match l, h with
  | [a0, a1, a2, a3], _ => exact ⟨_, _, _, _, rfl⟩
set_option maxRecDepth 100000 in
theorem lifted (os : Os) (started : os.Started) (H : Type) (enc : TypeId × Value → H) (F : Stop.Interp) :
    ReturnsInHanded {} Try.checked os 13 .any ((Rows.OpenSpec.upto Rows.replayTellsSpec).pre6 enc Try.prog Try.f13 Rows.replayTellsUptoRow.domain false) (((Rows.OpenSpec.upto Rows.replayTellsSpec).at F).post enc Try.prog Try.f13 false true false false) := by
  refine returnsInHanded_of_cond (C := Try.checked) (s := Rows.OpenSpec.upto Rows.replayTellsSpec) (k := Rows.uptoSmall) rfl own started (by kernel_rfl) Try.func13
    (OpenSpec.witness (enc := enc) (C := Try.checked) (s := Rows.OpenSpec.upto Rows.replayTellsSpec) (k := Rows.uptoSmall) rfl false ⟨#[], #[.slice none 0 0, .slice none 0 0, .agg #[.int .i64 0, .int .i64 0, .int .i64 0, .int .i64 0, .int .i64 0, .int .i64 0, .int .i64 0], .slice none 0 0, .slice none 0 0, .agg #[.int .i64 0, .int .i64 0, .int .i64 0, .int .i64 0], .int .i64 0, .int .i64 0], []⟩ 8 (by kernel_rfl) (by kernel_rfl) (by kernel_rfl)
      (x := ([.nil, .nil, .agg [.lit (.int .i64 0), .lit (.int .i64 0), .lit (.int .i64 0), .lit (.int .i64 0), .lit (.int .i64 0), .lit (.int .i64 0), .lit (.int .i64 0)], .nil, .nil, .agg [.lit (.int .i64 0), .lit (.int .i64 0), .lit (.int .i64 0), .lit (.int .i64 0)], .lit (.int .i64 0), .lit (.int .i64 0)], [], [])) (by kernel_rfl) rfl (by kernel_rfl)) ?_
  intro W base args ds gs before hval0 hW _ hk0 _
  have hval : ∀ (j : Nat) t v, Try.f13.params[j]? = some t → args[j]? = some v → Value.okWide Try.prog W .any base t v := hval0
  have hW' := hW
  obtain ⟨p, q, hA0, hV, rfl, hfz, hnd⟩ := hW
  have hA : DataW.TrodAll enc Try.prog W 0 (fun _ => true) true Try.f13.params.toList args.toList ds p := hA0
  rw [Try.params13] at hA hval
  obtain ⟨v0, vs0, d0, ds0, p0, q0, hargs, rfl, rfl, h0, r0⟩ := trodAll_cons hA
  obtain ⟨v1, vs1, d1, ds1, p1, q1, rfl, rfl, rfl, h1, r1⟩ := trodAll_cons r0
  obtain ⟨v2, vs2, d2, ds2, p2, q2, rfl, rfl, rfl, h2, r2⟩ := trodAll_cons r1
  obtain ⟨v3, vs3, d3, ds3, p3, q3, rfl, rfl, rfl, h3, r3⟩ := trodAll_cons r2
  obtain ⟨v4, vs4, d4, ds4, p4, q4, rfl, rfl, rfl, h4, r4⟩ := trodAll_cons r3
  obtain ⟨v5, vs5, d5, ds5, p5, q5, rfl, rfl, rfl, h5, r5⟩ := trodAll_cons r4
  obtain ⟨v6, vs6, d6, ds6, p6, q6, rfl, rfl, rfl, h6, r6⟩ := trodAll_cons r5
  obtain ⟨v7, vs7, d7, ds7, p7, q7, rfl, rfl, rfl, h7, r7⟩ := trodAll_cons r6
  obtain ⟨rfl, rfl, rfl⟩ := trodAll_nil r7
  obtain rfl : args = #[v0, v1, v2, v3, v4, v5, v6, v7] := by cases args; simp_all
  obtain ⟨rfl, rfl⟩ := trodVars_none hV
  have k0 := h0
  have lt0 : ∀ x ∈ p0, x.block < W.heap.size := by obtain ⟨m, hm⟩ := k0; exact DataW.trod_lt m _ _ _ hm
  obtain ⟨a0, len0, cap0, rfl⟩ := okWide_slice Try.underlying60 (hval 0 _ v0 rfl rfl)
  obtain ⟨fuel0, hf0⟩ := h0
  have hf0 : DataW.trod enc Try.prog W 0 (fun _ => true) true fuel0 60 [.slice a0 len0 cap0] = some (d0, p0) := hf0
  obtain ⟨_, _, _, l0, e0, hc0, hm0, hl0, hR0, hB0⟩ := open_bytes hf0
  cases e0
  have k1 := h1
  have lt1 : ∀ x ∈ p1, x.block < W.heap.size := by obtain ⟨m, hm⟩ := k1; exact DataW.trod_lt m _ _ _ hm
  obtain ⟨a1, len1, cap1, rfl⟩ := okWide_slice Try.underlying60 (hval 1 _ v1 rfl rfl)
  obtain ⟨fuel1, hf1⟩ := h1
  have hf1 : DataW.trod enc Try.prog W 0 (fun _ => true) true fuel1 60 [.slice a1 len1 cap1] = some (d1, p1) := hf1
  obtain ⟨_, _, _, l1, e1, hc1, hm1, hl1, hR1, hB1⟩ := open_bytes hf1
  cases e1
  have k2 := h2
  have lt2 : ∀ x ∈ p2, x.block < W.heap.size := by obtain ⟨m, hm⟩ := k2; exact DataW.trod_lt m _ _ _ hm
  obtain ⟨z2, rfl, hz2, hw2⟩ := okWide_ints (k := .i64) (n := 7) (ts := List.replicate 7 3) Try.underlying25 (by kernel_rfl) (by kernel_rfl) (by kernel_rfl) (hval 2 _ v2 rfl rfl)
  obtain ⟨s2_0, s2_1, s2_2, s2_3, s2_4, s2_5, s2_6, rfl⟩ := long2 hz2
  have k3 := h3
  have lt3 : ∀ x ∈ p3, x.block < W.heap.size := by obtain ⟨m, hm⟩ := k3; exact DataW.trod_lt m _ _ _ hm
  obtain ⟨a3, len3, cap3, rfl⟩ := okWide_slice Try.underlying64 (hval 3 _ v3 rfl rfl)
  obtain ⟨fuel3, hf3⟩ := h3
  have hf3 : DataW.trod enc Try.prog W 0 (fun _ => true) true fuel3 64 [.slice a3 len3 cap3] = some (d3, p3) := hf3
  obtain ⟨_, _, _, l3, e3, hc3, hm3, hl3, hR3, hE3, hB3⟩ := open_groups hf3
  cases e3
  subst hl3
  have k4 := h4
  have lt4 : ∀ x ∈ p4, x.block < W.heap.size := by obtain ⟨m, hm⟩ := k4; exact DataW.trod_lt m _ _ _ hm
  obtain ⟨a4, len4, cap4, rfl⟩ := okWide_slice Try.underlying47 (hval 4 _ v4 rfl rfl)
  obtain ⟨fuel4, hf4⟩ := h4
  have hf4 : DataW.trod enc Try.prog W 0 (fun _ => true) true fuel4 47 [.slice a4 len4 cap4] = some (d4, p4) := hf4
  obtain ⟨_, _, _, l4, e4, hc4, hm4, hl4, hR4, hB4⟩ := open_images hf4
  cases e4
  subst hl4
  have k5 := h5
  have lt5 : ∀ x ∈ p5, x.block < W.heap.size := by obtain ⟨m, hm⟩ := k5; exact DataW.trod_lt m _ _ _ hm
  obtain ⟨z5, rfl, hz5, hw5⟩ := okWide_ints (k := .i64) (n := 4) (ts := List.replicate 4 3) Try.underlying56 (by kernel_rfl) (by kernel_rfl) (by kernel_rfl) (hval 5 _ v5 rfl rfl)
  obtain ⟨s5_0, s5_1, s5_2, s5_3, rfl⟩ := long5 hz5
  have k6 := h6
  have lt6 : ∀ x ∈ p6, x.block < W.heap.size := by obtain ⟨m, hm⟩ := k6; exact DataW.trod_lt m _ _ _ hm
  obtain ⟨a6, rfl, rfl, rfl, w6⟩ := open_int Try.underlying3 (hval 6 _ v6 rfl rfl) h6
  have k7 := h7
  have lt7 : ∀ x ∈ p7, x.block < W.heap.size := by obtain ⟨m, hm⟩ := k7; exact DataW.trod_lt m _ _ _ hm
  obtain ⟨a7, rfl, rfl, rfl, w7⟩ := open_int Try.underlying3 (hval 7 _ v7 rfl rfl) h7
  clear hA0 hval0
  have hkb := of_decide_eq_true hk0
  simp only [List.append_nil, Rows.uptoBulkAll] at hkb
  have hB0 : len0 + 1 ≤ Rows.uptoBulk d0 := hB0
  have hB1 : len1 + 1 ≤ Rows.uptoBulk d1 := hB1
  have hB3 : grpBulk l3 + 1 ≤ Rows.uptoBulk d3 := hB3
  have hba3 := grpBulk_all l3
  have hbl3 := imgBulk_len (allI l3)
  have hbm3 : ∀ g ∈ allI l3, g.len ≤ 100000000 := fun g hg => by have := imgBulk_mem hg; omega
  have hG3 : GrpsR (Sl.base W) [] a3 l3 := ⟨hR3.slC, fun g hg => ⟨imgsR_of (hE3 g hg).2.2, by have := imgBulk_grp hg; have := imgBulk_len g.gs; omega⟩⟩
  have hB4 : imgBulk l4 + 1 ≤ Rows.uptoBulk d4 := hB4
  have hbm4 : ∀ g ∈ l4, g.len ≤ 100000000 := fun g hg => by have := imgBulk_mem hg; omega
  have hbl4 := imgBulk_len l4
  refine (Tri.below (replayTells_walk a0 len0 cap0 l0 hR0 a1 len1 cap1 l1 hR1 ⟨s2_0, s2_1, s2_2, s2_3, s2_4, s2_5, s2_6⟩ a3 cap3 l3 hG3 (by omega) (by omega) hbm3 a4 cap4 l4 hR4 hbm4 ⟨s5_0, s5_1, s5_2, s5_3⟩ a6 (int_of_wf w6) a7 (int_of_wf w7) (I := Sl.base W))).mono fun e W' ⟨he, bel⟩ => ?_
  subst he
  exact ⟨_, rfl, _, _, _, [], _, [], hW', trodAll_mk1 (shut_bool Try.underlying4 _), (trodAll_cons_mk (Below.trod laidOut (by kernel_rfl) (of_decide_eq_true (by kernel_rfl)) k0 bel lt0) (trodAll_cons_mk (Below.trod laidOut (by kernel_rfl) (of_decide_eq_true (by kernel_rfl)) k1 bel lt1) (trodAll_cons_mk (Below.trod laidOut (by kernel_rfl) (of_decide_eq_true (by kernel_rfl)) k2 bel lt2) (trodAll_cons_mk (Below.trod laidOut (by kernel_rfl) (of_decide_eq_true (by kernel_rfl)) k3 bel lt3) (trodAll_cons_mk (Below.trod laidOut (by kernel_rfl) (of_decide_eq_true (by kernel_rfl)) k4 bel lt4) (trodAll_cons_mk (Below.trod laidOut (by kernel_rfl) (of_decide_eq_true (by kernel_rfl)) k5 bel lt5) (trodAll_cons_mk (Below.trod laidOut (by kernel_rfl) (of_decide_eq_true (by kernel_rfl)) k6 bel lt6) (trodAll_cons_mk (Below.trod laidOut (by kernel_rfl) (of_decide_eq_true (by kernel_rfl)) k7 bel lt7) trodAll_mk0)))))))), rfl, bel.frame _, fun h => by cases h⟩
theorem over : Rows.replayTellsUptoRow.holds Try.pinned (Rows.OpenSpec.upto Rows.replayTellsSpec) :=
  OpenClaim.holds_of_cond 13 Try.f13 rfl rfl rfl rfl rfl rfl rfl ⟨rfl, rfl, rfl, rfl, rfl⟩ rfl rfl rfl rfl rfl (by kernel_rfl) Try.func13 (by kernel_rfl)
    (of_decide_eq_true (by kernel_rfl)) (by unfold Func.isWrapper; first | (rw [if_pos (by decide +kernel)]; kernel_rfl) | (rw [if_neg (by decide +kernel)]; exact ⟨rfl, rfl⟩))
    (fun os started H enc _ F => lifted os started H enc F)
end Go.Proofs.Ytbpdbgcndfcilaa.replayTells
namespace Go.Proofs.Ytbpdbgcndfcilaa
theorem replayTells_holds : Rows.ReplayTellsUptoSaid := replayTells.over
#print axioms replayTells_holds
end Go.Proofs.Ytbpdbgcndfcilaa
