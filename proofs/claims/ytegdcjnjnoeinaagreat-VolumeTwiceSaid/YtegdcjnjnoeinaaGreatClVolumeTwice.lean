/- 'VolumeTwice' holds: the law returns true for every input, and its arguments read as they did. No condition. -/
import Derived.Test.YtegdcjnjnoeinaaGreatRows
import Derived.WalkKit
import Derived.ProofKit
import Derived.OpenShut
import Derived.ShutString
import Derived.ChangeOld
import Derived.Below
import Derived.SizedLaws
import Derived.Test.YtegdcjnjnoeinaaGreatBVolumeTwice1
import Derived.Test.YtegdcjnjnoeinaaGreatBVolumeTwice2
import Derived.Test.YtegdcjnjnoeinaaGreatBVolumeTwice3
import Derived.Test.YtegdcjnjnoeinaaGreatBVolumeTwice4
import Derived.Test.YtegdcjnjnoeinaaGreatBVolumeTwice5
import Derived.Test.YtegdcjnjnoeinaaGreatBVolumeTwice6
import Derived.Test.YtegdcjnjnoeinaaGreatBVolumeTwice7
namespace Go.Proofs.YtegdcjnjnoeinaaGreat.volumeTwice
open Go.ChangeShapes Go.WideShapes Go.ChangeAt Go.RowKit Go.Sl
open Go.ChangeMaps (open_string shut_string)
theorem own : ownKnob Tryz.prog.godebug = none := by kernel_rfl
theorem laidOut : laidOutB Tryz.prog = true := by kernel_rfl
set_option maxRecDepth 100000 in
theorem lifted (os : Os) (started : os.Started) (H : Type) (enc : TypeId × Value → H) :
    ReturnsInHanded {} Tryz.checked os 6 .any (Rows.volumeTwiceSpec.pre6 enc Tryz.prog Tryz.f6 Rows.volumeTwiceRow.domain false) (Rows.volumeTwiceSpec.post enc Tryz.prog Tryz.f6 false true false false) := by
  refine returnsInHanded_of_change_sized (C := Tryz.checked) own started (by kernel_rfl) Tryz.func6
    (ChangeSpec.witness6 (enc := enc) (C := Tryz.checked) false ⟨#[], #[.agg #[.slice none 0 0, .int .i64 0, .slice none 0 0, .slice none 0 0, .int .i64 0, .int .u8 0, .int .i64 0]], []⟩ 8 (by kernel_rfl) (by kernel_rfl) (by kernel_rfl) (by kernel_rfl)) ?_
  intro W base args ds gs before hval0 hW hcnd hsz0 _
  have hsz : (DataW.weightsEach Tryz.prog (Tryz.f6.params.toList ++ Rows.volumeTwiceSpec.plain.varTypes Tryz.prog) (ds ++ gs)).all (· ≤ reachBytes) = true := hsz0
  have hval : ∀ (j : Nat) t v, Tryz.f6.params[j]? = some t → args[j]? = some v → Value.okWide Tryz.prog W .any base t v := hval0
  have hW' := hW
  obtain ⟨p, q, hA0, hV, rfl, hfz, hnd⟩ := hW
  have hA : DataW.TrodAll enc Tryz.prog W 0 (fun _ => true) true Tryz.f6.params.toList args.toList ds p := hA0
  rw [Tryz.params6] at hA hval hsz
  obtain ⟨v0, vs0, d0, ds0, p0, q0, hargs, rfl, rfl, h0, r0⟩ := trodAll_cons hA
  obtain ⟨rfl, rfl, rfl⟩ := trodAll_nil r0
  obtain rfl : args = #[v0] := by cases args; simp_all
  obtain ⟨rfl, rfl⟩ := trodVars_none hV
  have k0 := h0
  have lt0 : ∀ x ∈ p0, x.block < W.heap.size := by obtain ⟨m, hm⟩ := k0; exact DataW.trod_lt m _ _ _ hm
  obtain ⟨cs0, rfl, hcs0⟩ := okWide_struct Tryz.underlying59 (hval 0 _ v0 rfl rfl)
  obtain ⟨fuel0, hf0⟩ := h0
  have hf0 : DataW.trod enc Tryz.prog W 0 (fun _ => true) true fuel0 59 cs0.toList = some (d0, p0) := hf0
  obtain ⟨l0, e0, ho0⟩ := open_life (by rw [Array.length_toList, hcs0]; kernel_rfl) hf0
  obtain rfl : cs0 = l0.cells.toArray := by rw [← e0]
  clear hA0 hval0 hsz0 hsz
  refine (Tri.below (volumeTwice_walk l0.aW l0.nW l0.capW l0.work ho0.wl ho0.w ho0.wi l0.arm l0.aK l0.nK l0.capK l0.keep ho0.k l0.aL l0.nL l0.capL l0.later ho0.l l0.tn l0.sec ho0.sec l0.again ho0.again (I := Sl.base W))).mono fun e W' ⟨he, bel⟩ => ?_
  subst he
  exact ⟨_, rfl, _, _, _, [], _, [], hW', trodAll_mk1 (shut_bool Tryz.underlying4 _), (trodAll_cons_mk (Below.trod laidOut (by kernel_rfl) (of_decide_eq_true (by kernel_rfl)) k0 bel lt0) trodAll_mk0), rfl, bel.frame _, fun h => by cases h⟩
theorem over : Rows.volumeTwiceRow.holds Tryz.pinned (OpenSpec.ofChange Rows.volumeTwiceSpec) :=
  OpenClaim.holds_of_wide 6 Tryz.f6 rfl rfl rfl rfl rfl rfl rfl ⟨rfl, rfl, rfl, rfl, rfl⟩ rfl rfl rfl rfl rfl named Tryz.func6 facts
    inst (by unfold Func.isWrapper; first | (rw [if_pos (by decide +kernel)]; kernel_rfl) | (rw [if_neg (by decide +kernel)]; exact ⟨rfl, rfl⟩))
    (fun os started H enc _ => lifted os started H enc)
end Go.Proofs.YtegdcjnjnoeinaaGreat.volumeTwice
namespace Go.Proofs.YtegdcjnjnoeinaaGreat
theorem volumeTwice_holds : Rows.VolumeTwiceSaid := volumeTwice.over
#print axioms volumeTwice_holds
end Go.Proofs.YtegdcjnjnoeinaaGreat
