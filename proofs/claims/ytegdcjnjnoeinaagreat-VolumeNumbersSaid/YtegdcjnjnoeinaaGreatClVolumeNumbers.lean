/- 'VolumeNumbers' holds: the law returns true for every input, and its arguments read as they did. No condition. -/
import Derived.Test.YtegdcjnjnoeinaaGreatRows
import Derived.WalkKit
import Derived.ProofKit
import Derived.OpenShut
import Derived.ShutString
import Derived.ChangeOld
import Derived.Below
import Derived.SizedLaws
import Derived.Test.YtegdcjnjnoeinaaGreatBVolumeNumbers1
import Derived.Test.YtegdcjnjnoeinaaGreatBVolumeNumbers2
import Derived.Test.YtegdcjnjnoeinaaGreatBVolumeNumbers3
import Derived.Test.YtegdcjnjnoeinaaGreatBVolumeNumbers4
import Derived.Test.YtegdcjnjnoeinaaGreatBVolumeNumbers5
import Derived.Test.YtegdcjnjnoeinaaGreatBVolumeNumbers6
import Derived.Test.YtegdcjnjnoeinaaGreatBVolumeNumbers7
namespace Go.Proofs.YtegdcjnjnoeinaaGreat.volumeNumbers
open Go.ChangeShapes Go.WideShapes Go.ChangeAt Go.RowKit Go.Sl
open Go.ChangeMaps (open_string shut_string)
theorem own : ownKnob Tryz.prog.godebug = none := by kernel_rfl
theorem laidOut : laidOutB Tryz.prog = true := by kernel_rfl
set_option maxRecDepth 100000 in
theorem lifted (os : Os) (started : os.Started) (H : Type) (enc : TypeId × Value → H) :
    ReturnsInHanded {} Tryz.checked os 7 .any (Rows.volumeNumbersSpec.pre6 enc Tryz.prog Tryz.f7 Rows.volumeNumbersRow.domain false) (Rows.volumeNumbersSpec.post enc Tryz.prog Tryz.f7 false true false false) := by
  refine returnsInHanded_of_change_sized (C := Tryz.checked) own started (by kernel_rfl) Tryz.func7
    (ChangeSpec.witness6 (enc := enc) (C := Tryz.checked) false ⟨#[], #[], []⟩ 8 (by kernel_rfl) (by kernel_rfl) (by kernel_rfl) (by kernel_rfl)) ?_
  intro W base args ds gs before hval0 hW hcnd hsz0 _
  have hsz : (DataW.weightsEach Tryz.prog (Tryz.f7.params.toList ++ Rows.volumeNumbersSpec.plain.varTypes Tryz.prog) (ds ++ gs)).all (· ≤ reachBytes) = true := hsz0
  have hval : ∀ (j : Nat) t v, Tryz.f7.params[j]? = some t → args[j]? = some v → Value.okWide Tryz.prog W .any base t v := hval0
  have hW' := hW
  obtain ⟨p, q, hA0, hV, rfl, hfz, hnd⟩ := hW
  have hA : DataW.TrodAll enc Tryz.prog W 0 (fun _ => true) true Tryz.f7.params.toList args.toList ds p := hA0
  rw [Tryz.params7] at hA hval hsz
  obtain ⟨rfl, rfl, rfl⟩ := trodAll_none hA
  obtain ⟨rfl, rfl⟩ := trodVars_none hV
  clear hA0 hval0 hsz0 hsz
  refine (Tri.below (volumeNumbers_walk (I := Sl.base W))).mono fun e W' ⟨he, bel⟩ => ?_
  subst he
  exact ⟨_, rfl, _, _, _, [], _, [], hW', trodAll_mk1 (shut_bool Tryz.underlying4 _), trodAll_mk0, rfl, bel.frame _, fun h => by cases h⟩
theorem over : Rows.volumeNumbersRow.holds Tryz.pinned (OpenSpec.ofChange Rows.volumeNumbersSpec) :=
  OpenClaim.holds_of_wide 7 Tryz.f7 rfl rfl rfl rfl rfl rfl rfl ⟨rfl, rfl, rfl, rfl, rfl⟩ rfl rfl rfl rfl rfl named Tryz.func7 facts
    inst (by unfold Func.isWrapper; first | (rw [if_pos (by decide +kernel)]; kernel_rfl) | (rw [if_neg (by decide +kernel)]; exact ⟨rfl, rfl⟩))
    (fun os started H enc _ => lifted os started H enc)
end Go.Proofs.YtegdcjnjnoeinaaGreat.volumeNumbers
namespace Go.Proofs.YtegdcjnjnoeinaaGreat
theorem volumeNumbers_holds : Rows.VolumeNumbersSaid := volumeNumbers.over
#print axioms volumeNumbers_holds
end Go.Proofs.YtegdcjnjnoeinaaGreat
