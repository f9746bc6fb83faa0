/- Texts of this claim laid together: FctVolumeNumbers. -/
import Derived.Test.YtegdcjnjnoeinaaGreatRows
import Derived.WalkKit
import Derived.ProofKit
namespace Go.Proofs.YtegdcjnjnoeinaaGreat.volumeNumbers
open Go.ChangeShapes Go.WideShapes Go.ChangeAt Go.RowKit
theorem and_true2 {a b : Bool} (h : a = true) (k : b = true) : (a && b) = true := by rw [h, k]; rfl
theorem fact0 : (Rows.volumeNumbersRow.wf (OpenSpec.ofChange Rows.volumeNumbersSpec)) = true := by kernel_rfl
theorem fact1 : (laidOutB Tryz.prog) = true := by kernel_rfl
theorem fact2 : (mapsRowed Tryz.prog) = true := by kernel_rfl
theorem fact3 : (Tryz.f7.params.all (Tryz.prog.readableRec ·)) = true := by kernel_rfl
theorem fact4 : (namedTie Tryz.prog Rows.volumeNumbersRow.named Rows.volumeNumbersSpec.vars) = true := by kernel_rfl
theorem fact5 : (Rows.volumeNumbersRow.stops == []) = true := by kernel_rfl
theorem fact6 : (Tryz.prog.stops == []) = true := by kernel_rfl
theorem fact7 : (Rows.volumeNumbersRow.knobs == []) = true := by kernel_rfl
theorem fact8 : (Tryz.prog.stopKnobs == []) = true := by kernel_rfl
theorem fact9 : (Rows.volumeNumbersRow.inPlace == Tryz.prog.inPlace 7) = true := by kernel_rfl
theorem fact10 : (Rows.volumeNumbersRow.unfollowed == Tryz.prog.unfollowed 7) = true := by kernel_rfl
theorem fact11 : (Rows.volumeNumbersRow.recurses == Tryz.prog.recurses 7) = true := by kernel_rfl
theorem fact12 : (Rows.volumeNumbersRow.named == Tryz.prog.varsNamed 7) = true := by kernel_rfl
theorem fact13 : (Rows.volumeNumbersRow.maps == (Tryz.f7.params.toList ++ Rows.volumeNumbersSpec.plain.varTypes Tryz.prog).any (Tryz.prog.mapsRec ·)) = true := by kernel_rfl
theorem fact14 : (Rows.volumeNumbersRow.ifaces == (Tryz.f7.params.toList ++ Rows.volumeNumbersSpec.plain.varTypes Tryz.prog).any (Tryz.prog.ifacesRec ·)) = true := by kernel_rfl
theorem fact15 : (Rows.volumeNumbersRow.mapsOut == Tryz.prog.mapsAmong Tryz.f7.resultTypes.toList) = true := by kernel_rfl
theorem fact16 : (Rows.volumeNumbersRow.loops == (Tryz.f7.params.toList ++ Rows.volumeNumbersSpec.plain.varTypes Tryz.prog).any (Tryz.prog.loopsFrom ·)) = true := by kernel_rfl
theorem fact17 : (Rows.volumeNumbersRow.wideKeys == (Tryz.f7.params.toList ++ Rows.volumeNumbersSpec.plain.varTypes Tryz.prog ++ Tryz.f7.resultTypes.toList).any (Tryz.prog.wideKeysFrom ·)) = true := by kernel_rfl
theorem fact18 : (Rows.volumeNumbersSpec.vars.all (Tryz.prog.varReadable ·)) = true := by kernel_rfl
theorem fact19 : (Tryz.f7.resultTypes.all (fun t => Tryz.prog.readableRec t && decide (t < Tryz.prog.types.size))) = true := by kernel_rfl
theorem fact20 : (Rows.volumeNumbersRow.ifacesOut == Tryz.f7.resultTypes.toList.any (Tryz.prog.ifacesRec ·)) = true := by kernel_rfl
theorem fact21 : (Rows.volumeNumbersRow.loopsOut == Tryz.f7.resultTypes.toList.any (Tryz.prog.loopsFrom ·)) = true := by kernel_rfl
theorem fact22 : (Rows.volumeNumbersRow.plainKeys == Tryz.prog.plainKeys) = true := by kernel_rfl
theorem fact23 : (Rows.volumeNumbersRow.shortTexts.isNone) = true := by kernel_rfl
theorem fact24 : (Tryz.prog.stopsHeard) = true := by kernel_rfl
theorem fact25 : (Tryz.prog.mayEnter) = true := by kernel_rfl
theorem fact26 : (Rows.volumeNumbersRow.lifted == Tryz.prog.liftsFinal) = true := by kernel_rfl
theorem fact27 : (Tryz.prog.make == some Rows.volumeNumbersRow.make) = true := by kernel_rfl
theorem fact28 : (Rows.volumeNumbersRow.kinds == (if Rows.volumeNumbersRow.domain.isEmpty then [] else Tryz.f7.params.toList.map fun t => match Tryz.prog.underlying t with | some (.int k) => some k | _ => none)) = true := by kernel_rfl
theorem fact29 : (Rows.volumeNumbersRow.pinned == Rows.volumeNumbersRow.pinnedBy) = true := by kernel_rfl
theorem fact30 : (Rows.volumeNumbersRow.veiled == (Tryz.f7.params.toList ++ Rows.volumeNumbersSpec.plain.varTypes Tryz.prog ++ Tryz.f7.resultTypes.toList).any (Tryz.prog.veiledRec ·)) = true := by kernel_rfl
theorem fact31 : (Rows.volumeNumbersRow.veiledFits Tryz.prog Tryz.f7.params.toList (Tryz.f7.params.toList ++ Rows.volumeNumbersSpec.plain.varTypes Tryz.prog ++ Tryz.f7.resultTypes.toList)) = true := by kernel_rfl
set_option maxRecDepth 100000 in
theorem facts : joinedFacts Tryz.prog 7 Tryz.f7 Rows.volumeNumbersSpec Rows.volumeNumbersRow = true :=
  (and_true2 (and_true2 (and_true2 (and_true2 (and_true2 (and_true2 (and_true2 (and_true2 (and_true2 (and_true2 (and_true2 (and_true2 (and_true2 (and_true2 (and_true2 (and_true2 (and_true2 (and_true2 (and_true2 (and_true2 (and_true2 (and_true2 (and_true2 (and_true2 (and_true2 (and_true2 (and_true2 (and_true2 (and_true2 (and_true2 (and_true2 fact0 fact1) fact2) fact3) fact4) fact5) fact6) fact7) fact8) fact9) fact10) fact11) fact12) fact13) fact14) fact15) fact16) fact17) fact18) fact19) fact20) fact21) fact22) fact23) fact24) fact25) fact26) fact27) fact28) fact29) fact30) fact31)
theorem named : Tryz.prog.funcNamed Rows.volumeNumbersRow.func = some 7 := by kernel_rfl
theorem inst : Tryz.f7.isInstance Tryz.prog Rows.volumeNumbersRow.origin Rows.volumeNumbersRow.targs := of_decide_eq_true (by kernel_rfl)
end Go.Proofs.YtegdcjnjnoeinaaGreat.volumeNumbers
