/- Texts of this claim laid together: FctVolumeFormats. -/
import Derived.Test.YtegdcjnjnoeinaaGreatRows
import Derived.WalkKit
import Derived.ProofKit
namespace Go.Proofs.YtegdcjnjnoeinaaGreat.volumeFormats
open Go.ChangeShapes Go.WideShapes Go.ChangeAt Go.RowKit
theorem and_true2 {a b : Bool} (h : a = true) (k : b = true) : (a && b) = true := by rw [h, k]; rfl
theorem fact0 : (Rows.volumeFormatsRow.wf (OpenSpec.ofChange Rows.volumeFormatsSpec)) = true := by kernel_rfl
theorem fact1 : (laidOutB Tryz.prog) = true := by kernel_rfl
theorem fact2 : (mapsRowed Tryz.prog) = true := by kernel_rfl
theorem fact3 : (Tryz.f9.params.all (Tryz.prog.readableRec ·)) = true := by kernel_rfl
theorem fact4 : (namedTie Tryz.prog Rows.volumeFormatsRow.named Rows.volumeFormatsSpec.vars) = true := by kernel_rfl
theorem fact5 : (Rows.volumeFormatsRow.stops == []) = true := by kernel_rfl
theorem fact6 : (Tryz.prog.stops == []) = true := by kernel_rfl
theorem fact7 : (Rows.volumeFormatsRow.knobs == []) = true := by kernel_rfl
theorem fact8 : (Tryz.prog.stopKnobs == []) = true := by kernel_rfl
theorem fact9 : (Rows.volumeFormatsRow.inPlace == Tryz.prog.inPlace 9) = true := by kernel_rfl
theorem fact10 : (Rows.volumeFormatsRow.unfollowed == Tryz.prog.unfollowed 9) = true := by kernel_rfl
theorem fact11 : (Rows.volumeFormatsRow.recurses == Tryz.prog.recurses 9) = true := by kernel_rfl
theorem fact12 : (Rows.volumeFormatsRow.named == Tryz.prog.varsNamed 9) = true := by kernel_rfl
theorem fact13 : (Rows.volumeFormatsRow.maps == (Tryz.f9.params.toList ++ Rows.volumeFormatsSpec.plain.varTypes Tryz.prog).any (Tryz.prog.mapsRec ·)) = true := by kernel_rfl
theorem fact14 : (Rows.volumeFormatsRow.ifaces == (Tryz.f9.params.toList ++ Rows.volumeFormatsSpec.plain.varTypes Tryz.prog).any (Tryz.prog.ifacesRec ·)) = true := by kernel_rfl
theorem fact15 : (Rows.volumeFormatsRow.mapsOut == Tryz.prog.mapsAmong Tryz.f9.resultTypes.toList) = true := by kernel_rfl
theorem fact16 : (Rows.volumeFormatsRow.loops == (Tryz.f9.params.toList ++ Rows.volumeFormatsSpec.plain.varTypes Tryz.prog).any (Tryz.prog.loopsFrom ·)) = true := by kernel_rfl
theorem fact17 : (Rows.volumeFormatsRow.wideKeys == (Tryz.f9.params.toList ++ Rows.volumeFormatsSpec.plain.varTypes Tryz.prog ++ Tryz.f9.resultTypes.toList).any (Tryz.prog.wideKeysFrom ·)) = true := by kernel_rfl
theorem fact18 : (Rows.volumeFormatsSpec.vars.all (Tryz.prog.varReadable ·)) = true := by kernel_rfl
theorem fact19 : (Tryz.f9.resultTypes.all (fun t => Tryz.prog.readableRec t && decide (t < Tryz.prog.types.size))) = true := by kernel_rfl
theorem fact20 : (Rows.volumeFormatsRow.ifacesOut == Tryz.f9.resultTypes.toList.any (Tryz.prog.ifacesRec ·)) = true := by kernel_rfl
theorem fact21 : (Rows.volumeFormatsRow.loopsOut == Tryz.f9.resultTypes.toList.any (Tryz.prog.loopsFrom ·)) = true := by kernel_rfl
theorem fact22 : (Rows.volumeFormatsRow.plainKeys == Tryz.prog.plainKeys) = true := by kernel_rfl
theorem fact23 : (Rows.volumeFormatsRow.shortTexts.isNone) = true := by kernel_rfl
theorem fact24 : (Tryz.prog.stopsHeard) = true := by kernel_rfl
theorem fact25 : (Tryz.prog.mayEnter) = true := by kernel_rfl
theorem fact26 : (Rows.volumeFormatsRow.lifted == Tryz.prog.liftsFinal) = true := by kernel_rfl
theorem fact27 : (Tryz.prog.make == some Rows.volumeFormatsRow.make) = true := by kernel_rfl
theorem fact28 : (Rows.volumeFormatsRow.kinds == (if Rows.volumeFormatsRow.domain.isEmpty then [] else Tryz.f9.params.toList.map fun t => match Tryz.prog.underlying t with | some (.int k) => some k | _ => none)) = true := by kernel_rfl
theorem fact29 : (Rows.volumeFormatsRow.pinned == Rows.volumeFormatsRow.pinnedBy) = true := by kernel_rfl
theorem fact30 : (Rows.volumeFormatsRow.veiled == (Tryz.f9.params.toList ++ Rows.volumeFormatsSpec.plain.varTypes Tryz.prog ++ Tryz.f9.resultTypes.toList).any (Tryz.prog.veiledRec ·)) = true := by kernel_rfl
theorem fact31 : (Rows.volumeFormatsRow.veiledFits Tryz.prog Tryz.f9.params.toList (Tryz.f9.params.toList ++ Rows.volumeFormatsSpec.plain.varTypes Tryz.prog ++ Tryz.f9.resultTypes.toList)) = true := by kernel_rfl
set_option maxRecDepth 100000 in
theorem facts : joinedFacts Tryz.prog 9 Tryz.f9 Rows.volumeFormatsSpec Rows.volumeFormatsRow = true :=
  (and_true2 (and_true2 (and_true2 (and_true2 (and_true2 (and_true2 (and_true2 (and_true2 (and_true2 (and_true2 (and_true2 (and_true2 (and_true2 (and_true2 (and_true2 (and_true2 (and_true2 (and_true2 (and_true2 (and_true2 (and_true2 (and_true2 (and_true2 (and_true2 (and_true2 (and_true2 (and_true2 (and_true2 (and_true2 (and_true2 (and_true2 fact0 fact1) fact2) fact3) fact4) fact5) fact6) fact7) fact8) fact9) fact10) fact11) fact12) fact13) fact14) fact15) fact16) fact17) fact18) fact19) fact20) fact21) fact22) fact23) fact24) fact25) fact26) fact27) fact28) fact29) fact30) fact31)
theorem named : Tryz.prog.funcNamed Rows.volumeFormatsRow.func = some 9 := by kernel_rfl
theorem inst : Tryz.f9.isInstance Tryz.prog Rows.volumeFormatsRow.origin Rows.volumeFormatsRow.targs := of_decide_eq_true (by kernel_rfl)
end Go.Proofs.YtegdcjnjnoeinaaGreat.volumeFormats
