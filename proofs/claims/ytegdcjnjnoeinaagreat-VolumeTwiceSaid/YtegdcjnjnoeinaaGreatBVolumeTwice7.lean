/- Texts of this claim laid together: FctVolumeTwice. -/
import Derived.Test.YtegdcjnjnoeinaaGreatRows
import Derived.WalkKit
import Derived.ProofKit
namespace Go.Proofs.YtegdcjnjnoeinaaGreat.volumeTwice
open Go.ChangeShapes Go.WideShapes Go.ChangeAt Go.RowKit
theorem and_true2 {a b : Bool} (h : a = true) (k : b = true) : (a && b) = true := by rw [h, k]; rfl
theorem fact0 : (Rows.volumeTwiceRow.wf (OpenSpec.ofChange Rows.volumeTwiceSpec)) = true := by kernel_rfl
theorem fact1 : (laidOutB Tryz.prog) = true := by kernel_rfl
theorem fact2 : (mapsRowed Tryz.prog) = true := by kernel_rfl
theorem fact3 : (Tryz.f6.params.all (Tryz.prog.readableRec ·)) = true := by kernel_rfl
theorem fact4 : (namedTie Tryz.prog Rows.volumeTwiceRow.named Rows.volumeTwiceSpec.vars) = true := by kernel_rfl
theorem fact5 : (Rows.volumeTwiceRow.stops == []) = true := by kernel_rfl
theorem fact6 : (Tryz.prog.stops == []) = true := by kernel_rfl
theorem fact7 : (Rows.volumeTwiceRow.knobs == []) = true := by kernel_rfl
theorem fact8 : (Tryz.prog.stopKnobs == []) = true := by kernel_rfl
theorem fact9 : (Rows.volumeTwiceRow.inPlace == Tryz.prog.inPlace 6) = true := by kernel_rfl
theorem fact10 : (Rows.volumeTwiceRow.unfollowed == Tryz.prog.unfollowed 6) = true := by kernel_rfl
theorem fact11 : (Rows.volumeTwiceRow.recurses == Tryz.prog.recurses 6) = true := by kernel_rfl
theorem fact12 : (Rows.volumeTwiceRow.named == Tryz.prog.varsNamed 6) = true := by kernel_rfl
theorem fact13 : (Rows.volumeTwiceRow.maps == (Tryz.f6.params.toList ++ Rows.volumeTwiceSpec.plain.varTypes Tryz.prog).any (Tryz.prog.mapsRec ·)) = true := by kernel_rfl
theorem fact14 : (Rows.volumeTwiceRow.ifaces == (Tryz.f6.params.toList ++ Rows.volumeTwiceSpec.plain.varTypes Tryz.prog).any (Tryz.prog.ifacesRec ·)) = true := by kernel_rfl
theorem fact15 : (Rows.volumeTwiceRow.mapsOut == Tryz.prog.mapsAmong Tryz.f6.resultTypes.toList) = true := by kernel_rfl
theorem fact16 : (Rows.volumeTwiceRow.loops == (Tryz.f6.params.toList ++ Rows.volumeTwiceSpec.plain.varTypes Tryz.prog).any (Tryz.prog.loopsFrom ·)) = true := by kernel_rfl
theorem fact17 : (Rows.volumeTwiceRow.wideKeys == (Tryz.f6.params.toList ++ Rows.volumeTwiceSpec.plain.varTypes Tryz.prog ++ Tryz.f6.resultTypes.toList).any (Tryz.prog.wideKeysFrom ·)) = true := by kernel_rfl
theorem fact18 : (Rows.volumeTwiceSpec.vars.all (Tryz.prog.varReadable ·)) = true := by kernel_rfl
theorem fact19 : (Tryz.f6.resultTypes.all (fun t => Tryz.prog.readableRec t && decide (t < Tryz.prog.types.size))) = true := by kernel_rfl
theorem fact20 : (Rows.volumeTwiceRow.ifacesOut == Tryz.f6.resultTypes.toList.any (Tryz.prog.ifacesRec ·)) = true := by kernel_rfl
theorem fact21 : (Rows.volumeTwiceRow.loopsOut == Tryz.f6.resultTypes.toList.any (Tryz.prog.loopsFrom ·)) = true := by kernel_rfl
theorem fact22 : (Rows.volumeTwiceRow.plainKeys == Tryz.prog.plainKeys) = true := by kernel_rfl
theorem fact23 : (Rows.volumeTwiceRow.shortTexts.isNone) = true := by kernel_rfl
theorem fact24 : (Tryz.prog.stopsHeard) = true := by kernel_rfl
theorem fact25 : (Tryz.prog.mayEnter) = true := by kernel_rfl
theorem fact26 : (Rows.volumeTwiceRow.lifted == Tryz.prog.liftsFinal) = true := by kernel_rfl
theorem fact27 : (Tryz.prog.make == some Rows.volumeTwiceRow.make) = true := by kernel_rfl
theorem fact28 : (Rows.volumeTwiceRow.kinds == (if Rows.volumeTwiceRow.domain.isEmpty then [] else Tryz.f6.params.toList.map fun t => match Tryz.prog.underlying t with | some (.int k) => some k | _ => none)) = true := by kernel_rfl
theorem fact29 : (Rows.volumeTwiceRow.pinned == Rows.volumeTwiceRow.pinnedBy) = true := by kernel_rfl
theorem fact30 : (Rows.volumeTwiceRow.veiled == (Tryz.f6.params.toList ++ Rows.volumeTwiceSpec.plain.varTypes Tryz.prog ++ Tryz.f6.resultTypes.toList).any (Tryz.prog.veiledRec ·)) = true := by kernel_rfl
theorem fact31 : (Rows.volumeTwiceRow.veiledFits Tryz.prog Tryz.f6.params.toList (Tryz.f6.params.toList ++ Rows.volumeTwiceSpec.plain.varTypes Tryz.prog ++ Tryz.f6.resultTypes.toList)) = true := by kernel_rfl
set_option maxRecDepth 100000 in
theorem facts : joinedFacts Tryz.prog 6 Tryz.f6 Rows.volumeTwiceSpec Rows.volumeTwiceRow = true :=
  (and_true2 (and_true2 (and_true2 (and_true2 (and_true2 (and_true2 (and_true2 (and_true2 (and_true2 (and_true2 (and_true2 (and_true2 (and_true2 (and_true2 (and_true2 (and_true2 (and_true2 (and_true2 (and_true2 (and_true2 (and_true2 (and_true2 (and_true2 (and_true2 (and_true2 (and_true2 (and_true2 (and_true2 (and_true2 (and_true2 (and_true2 fact0 fact1) fact2) fact3) fact4) fact5) fact6) fact7) fact8) fact9) fact10) fact11) fact12) fact13) fact14) fact15) fact16) fact17) fact18) fact19) fact20) fact21) fact22) fact23) fact24) fact25) fact26) fact27) fact28) fact29) fact30) fact31)
theorem named : Tryz.prog.funcNamed Rows.volumeTwiceRow.func = some 6 := by kernel_rfl
theorem inst : Tryz.f6.isInstance Tryz.prog Rows.volumeTwiceRow.origin Rows.volumeTwiceRow.targs := of_decide_eq_true (by kernel_rfl)
end Go.Proofs.YtegdcjnjnoeinaaGreat.volumeTwice
