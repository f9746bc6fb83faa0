/- Texts of this claim laid together: FctCacheNumbers. -/
import Derived.Test.YtegdcjnjnoeinaaGreatRows
import Derived.WalkKit
import Derived.ProofKit
namespace Go.Proofs.YtegdcjnjnoeinaaGreat.cacheNumbers
open Go.ChangeShapes Go.WideShapes Go.ChangeAt Go.RowKit
theorem and_true2 {a b : Bool} (h : a = true) (k : b = true) : (a && b) = true := by rw [h, k]; rfl
theorem fact0 : (Rows.cacheNumbersRow.wf (OpenSpec.ofChange Rows.cacheNumbersSpec)) = true := by kernel_rfl
theorem fact1 : (laidOutB Tryz.prog) = true := by kernel_rfl
theorem fact2 : (mapsRowed Tryz.prog) = true := by kernel_rfl
theorem fact3 : (Tryz.f10.params.all (Tryz.prog.readableRec ·)) = true := by kernel_rfl
theorem fact4 : (namedTie Tryz.prog Rows.cacheNumbersRow.named Rows.cacheNumbersSpec.vars) = true := by kernel_rfl
theorem fact5 : (Rows.cacheNumbersRow.stops == []) = true := by kernel_rfl
theorem fact6 : (Tryz.prog.stops == []) = true := by kernel_rfl
theorem fact7 : (Rows.cacheNumbersRow.knobs == []) = true := by kernel_rfl
theorem fact8 : (Tryz.prog.stopKnobs == []) = true := by kernel_rfl
theorem fact9 : (Rows.cacheNumbersRow.inPlace == Tryz.prog.inPlace 10) = true := by kernel_rfl
theorem fact10 : (Rows.cacheNumbersRow.unfollowed == Tryz.prog.unfollowed 10) = true := by kernel_rfl
theorem fact11 : (Rows.cacheNumbersRow.recurses == Tryz.prog.recurses 10) = true := by kernel_rfl
theorem fact12 : (Rows.cacheNumbersRow.named == Tryz.prog.varsNamed 10) = true := by kernel_rfl
theorem fact13 : (Rows.cacheNumbersRow.maps == (Tryz.f10.params.toList ++ Rows.cacheNumbersSpec.plain.varTypes Tryz.prog).any (Tryz.prog.mapsRec ·)) = true := by kernel_rfl
theorem fact14 : (Rows.cacheNumbersRow.ifaces == (Tryz.f10.params.toList ++ Rows.cacheNumbersSpec.plain.varTypes Tryz.prog).any (Tryz.prog.ifacesRec ·)) = true := by kernel_rfl
theorem fact15 : (Rows.cacheNumbersRow.mapsOut == Tryz.prog.mapsAmong Tryz.f10.resultTypes.toList) = true := by kernel_rfl
theorem fact16 : (Rows.cacheNumbersRow.loops == (Tryz.f10.params.toList ++ Rows.cacheNumbersSpec.plain.varTypes Tryz.prog).any (Tryz.prog.loopsFrom ·)) = true := by kernel_rfl
theorem fact17 : (Rows.cacheNumbersRow.wideKeys == (Tryz.f10.params.toList ++ Rows.cacheNumbersSpec.plain.varTypes Tryz.prog ++ Tryz.f10.resultTypes.toList).any (Tryz.prog.wideKeysFrom ·)) = true := by kernel_rfl
theorem fact18 : (Rows.cacheNumbersSpec.vars.all (Tryz.prog.varReadable ·)) = true := by kernel_rfl
theorem fact19 : (Tryz.f10.resultTypes.all (fun t => Tryz.prog.readableRec t && decide (t < Tryz.prog.types.size))) = true := by kernel_rfl
theorem fact20 : (Rows.cacheNumbersRow.ifacesOut == Tryz.f10.resultTypes.toList.any (Tryz.prog.ifacesRec ·)) = true := by kernel_rfl
theorem fact21 : (Rows.cacheNumbersRow.loopsOut == Tryz.f10.resultTypes.toList.any (Tryz.prog.loopsFrom ·)) = true := by kernel_rfl
theorem fact22 : (Rows.cacheNumbersRow.plainKeys == Tryz.prog.plainKeys) = true := by kernel_rfl
theorem fact23 : (Rows.cacheNumbersRow.shortTexts.isNone) = true := by kernel_rfl
theorem fact24 : (Tryz.prog.stopsHeard) = true := by kernel_rfl
theorem fact25 : (Tryz.prog.mayEnter) = true := by kernel_rfl
theorem fact26 : (Rows.cacheNumbersRow.lifted == Tryz.prog.liftsFinal) = true := by kernel_rfl
theorem fact27 : (Tryz.prog.make == some Rows.cacheNumbersRow.make) = true := by kernel_rfl
theorem fact28 : (Rows.cacheNumbersRow.kinds == (if Rows.cacheNumbersRow.domain.isEmpty then [] else Tryz.f10.params.toList.map fun t => match Tryz.prog.underlying t with | some (.int k) => some k | _ => none)) = true := by kernel_rfl
theorem fact29 : (Rows.cacheNumbersRow.pinned == Rows.cacheNumbersRow.pinnedBy) = true := by kernel_rfl
theorem fact30 : (Rows.cacheNumbersRow.veiled == (Tryz.f10.params.toList ++ Rows.cacheNumbersSpec.plain.varTypes Tryz.prog ++ Tryz.f10.resultTypes.toList).any (Tryz.prog.veiledRec ·)) = true := by kernel_rfl
theorem fact31 : (Rows.cacheNumbersRow.veiledFits Tryz.prog Tryz.f10.params.toList (Tryz.f10.params.toList ++ Rows.cacheNumbersSpec.plain.varTypes Tryz.prog ++ Tryz.f10.resultTypes.toList)) = true := by kernel_rfl
set_option maxRecDepth 100000 in
theorem facts : joinedFacts Tryz.prog 10 Tryz.f10 Rows.cacheNumbersSpec Rows.cacheNumbersRow = true :=
  (and_true2 (and_true2 (and_true2 (and_true2 (and_true2 (and_true2 (and_true2 (and_true2 (and_true2 (and_true2 (and_true2 (and_true2 (and_true2 (and_true2 (and_true2 (and_true2 (and_true2 (and_true2 (and_true2 (and_true2 (and_true2 (and_true2 (and_true2 (and_true2 (and_true2 (and_true2 (and_true2 (and_true2 (and_true2 (and_true2 (and_true2 fact0 fact1) fact2) fact3) fact4) fact5) fact6) fact7) fact8) fact9) fact10) fact11) fact12) fact13) fact14) fact15) fact16) fact17) fact18) fact19) fact20) fact21) fact22) fact23) fact24) fact25) fact26) fact27) fact28) fact29) fact30) fact31)
theorem named : Tryz.prog.funcNamed Rows.cacheNumbersRow.func = some 10 := by kernel_rfl
theorem inst : Tryz.f10.isInstance Tryz.prog Rows.cacheNumbersRow.origin Rows.cacheNumbersRow.targs := of_decide_eq_true (by kernel_rfl)
end Go.Proofs.YtegdcjnjnoeinaaGreat.cacheNumbers
