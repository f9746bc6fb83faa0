/- Texts of this claim laid together: FctDataWhole. -/
import Derived.Test.YtklbcpofihgmlaaGreatRows
import Derived.WalkKit
import Derived.ProofKit
namespace Go.Proofs.YtklbcpofihgmlaaGreat.dataWhole
open Go.ChangeShapes Go.WideShapes Go.ChangeAt Go.RowKit
theorem and_true2 {a b:Bool} (h:a=true) (k:b=true):(a && b)=true:=by rw [h,k]; rfl
theorem fact0:(Rows.dataWholeRow.wf (OpenSpec.ofChange Rows.dataWholeSpec))=true:=by kernel_rfl
theorem fact1:(laidOutB Tryz.prog)=true:=by kernel_rfl
theorem fact2:(mapsRowed Tryz.prog)=true:=by kernel_rfl
theorem fact3:(Tryz.f4.params.all (Tryz.prog.readableRec ·))=true:=by kernel_rfl
theorem fact4:(namedTie Tryz.prog Rows.dataWholeRow.named Rows.dataWholeSpec.vars)=true:=by kernel_rfl
theorem fact5:(Rows.dataWholeRow.stops == [])=true:=by kernel_rfl
theorem fact6:(Tryz.prog.stops == [])=true:=by kernel_rfl
theorem fact7:(Rows.dataWholeRow.knobs == [])=true:=by kernel_rfl
theorem fact8:(Tryz.prog.stopKnobs == [])=true:=by kernel_rfl
theorem fact9:(Rows.dataWholeRow.inPlace == Tryz.prog.inPlace 4)=true:=by kernel_rfl
theorem fact10:(Rows.dataWholeRow.unfollowed == Tryz.prog.unfollowed 4)=true:=by kernel_rfl
theorem fact11:(Rows.dataWholeRow.recurses == Tryz.prog.recurses 4)=true:=by kernel_rfl
theorem fact12:(Rows.dataWholeRow.named == Tryz.prog.varsNamed 4)=true:=by kernel_rfl
theorem fact13:(Rows.dataWholeRow.maps == (Tryz.f4.params.toList++Rows.dataWholeSpec.plain.varTypes Tryz.prog).any (Tryz.prog.mapsRec ·))=true:=by kernel_rfl
theorem fact14:(Rows.dataWholeRow.ifaces == (Tryz.f4.params.toList++Rows.dataWholeSpec.plain.varTypes Tryz.prog).any (Tryz.prog.ifacesRec ·))=true:=by kernel_rfl
theorem fact15:(Rows.dataWholeRow.mapsOut == Tryz.prog.mapsAmong Tryz.f4.resultTypes.toList)=true:=by kernel_rfl
theorem fact16:(Rows.dataWholeRow.loops == (Tryz.f4.params.toList++Rows.dataWholeSpec.plain.varTypes Tryz.prog).any (Tryz.prog.loopsFrom ·))=true:=by kernel_rfl
theorem fact17:(Rows.dataWholeRow.wideKeys == (Tryz.f4.params.toList++Rows.dataWholeSpec.plain.varTypes Tryz.prog++Tryz.f4.resultTypes.toList).any (Tryz.prog.wideKeysFrom ·))=true:=by kernel_rfl
theorem fact18:(Rows.dataWholeSpec.vars.all (Tryz.prog.varReadable ·))=true:=by kernel_rfl
theorem fact19:(Tryz.f4.resultTypes.all (fun t=>Tryz.prog.readableRec t && decide (t < Tryz.prog.types.size)))=true:=by kernel_rfl
theorem fact20:(Rows.dataWholeRow.ifacesOut == Tryz.f4.resultTypes.toList.any (Tryz.prog.ifacesRec ·))=true:=by kernel_rfl
theorem fact21:(Rows.dataWholeRow.loopsOut == Tryz.f4.resultTypes.toList.any (Tryz.prog.loopsFrom ·))=true:=by kernel_rfl
theorem fact22:(Rows.dataWholeRow.plainKeys == Tryz.prog.plainKeys)=true:=by kernel_rfl
theorem fact23:(Rows.dataWholeRow.shortTexts.isNone)=true:=by kernel_rfl
theorem fact24:(Tryz.prog.stopsHeard)=true:=by kernel_rfl
theorem fact25:(Tryz.prog.mayEnter)=true:=by kernel_rfl
theorem fact26:(Rows.dataWholeRow.lifted == Tryz.prog.liftsFinal)=true:=by kernel_rfl
theorem fact27:(Tryz.prog.make == some Rows.dataWholeRow.make)=true:=by kernel_rfl
theorem fact28:(Rows.dataWholeRow.kinds == (if Rows.dataWholeRow.domain.isEmpty then [] else Tryz.f4.params.toList.map fun t=>match Tryz.prog.underlying t with | some (.int k)=>some k | _=>none))=true:=by kernel_rfl
theorem fact29:(Rows.dataWholeRow.pinned == Rows.dataWholeRow.pinnedBy)=true:=by kernel_rfl
theorem fact30:(Rows.dataWholeRow.veiled == (Tryz.f4.params.toList++Rows.dataWholeSpec.plain.varTypes Tryz.prog++Tryz.f4.resultTypes.toList).any (Tryz.prog.veiledRec ·))=true:=by kernel_rfl
theorem fact31:(Rows.dataWholeRow.veiledFits Tryz.prog Tryz.f4.params.toList (Tryz.f4.params.toList++Rows.dataWholeSpec.plain.varTypes Tryz.prog++Tryz.f4.resultTypes.toList))=true:=by kernel_rfl
set_option maxRecDepth 100000 in
theorem facts:joinedFacts Tryz.prog 4 Tryz.f4 Rows.dataWholeSpec Rows.dataWholeRow=true :=
  (and_true2 (and_true2 (and_true2 (and_true2 (and_true2 (and_true2 (and_true2 (and_true2 (and_true2 (and_true2 (and_true2 (and_true2 (and_true2 (and_true2 (and_true2 (and_true2 (and_true2 (and_true2 (and_true2 (and_true2 (and_true2 (and_true2 (and_true2 (and_true2 (and_true2 (and_true2 (and_true2 (and_true2 (and_true2 (and_true2 (and_true2 fact0 fact1) fact2) fact3) fact4) fact5) fact6) fact7) fact8) fact9) fact10) fact11) fact12) fact13) fact14) fact15) fact16) fact17) fact18) fact19) fact20) fact21) fact22) fact23) fact24) fact25) fact26) fact27) fact28) fact29) fact30) fact31)
theorem named:Tryz.prog.funcNamed Rows.dataWholeRow.func=some 4:=by kernel_rfl
theorem inst:Tryz.f4.isInstance Tryz.prog Rows.dataWholeRow.origin Rows.dataWholeRow.targs:=of_decide_eq_true (by kernel_rfl)
end Go.Proofs.YtklbcpofihgmlaaGreat.dataWhole
