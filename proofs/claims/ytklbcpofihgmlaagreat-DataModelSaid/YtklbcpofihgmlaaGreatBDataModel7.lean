/- Texts of this claim laid together: FctDataModel. -/
import Derived.Test.YtklbcpofihgmlaaGreatRows
import Derived.WalkKit
import Derived.ProofKit
namespace Go.Proofs.YtklbcpofihgmlaaGreat.dataModel
open Go.ChangeShapes Go.WideShapes Go.ChangeAt Go.RowKit
theorem and_true2 {a b:Bool} (h:a=true) (k:b=true):(a && b)=true:=by rw [h,k]; rfl
theorem fact0:(Rows.dataModelRow.wf (OpenSpec.ofChange Rows.dataModelSpec))=true:=by kernel_rfl
theorem fact1:(laidOutB Tryz.prog)=true:=by kernel_rfl
theorem fact2:(mapsRowed Tryz.prog)=true:=by kernel_rfl
theorem fact3:(Tryz.f5.params.all (Tryz.prog.readableRec ·))=true:=by kernel_rfl
theorem fact4:(namedTie Tryz.prog Rows.dataModelRow.named Rows.dataModelSpec.vars)=true:=by kernel_rfl
theorem fact5:(Rows.dataModelRow.stops == [])=true:=by kernel_rfl
theorem fact6:(Tryz.prog.stops == [])=true:=by kernel_rfl
theorem fact7:(Rows.dataModelRow.knobs == [])=true:=by kernel_rfl
theorem fact8:(Tryz.prog.stopKnobs == [])=true:=by kernel_rfl
theorem fact9:(Rows.dataModelRow.inPlace == Tryz.prog.inPlace 5)=true:=by kernel_rfl
theorem fact10:(Rows.dataModelRow.unfollowed == Tryz.prog.unfollowed 5)=true:=by kernel_rfl
theorem fact11:(Rows.dataModelRow.recurses == Tryz.prog.recurses 5)=true:=by kernel_rfl
theorem fact12:(Rows.dataModelRow.named == Tryz.prog.varsNamed 5)=true:=by kernel_rfl
theorem fact13:(Rows.dataModelRow.maps == (Tryz.f5.params.toList++Rows.dataModelSpec.plain.varTypes Tryz.prog).any (Tryz.prog.mapsRec ·))=true:=by kernel_rfl
theorem fact14:(Rows.dataModelRow.ifaces == (Tryz.f5.params.toList++Rows.dataModelSpec.plain.varTypes Tryz.prog).any (Tryz.prog.ifacesRec ·))=true:=by kernel_rfl
theorem fact15:(Rows.dataModelRow.mapsOut == Tryz.prog.mapsAmong Tryz.f5.resultTypes.toList)=true:=by kernel_rfl
theorem fact16:(Rows.dataModelRow.loops == (Tryz.f5.params.toList++Rows.dataModelSpec.plain.varTypes Tryz.prog).any (Tryz.prog.loopsFrom ·))=true:=by kernel_rfl
theorem fact17:(Rows.dataModelRow.wideKeys == (Tryz.f5.params.toList++Rows.dataModelSpec.plain.varTypes Tryz.prog++Tryz.f5.resultTypes.toList).any (Tryz.prog.wideKeysFrom ·))=true:=by kernel_rfl
theorem fact18:(Rows.dataModelSpec.vars.all (Tryz.prog.varReadable ·))=true:=by kernel_rfl
theorem fact19:(Tryz.f5.resultTypes.all (fun t=>Tryz.prog.readableRec t && decide (t < Tryz.prog.types.size)))=true:=by kernel_rfl
theorem fact20:(Rows.dataModelRow.ifacesOut == Tryz.f5.resultTypes.toList.any (Tryz.prog.ifacesRec ·))=true:=by kernel_rfl
theorem fact21:(Rows.dataModelRow.loopsOut == Tryz.f5.resultTypes.toList.any (Tryz.prog.loopsFrom ·))=true:=by kernel_rfl
theorem fact22:(Rows.dataModelRow.plainKeys == Tryz.prog.plainKeys)=true:=by kernel_rfl
theorem fact23:(Rows.dataModelRow.shortTexts.isNone)=true:=by kernel_rfl
theorem fact24:(Tryz.prog.stopsHeard)=true:=by kernel_rfl
theorem fact25:(Tryz.prog.mayEnter)=true:=by kernel_rfl
theorem fact26:(Rows.dataModelRow.lifted == Tryz.prog.liftsFinal)=true:=by kernel_rfl
theorem fact27:(Tryz.prog.make == some Rows.dataModelRow.make)=true:=by kernel_rfl
theorem fact28:(Rows.dataModelRow.kinds == (if Rows.dataModelRow.domain.isEmpty then [] else Tryz.f5.params.toList.map fun t=>match Tryz.prog.underlying t with | some (.int k)=>some k | _=>none))=true:=by kernel_rfl
theorem fact29:(Rows.dataModelRow.pinned == Rows.dataModelRow.pinnedBy)=true:=by kernel_rfl
theorem fact30:(Rows.dataModelRow.veiled == (Tryz.f5.params.toList++Rows.dataModelSpec.plain.varTypes Tryz.prog++Tryz.f5.resultTypes.toList).any (Tryz.prog.veiledRec ·))=true:=by kernel_rfl
theorem fact31:(Rows.dataModelRow.veiledFits Tryz.prog Tryz.f5.params.toList (Tryz.f5.params.toList++Rows.dataModelSpec.plain.varTypes Tryz.prog++Tryz.f5.resultTypes.toList))=true:=by kernel_rfl
set_option maxRecDepth 100000 in
theorem facts:joinedFacts Tryz.prog 5 Tryz.f5 Rows.dataModelSpec Rows.dataModelRow=true :=
  (and_true2 (and_true2 (and_true2 (and_true2 (and_true2 (and_true2 (and_true2 (and_true2 (and_true2 (and_true2 (and_true2 (and_true2 (and_true2 (and_true2 (and_true2 (and_true2 (and_true2 (and_true2 (and_true2 (and_true2 (and_true2 (and_true2 (and_true2 (and_true2 (and_true2 (and_true2 (and_true2 (and_true2 (and_true2 (and_true2 (and_true2 fact0 fact1) fact2) fact3) fact4) fact5) fact6) fact7) fact8) fact9) fact10) fact11) fact12) fact13) fact14) fact15) fact16) fact17) fact18) fact19) fact20) fact21) fact22) fact23) fact24) fact25) fact26) fact27) fact28) fact29) fact30) fact31)
theorem named:Tryz.prog.funcNamed Rows.dataModelRow.func=some 5:=by kernel_rfl
theorem inst:Tryz.f5.isInstance Tryz.prog Rows.dataModelRow.origin Rows.dataModelRow.targs:=of_decide_eq_true (by kernel_rfl)
end Go.Proofs.YtklbcpofihgmlaaGreat.dataModel
