/- Texts of this claim laid together: FctCachePlays. -/
import Derived.Test.YtegdcjnjnoeinaaGreatRows
import Derived.WalkKit
import Derived.ProofKit
namespace Go.Proofs.YtegdcjnjnoeinaaGreat.cachePlays
open Go.ChangeShapes Go.WideShapes Go.ChangeAt Go.RowKit
theorem and_true2 {a b:Bool} (h:a=true) (k:b=true):(a && b)=true:=by rw [h,k]; rfl
theorem fact0:(Rows.cachePlaysRow.wf (OpenSpec.ofChange Rows.cachePlaysSpec))=true:=by kernel_rfl
theorem fact1:(laidOutB Tryz.prog)=true:=by kernel_rfl
theorem fact2:(mapsRowed Tryz.prog)=true:=by kernel_rfl
theorem fact3:(Tryz.f13.params.all (Tryz.prog.readableRec ·))=true:=by kernel_rfl
theorem fact4:(namedTie Tryz.prog Rows.cachePlaysRow.named Rows.cachePlaysSpec.vars)=true:=by kernel_rfl
theorem fact5:(Rows.cachePlaysRow.stops == [])=true:=by kernel_rfl
theorem fact6:(Tryz.prog.stops == [])=true:=by kernel_rfl
theorem fact7:(Rows.cachePlaysRow.knobs == [])=true:=by kernel_rfl
theorem fact8:(Tryz.prog.stopKnobs == [])=true:=by kernel_rfl
theorem fact9:(Rows.cachePlaysRow.inPlace == Tryz.prog.inPlace 13)=true:=by kernel_rfl
theorem fact10:(Rows.cachePlaysRow.unfollowed == Tryz.prog.unfollowed 13)=true:=by kernel_rfl
theorem fact11:(Rows.cachePlaysRow.recurses == Tryz.prog.recurses 13)=true:=by kernel_rfl
theorem fact12:(Rows.cachePlaysRow.named == Tryz.prog.varsNamed 13)=true:=by kernel_rfl
theorem fact13:(Rows.cachePlaysRow.maps == (Tryz.f13.params.toList++Rows.cachePlaysSpec.plain.varTypes Tryz.prog).any (Tryz.prog.mapsRec ·))=true:=by kernel_rfl
theorem fact14:(Rows.cachePlaysRow.ifaces == (Tryz.f13.params.toList++Rows.cachePlaysSpec.plain.varTypes Tryz.prog).any (Tryz.prog.ifacesRec ·))=true:=by kernel_rfl
theorem fact15:(Rows.cachePlaysRow.mapsOut == Tryz.prog.mapsAmong Tryz.f13.resultTypes.toList)=true:=by kernel_rfl
theorem fact16:(Rows.cachePlaysRow.loops == (Tryz.f13.params.toList++Rows.cachePlaysSpec.plain.varTypes Tryz.prog).any (Tryz.prog.loopsFrom ·))=true:=by kernel_rfl
theorem fact17:(Rows.cachePlaysRow.wideKeys == (Tryz.f13.params.toList++Rows.cachePlaysSpec.plain.varTypes Tryz.prog++Tryz.f13.resultTypes.toList).any (Tryz.prog.wideKeysFrom ·))=true:=by kernel_rfl
theorem fact18:(Rows.cachePlaysSpec.vars.all (Tryz.prog.varReadable ·))=true:=by kernel_rfl
theorem fact19:(Tryz.f13.resultTypes.all (fun t=>Tryz.prog.readableRec t && decide (t < Tryz.prog.types.size)))=true:=by kernel_rfl
theorem fact20:(Rows.cachePlaysRow.ifacesOut == Tryz.f13.resultTypes.toList.any (Tryz.prog.ifacesRec ·))=true:=by kernel_rfl
theorem fact21:(Rows.cachePlaysRow.loopsOut == Tryz.f13.resultTypes.toList.any (Tryz.prog.loopsFrom ·))=true:=by kernel_rfl
theorem fact22:(Rows.cachePlaysRow.plainKeys == Tryz.prog.plainKeys)=true:=by kernel_rfl
theorem fact23:(Rows.cachePlaysRow.shortTexts.isNone)=true:=by kernel_rfl
theorem fact24:(Tryz.prog.stopsHeard)=true:=by kernel_rfl
theorem fact25:(Tryz.prog.mayEnter)=true:=by kernel_rfl
theorem fact26:(Rows.cachePlaysRow.lifted == Tryz.prog.liftsFinal)=true:=by kernel_rfl
theorem fact27:(Tryz.prog.make == some Rows.cachePlaysRow.make)=true:=by kernel_rfl
theorem fact28:(Rows.cachePlaysRow.kinds == (if Rows.cachePlaysRow.domain.isEmpty then [] else Tryz.f13.params.toList.map fun t=>match Tryz.prog.underlying t with | some (.int k)=>some k | _=>none))=true:=by kernel_rfl
theorem fact29:(Rows.cachePlaysRow.pinned == Rows.cachePlaysRow.pinnedBy)=true:=by kernel_rfl
theorem fact30:(Rows.cachePlaysRow.veiled == (Tryz.f13.params.toList++Rows.cachePlaysSpec.plain.varTypes Tryz.prog++Tryz.f13.resultTypes.toList).any (Tryz.prog.veiledRec ·))=true:=by kernel_rfl
theorem fact31:(Rows.cachePlaysRow.veiledFits Tryz.prog Tryz.f13.params.toList (Tryz.f13.params.toList++Rows.cachePlaysSpec.plain.varTypes Tryz.prog++Tryz.f13.resultTypes.toList))=true:=by kernel_rfl
set_option maxRecDepth 100000 in
theorem facts:joinedFacts Tryz.prog 13 Tryz.f13 Rows.cachePlaysSpec Rows.cachePlaysRow=true :=
  (and_true2 (and_true2 (and_true2 (and_true2 (and_true2 (and_true2 (and_true2 (and_true2 (and_true2 (and_true2 (and_true2 (and_true2 (and_true2 (and_true2 (and_true2 (and_true2 (and_true2 (and_true2 (and_true2 (and_true2 (and_true2 (and_true2 (and_true2 (and_true2 (and_true2 (and_true2 (and_true2 (and_true2 (and_true2 (and_true2 (and_true2 fact0 fact1) fact2) fact3) fact4) fact5) fact6) fact7) fact8) fact9) fact10) fact11) fact12) fact13) fact14) fact15) fact16) fact17) fact18) fact19) fact20) fact21) fact22) fact23) fact24) fact25) fact26) fact27) fact28) fact29) fact30) fact31)
theorem named:Tryz.prog.funcNamed Rows.cachePlaysRow.func=some 13:=by kernel_rfl
theorem inst:Tryz.f13.isInstance Tryz.prog Rows.cachePlaysRow.origin Rows.cachePlaysRow.targs:=of_decide_eq_true (by kernel_rfl)
end Go.Proofs.YtegdcjnjnoeinaaGreat.cachePlays
