/- The row's plain facts, one for each part. -/
import Derived.Test.YtpfmmbbggcghiaaGreatDoorOpen
import Derived.Test.YtpfmmbbggcghiaaGreatDoorCards
import Derived.Test.YtpfmmbbggcghiaaGreatDoorTie
set_option linter.unusedSimpArgs false
set_option linter.unusedVariables false
namespace Go.Proofs.YtpfmmbbggcghiaaGreatDoor.serveOwnUpto
open Go.RowKit Go.ChangeShapes Go.WideShapes Go.ChangeAt
theorem band {a b:Bool} (h:a=true) (k:b=true):(a && b)=true:=by rw[h,k];rfl
theorem fact0:(Rows.serveOwnUptoRow.wf (OpenSpec.ofChange Rows.serveOwnSpec))=true:=by kernel_rfl
theorem fact1:(laidOutB Tryz.prog)=true:=by kernel_rfl
theorem fact2:(mapsRowed Tryz.prog)=true:=by kernel_rfl
theorem fact3:(Tryz.f6.params.all (Tryz.prog.readableRec ·))=true:=by kernel_rfl
theorem fact4:(namedTie Tryz.prog Rows.serveOwnUptoRow.named Rows.serveOwnSpec.vars)=true:=by kernel_rfl
theorem fact5:((Rows.serveOwnUptoRow.stops == []))=true:=by kernel_rfl
theorem fact6:((Tryz.prog.stops == []))=true:=by kernel_rfl
theorem fact7:((Rows.serveOwnUptoRow.knobs == []))=true:=by kernel_rfl
theorem fact8:((Tryz.prog.stopKnobs == []))=true:=by kernel_rfl
theorem fact9:((Rows.serveOwnUptoRow.inPlace == Tryz.prog.inPlace 6))=true:=by kernel_rfl
theorem fact10:((Rows.serveOwnUptoRow.unfollowed == Tryz.prog.unfollowed 6))=true:=by kernel_rfl
theorem fact11:((Rows.serveOwnUptoRow.recurses == Tryz.prog.recurses 6))=true:=by kernel_rfl
theorem fact12:((Rows.serveOwnUptoRow.named == Tryz.prog.varsNamed 6))=true:=by kernel_rfl
theorem fact13:((Rows.serveOwnUptoRow.maps == (Tryz.f6.params.toList++Rows.serveOwnSpec.plain.varTypes Tryz.prog).any (Tryz.prog.mapsRec ·)))=true:=by kernel_rfl
theorem fact14:((Rows.serveOwnUptoRow.ifaces == (Tryz.f6.params.toList++Rows.serveOwnSpec.plain.varTypes Tryz.prog).any (Tryz.prog.ifacesRec ·)))=true:=by kernel_rfl
theorem fact15:((Rows.serveOwnUptoRow.mapsOut == Tryz.prog.mapsAmong Tryz.f6.resultTypes.toList))=true:=by kernel_rfl
theorem fact16:((Rows.serveOwnUptoRow.loops == (Tryz.f6.params.toList++Rows.serveOwnSpec.plain.varTypes Tryz.prog).any (Tryz.prog.loopsFrom ·)))=true:=by kernel_rfl
theorem fact17:((Rows.serveOwnUptoRow.wideKeys == (Tryz.f6.params.toList++Rows.serveOwnSpec.plain.varTypes Tryz.prog++Tryz.f6.resultTypes.toList).any (Tryz.prog.wideKeysFrom ·)))=true:=by kernel_rfl
theorem fact18:(Rows.serveOwnSpec.vars.all (Tryz.prog.varReadable ·))=true:=by kernel_rfl
theorem fact19:(Tryz.f6.resultTypes.all (fun t=>Tryz.prog.readableRec t && decide (t < Tryz.prog.types.size)))=true:=by kernel_rfl
theorem fact20:((Rows.serveOwnUptoRow.ifacesOut == Tryz.f6.resultTypes.toList.any (Tryz.prog.ifacesRec ·)))=true:=by kernel_rfl
theorem fact21:((Rows.serveOwnUptoRow.loopsOut == Tryz.f6.resultTypes.toList.any (Tryz.prog.loopsFrom ·)))=true:=by kernel_rfl
theorem fact22:((Rows.serveOwnUptoRow.plainKeys == Tryz.prog.plainKeys))=true:=by kernel_rfl
theorem fact23:(Rows.serveOwnUptoRow.shortTexts.isNone)=true:=by kernel_rfl
theorem fact24:(Tryz.prog.stopsHeard)=true:=by kernel_rfl
theorem fact25:(Tryz.prog.mayEnter)=true:=by kernel_rfl
theorem fact26:((Rows.serveOwnUptoRow.lifted == Tryz.prog.liftsFinal))=true:=by kernel_rfl
theorem fact27:((Tryz.prog.make == some Rows.serveOwnUptoRow.make))=true:=by kernel_rfl
theorem fact28:((Rows.serveOwnUptoRow.kinds == (if Rows.serveOwnUptoRow.domain.isEmpty then []else Tryz.f6.params.toList.map fun t=>match Tryz.prog.underlying t with|some (.int k)=>some k|_=>none)))=true:=by kernel_rfl
theorem fact29:((Rows.serveOwnUptoRow.pinned == Rows.serveOwnUptoRow.pinnedBy))=true:=by kernel_rfl
theorem fact30:((Rows.serveOwnUptoRow.veiled == (Tryz.f6.params.toList++Rows.serveOwnSpec.plain.varTypes Tryz.prog++Tryz.f6.resultTypes.toList).any (Tryz.prog.veiledRec ·)))=true:=by kernel_rfl
theorem fact31:(Rows.serveOwnUptoRow.veiledFits Tryz.prog Tryz.f6.params.toList (Tryz.f6.params.toList++Rows.serveOwnSpec.plain.varTypes Tryz.prog++Tryz.f6.resultTypes.toList))=true:=by kernel_rfl
set_option maxRecDepth 100000 in
theorem closed:joinedFacts Tryz.prog 6 Tryz.f6 Rows.serveOwnSpec Rows.serveOwnUptoRow=true:=band (band (band (band (band (band (band (band (band (band (band (band (band (band (band (band (band (band (band (band (band (band (band (band (band (band (band (band (band (band (band (fact0) fact1) fact2) fact3) fact4) fact5) fact6) fact7) fact8) fact9) fact10) fact11) fact12) fact13) fact14) fact15) fact16) fact17) fact18) fact19) fact20) fact21) fact22) fact23) fact24) fact25) fact26) fact27) fact28) fact29) fact30) fact31
end Go.Proofs.YtpfmmbbggcghiaaGreatDoor.serveOwnUpto
