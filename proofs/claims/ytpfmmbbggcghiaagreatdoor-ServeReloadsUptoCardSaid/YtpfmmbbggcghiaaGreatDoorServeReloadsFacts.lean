/- The row's plain facts, one for each part. -/
import Derived.Test.YtpfmmbbggcghiaaGreatDoorOpen
import Derived.Test.YtpfmmbbggcghiaaGreatDoorCards
import Derived.Test.YtpfmmbbggcghiaaGreatDoorTie
set_option linter.unusedSimpArgs false
set_option linter.unusedVariables false
namespace Go.Proofs.YtpfmmbbggcghiaaGreatDoor.serveReloadsUpto
open Go.RowKit Go.ChangeShapes Go.WideShapes Go.ChangeAt
theorem band {a b:Bool} (h:a=true) (k:b=true):(a && b)=true:=by rw[h,k];rfl
theorem fact0:(Rows.serveReloadsUptoRow.wf (OpenSpec.ofChange Rows.serveReloadsSpec))=true:=by kernel_rfl
theorem fact1:(laidOutB Tryz.prog)=true:=by kernel_rfl
theorem fact2:(mapsRowed Tryz.prog)=true:=by kernel_rfl
theorem fact3:(Tryz.f5.params.all (Tryz.prog.readableRec ·))=true:=by kernel_rfl
theorem fact4:(namedTie Tryz.prog Rows.serveReloadsUptoRow.named Rows.serveReloadsSpec.vars)=true:=by kernel_rfl
theorem fact5:((Rows.serveReloadsUptoRow.stops == []))=true:=by kernel_rfl
theorem fact6:((Tryz.prog.stops == []))=true:=by kernel_rfl
theorem fact7:((Rows.serveReloadsUptoRow.knobs == []))=true:=by kernel_rfl
theorem fact8:((Tryz.prog.stopKnobs == []))=true:=by kernel_rfl
theorem fact9:((Rows.serveReloadsUptoRow.inPlace == Tryz.prog.inPlace 5))=true:=by kernel_rfl
theorem fact10:((Rows.serveReloadsUptoRow.unfollowed == Tryz.prog.unfollowed 5))=true:=by kernel_rfl
theorem fact11:((Rows.serveReloadsUptoRow.recurses == Tryz.prog.recurses 5))=true:=by kernel_rfl
theorem fact12:((Rows.serveReloadsUptoRow.named == Tryz.prog.varsNamed 5))=true:=by kernel_rfl
theorem fact13:((Rows.serveReloadsUptoRow.maps == (Tryz.f5.params.toList++Rows.serveReloadsSpec.plain.varTypes Tryz.prog).any (Tryz.prog.mapsRec ·)))=true:=by kernel_rfl
theorem fact14:((Rows.serveReloadsUptoRow.ifaces == (Tryz.f5.params.toList++Rows.serveReloadsSpec.plain.varTypes Tryz.prog).any (Tryz.prog.ifacesRec ·)))=true:=by kernel_rfl
theorem fact15:((Rows.serveReloadsUptoRow.mapsOut == Tryz.prog.mapsAmong Tryz.f5.resultTypes.toList))=true:=by kernel_rfl
theorem fact16:((Rows.serveReloadsUptoRow.loops == (Tryz.f5.params.toList++Rows.serveReloadsSpec.plain.varTypes Tryz.prog).any (Tryz.prog.loopsFrom ·)))=true:=by kernel_rfl
theorem fact17:((Rows.serveReloadsUptoRow.wideKeys == (Tryz.f5.params.toList++Rows.serveReloadsSpec.plain.varTypes Tryz.prog++Tryz.f5.resultTypes.toList).any (Tryz.prog.wideKeysFrom ·)))=true:=by kernel_rfl
theorem fact18:(Rows.serveReloadsSpec.vars.all (Tryz.prog.varReadable ·))=true:=by kernel_rfl
theorem fact19:(Tryz.f5.resultTypes.all (fun t=>Tryz.prog.readableRec t && decide (t < Tryz.prog.types.size)))=true:=by kernel_rfl
theorem fact20:((Rows.serveReloadsUptoRow.ifacesOut == Tryz.f5.resultTypes.toList.any (Tryz.prog.ifacesRec ·)))=true:=by kernel_rfl
theorem fact21:((Rows.serveReloadsUptoRow.loopsOut == Tryz.f5.resultTypes.toList.any (Tryz.prog.loopsFrom ·)))=true:=by kernel_rfl
theorem fact22:((Rows.serveReloadsUptoRow.plainKeys == Tryz.prog.plainKeys))=true:=by kernel_rfl
theorem fact23:(Rows.serveReloadsUptoRow.shortTexts.isNone)=true:=by kernel_rfl
theorem fact24:(Tryz.prog.stopsHeard)=true:=by kernel_rfl
theorem fact25:(Tryz.prog.mayEnter)=true:=by kernel_rfl
theorem fact26:((Rows.serveReloadsUptoRow.lifted == Tryz.prog.liftsFinal))=true:=by kernel_rfl
theorem fact27:((Tryz.prog.make == some Rows.serveReloadsUptoRow.make))=true:=by kernel_rfl
theorem fact28:((Rows.serveReloadsUptoRow.kinds == (if Rows.serveReloadsUptoRow.domain.isEmpty then []else Tryz.f5.params.toList.map fun t=>match Tryz.prog.underlying t with|some (.int k)=>some k|_=>none)))=true:=by kernel_rfl
theorem fact29:((Rows.serveReloadsUptoRow.pinned == Rows.serveReloadsUptoRow.pinnedBy))=true:=by kernel_rfl
theorem fact30:((Rows.serveReloadsUptoRow.veiled == (Tryz.f5.params.toList++Rows.serveReloadsSpec.plain.varTypes Tryz.prog++Tryz.f5.resultTypes.toList).any (Tryz.prog.veiledRec ·)))=true:=by kernel_rfl
theorem fact31:(Rows.serveReloadsUptoRow.veiledFits Tryz.prog Tryz.f5.params.toList (Tryz.f5.params.toList++Rows.serveReloadsSpec.plain.varTypes Tryz.prog++Tryz.f5.resultTypes.toList))=true:=by kernel_rfl
set_option maxRecDepth 100000 in
theorem closed:joinedFacts Tryz.prog 5 Tryz.f5 Rows.serveReloadsSpec Rows.serveReloadsUptoRow=true:=band (band (band (band (band (band (band (band (band (band (band (band (band (band (band (band (band (band (band (band (band (band (band (band (band (band (band (band (band (band (band (fact0) fact1) fact2) fact3) fact4) fact5) fact6) fact7) fact8) fact9) fact10) fact11) fact12) fact13) fact14) fact15) fact16) fact17) fact18) fact19) fact20) fact21) fact22) fact23) fact24) fact25) fact26) fact27) fact28) fact29) fact30) fact31
end Go.Proofs.YtpfmmbbggcghiaaGreatDoor.serveReloadsUpto
