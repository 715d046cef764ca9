/- The row's plain facts, one for each part. -/
import Derived.Test.YtpfmmbbggcghiaaGreatDoorOpen
import Derived.Test.YtpfmmbbggcghiaaGreatDoorCards
import Derived.Test.YtpfmmbbggcghiaaGreatDoorTie
import Derived.JoinedCond
namespace Go.Proofs.YtpfmmbbggcghiaaGreatDoor.serveSizesUpto
open Go.RowKit Go.ChangeShapes Go.WideShapes Go.ChangeAt
theorem band {a b:Bool} (h:a=true) (k:b=true):(a && b)=true:=by rw[h,k];rfl
theorem fact0:(Rows.serveSizesUptoRow.wf (OpenSpec.ofChange Rows.serveSizesSpec))=true:=by kernel_rfl
theorem fact1:(laidOutB Tryz.prog)=true:=by kernel_rfl
theorem fact2:(mapsRowed Tryz.prog)=true:=by kernel_rfl
theorem fact3:(Tryz.f4.params.all (Tryz.prog.readableRec ·))=true:=by kernel_rfl
theorem fact4:(namedTie Tryz.prog Rows.serveSizesUptoRow.named Rows.serveSizesSpec.vars)=true:=by kernel_rfl
theorem fact5:((Rows.serveSizesUptoRow.stops == []))=true:=by kernel_rfl
theorem fact6:((Tryz.prog.stops == []))=true:=by kernel_rfl
theorem fact7:((Rows.serveSizesUptoRow.knobs == []))=true:=by kernel_rfl
theorem fact8:((Tryz.prog.stopKnobs == []))=true:=by kernel_rfl
theorem fact9:((Rows.serveSizesUptoRow.inPlace == Tryz.prog.inPlace 4))=true:=by kernel_rfl
theorem fact10:((Rows.serveSizesUptoRow.unfollowed == Tryz.prog.unfollowed 4))=true:=by kernel_rfl
theorem fact11:((Rows.serveSizesUptoRow.recurses == Tryz.prog.recurses 4))=true:=by kernel_rfl
theorem fact12:((Rows.serveSizesUptoRow.named == Tryz.prog.varsNamed 4))=true:=by kernel_rfl
theorem fact13:((Rows.serveSizesUptoRow.maps == (Tryz.f4.params.toList++Rows.serveSizesSpec.plain.varTypes Tryz.prog).any (Tryz.prog.mapsRec ·)))=true:=by kernel_rfl
theorem fact14:((Rows.serveSizesUptoRow.ifaces == (Tryz.f4.params.toList++Rows.serveSizesSpec.plain.varTypes Tryz.prog).any (Tryz.prog.ifacesRec ·)))=true:=by kernel_rfl
theorem fact15:((Rows.serveSizesUptoRow.mapsOut == Tryz.prog.mapsAmong Tryz.f4.resultTypes.toList))=true:=by kernel_rfl
theorem fact16:((Rows.serveSizesUptoRow.loops == (Tryz.f4.params.toList++Rows.serveSizesSpec.plain.varTypes Tryz.prog).any (Tryz.prog.loopsFrom ·)))=true:=by kernel_rfl
theorem fact17:((Rows.serveSizesUptoRow.wideKeys == (Tryz.f4.params.toList++Rows.serveSizesSpec.plain.varTypes Tryz.prog++Tryz.f4.resultTypes.toList).any (Tryz.prog.wideKeysFrom ·)))=true:=by kernel_rfl
theorem fact18:(Rows.serveSizesSpec.vars.all (Tryz.prog.varReadable ·))=true:=by kernel_rfl
theorem fact19:(Tryz.f4.resultTypes.all (fun t=>Tryz.prog.readableRec t && decide (t < Tryz.prog.types.size)))=true:=by kernel_rfl
theorem fact20:((Rows.serveSizesUptoRow.ifacesOut == Tryz.f4.resultTypes.toList.any (Tryz.prog.ifacesRec ·)))=true:=by kernel_rfl
theorem fact21:((Rows.serveSizesUptoRow.loopsOut == Tryz.f4.resultTypes.toList.any (Tryz.prog.loopsFrom ·)))=true:=by kernel_rfl
theorem fact22:((Rows.serveSizesUptoRow.plainKeys == Tryz.prog.plainKeys))=true:=by kernel_rfl
theorem fact23:(Rows.serveSizesUptoRow.shortTexts.isNone)=true:=by kernel_rfl
theorem fact24:(Tryz.prog.stopsHeard)=true:=by kernel_rfl
theorem fact25:(Tryz.prog.mayEnter)=true:=by kernel_rfl
theorem fact26:((Rows.serveSizesUptoRow.lifted == Tryz.prog.liftsFinal))=true:=by kernel_rfl
theorem fact27:((Tryz.prog.make == some Rows.serveSizesUptoRow.make))=true:=by kernel_rfl
theorem fact28:((Rows.serveSizesUptoRow.kinds == (if Rows.serveSizesUptoRow.domain.isEmpty then []else Tryz.f4.params.toList.map fun t=>match Tryz.prog.underlying t with|some (.int k)=>some k|_=>none)))=true:=by kernel_rfl
theorem fact29:((Rows.serveSizesUptoRow.pinned == Rows.serveSizesUptoRow.pinnedBy))=true:=by kernel_rfl
theorem fact30:((Rows.serveSizesUptoRow.veiled == (Tryz.f4.params.toList++Rows.serveSizesSpec.plain.varTypes Tryz.prog++Tryz.f4.resultTypes.toList).any (Tryz.prog.veiledRec ·)))=true:=by kernel_rfl
theorem fact31:(Rows.serveSizesUptoRow.veiledFits Tryz.prog Tryz.f4.params.toList (Tryz.f4.params.toList++Rows.serveSizesSpec.plain.varTypes Tryz.prog++Tryz.f4.resultTypes.toList))=true:=by kernel_rfl
set_option maxRecDepth 100000 in
theorem closed:joinedFacts Tryz.prog 4 Tryz.f4 Rows.serveSizesSpec Rows.serveSizesUptoRow=true:=band (band (band (band (band (band (band (band (band (band (band (band (band (band (band (band (band (band (band (band (band (band (band (band (band (band (band (band (band (band (band (fact0) fact1) fact2) fact3) fact4) fact5) fact6) fact7) fact8) fact9) fact10) fact11) fact12) fact13) fact14) fact15) fact16) fact17) fact18) fact19) fact20) fact21) fact22) fact23) fact24) fact25) fact26) fact27) fact28) fact29) fact30) fact31
end Go.Proofs.YtpfmmbbggcghiaaGreatDoor.serveSizesUpto
