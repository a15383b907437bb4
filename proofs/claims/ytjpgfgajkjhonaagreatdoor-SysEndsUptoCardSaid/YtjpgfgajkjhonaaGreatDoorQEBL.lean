/- SysEnds: what the row's list says of the program, one by one. Conditions: none. -/
import Derived.Test.YtjpgfgajkjhonaaGreatDoorQEBI
import Derived.JoinedCond
namespace Go.Proofs.YtjpgfgajkjhonaaGreatDoor
open Go.Vx
set_option maxRecDepth 100000
open Go.ChangeShapes Go.WideShapes Go.ChangeAt Go.RowKit
noncomputable abbrev tP:Program:=Tryz.pinned.checked.prog
noncomputable abbrev tS:ChangeSpec:=(Rows.OpenSpec.upto Rows.sysEndsSpec).bare
noncomputable abbrev tC:OpenClaim:=Rows.sysEndsUptoRow
noncomputable abbrev tF:Func:=Tryz.f4
theorem gV {a b:Bool} (h:a=true) (h':b=true):(a&&b)=true:=by rw [h,h'];rfl
theorem Ui:(tC.wf (OpenSpec.ofChange tS))=true:=by kernel_rfl
theorem Uh:(laidOutB tP)=true:=by kernel_rfl
theorem Ug:(mapsRowed tP)=true:=by kernel_rfl
theorem Uf:(tF.params.all (tP.readableRec ·))=true:=by kernel_rfl
theorem Ue:(namedTie tP tC.named tS.vars)=true:=by kernel_rfl
theorem Ud:((tC.stops == []))=true:=by kernel_rfl
theorem Uc:((tP.stops == []))=true:=by kernel_rfl
theorem Ub:((tC.knobs == []))=true:=by kernel_rfl
theorem Ua:((tP.stopKnobs == []))=true:=by kernel_rfl
theorem U9:((tC.inPlace==tP.inPlace 4))=true:=by kernel_rfl
theorem TY:((tC.unfollowed==tP.unfollowed 4))=true:=by kernel_rfl
theorem TX:((tC.recurses==tP.recurses 4))=true:=by kernel_rfl
theorem TW:((tC.named==tP.varsNamed 4))=true:=by kernel_rfl
theorem TV:((tC.maps==(tF.params.toList++tS.plain.varTypes tP).any (tP.mapsRec ·)))=true:=by kernel_rfl
theorem TU:((tC.ifaces==(tF.params.toList++tS.plain.varTypes tP).any (tP.ifacesRec ·)))=true:=by kernel_rfl
theorem TT:((tC.mapsOut==tP.mapsAmong tF.resultTypes.toList))=true:=by kernel_rfl
theorem TS:((tC.loops==(tF.params.toList++tS.plain.varTypes tP).any (tP.loopsFrom ·)))=true:=by kernel_rfl
theorem TR:((tC.wideKeys==(tF.params.toList++tS.plain.varTypes tP++tF.resultTypes.toList).any (tP.wideKeysFrom ·)))=true:=by kernel_rfl
theorem TQ:(tS.vars.all (tP.varReadable ·))=true:=by kernel_rfl
theorem TP:(tF.resultTypes.all (λt=>tP.readableRec t&&decide (t<tP.types.size)))=true:=by kernel_rfl
theorem TO:((tC.ifacesOut==tF.resultTypes.toList.any (tP.ifacesRec ·)))=true:=by kernel_rfl
theorem TN:((tC.loopsOut==tF.resultTypes.toList.any (tP.loopsFrom ·)))=true:=by kernel_rfl
theorem TM:((tC.plainKeys==tP.plainKeys))=true:=by kernel_rfl
theorem TL:(tC.shortTexts.isNone)=true:=by kernel_rfl
theorem TK:(tP.stopsHeard)=true:=by kernel_rfl
theorem TJ:(tP.mayEnter)=true:=by kernel_rfl
theorem TI:((tC.lifted==tP.liftsFinal))=true:=by kernel_rfl
theorem TH:((tP.make==some tC.make))=true:=by kernel_rfl
theorem TG:((tC.kinds==(if tC.domain.isEmpty then [] else tF.params.toList.map λt=>match tP.underlying t with | some (.int k)=>some k | _=>none)))=true:=by kernel_rfl
theorem TF:((tC.pinned==tC.pinnedBy))=true:=by kernel_rfl
theorem TE:((tC.veiled==(tF.params.toList++tS.plain.varTypes tP++tF.resultTypes.toList).any (tP.veiledRec ·)))=true:=by kernel_rfl
theorem TD:(tC.veiledFits tP tF.params.toList (tF.params.toList++tS.plain.varTypes tP++tF.resultTypes.toList))=true:=by kernel_rfl
theorem KF:joinedFacts Tryz.pinned.checked.prog 4 Tryz.f4 (Rows.OpenSpec.upto Rows.sysEndsSpec).bare Rows.sysEndsUptoRow=true:=(gV (gV (gV (gV (gV (gV (gV (gV (gV (gV (gV (gV (gV (gV (gV (gV (gV (gV (gV (gV (gV (gV (gV (gV (gV (gV (gV (gV (gV (gV (gV Ui Uh) Ug) Uf) Ue) Ud) Uc) Ub) Ua) U9) TY) TX) TW) TV) TU) TT) TS) TR) TQ) TP) TO) TN) TM) TL) TK) TJ) TI) TH) TG) TF) TE) TD)
end Go.Proofs.YtjpgfgajkjhonaaGreatDoor
