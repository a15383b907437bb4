/- SysFloats: what the row's list says of the program, one by one. Conditions: none. -/
import Derived.Test.YtjpgfgajkjhonaaGreatDoorQFBI
import Derived.JoinedCond
namespace Go.Proofs.YtjpgfgajkjhonaaGreatDoor
open Go.Vx
set_option maxRecDepth 100000
open Go.ChangeShapes Go.WideShapes Go.ChangeAt Go.RowKit
noncomputable abbrev tP:Program:=Tryz.pinned.checked.prog
noncomputable abbrev tS:ChangeSpec:=(Rows.OpenSpec.upto Rows.sysFloatsSpec).bare
noncomputable abbrev tC:OpenClaim:=Rows.sysFloatsUptoRow
noncomputable abbrev tF:Func:=Tryz.f3
theorem gg {a b:Bool} (h:a=true) (h':b=true):(a&&b)=true:=by rw [h,h'];rfl
theorem VU:(tC.wf (OpenSpec.ofChange tS))=true:=by kernel_rfl
theorem VT:(laidOutB tP)=true:=by kernel_rfl
theorem VS:(mapsRowed tP)=true:=by kernel_rfl
theorem VR:(tF.params.all (tP.readableRec ·))=true:=by kernel_rfl
theorem VQ:(namedTie tP tC.named tS.vars)=true:=by kernel_rfl
theorem VP:((tC.stops == []))=true:=by kernel_rfl
theorem VO:((tP.stops == []))=true:=by kernel_rfl
theorem VN:((tC.knobs == []))=true:=by kernel_rfl
theorem VM:((tP.stopKnobs == []))=true:=by kernel_rfl
theorem VL:((tC.inPlace==tP.inPlace 3))=true:=by kernel_rfl
theorem UF:((tC.unfollowed==tP.unfollowed 3))=true:=by kernel_rfl
theorem UE:((tC.recurses==tP.recurses 3))=true:=by kernel_rfl
theorem UD:((tC.named==tP.varsNamed 3))=true:=by kernel_rfl
theorem UC:((tC.maps==(tF.params.toList++tS.plain.varTypes tP).any (tP.mapsRec ·)))=true:=by kernel_rfl
theorem UB:((tC.ifaces==(tF.params.toList++tS.plain.varTypes tP).any (tP.ifacesRec ·)))=true:=by kernel_rfl
theorem UA:((tC.mapsOut==tP.mapsAmong tF.resultTypes.toList))=true:=by kernel_rfl
theorem T_:((tC.loops==(tF.params.toList++tS.plain.varTypes tP).any (tP.loopsFrom ·)))=true:=by kernel_rfl
theorem Tz:((tC.wideKeys==(tF.params.toList++tS.plain.varTypes tP++tF.resultTypes.toList).any (tP.wideKeysFrom ·)))=true:=by kernel_rfl
theorem Tx:(tS.vars.all (tP.varReadable ·))=true:=by kernel_rfl
theorem Tw:(tF.resultTypes.all (λt=>tP.readableRec t&&decide (t<tP.types.size)))=true:=by kernel_rfl
theorem Tv:((tC.ifacesOut==tF.resultTypes.toList.any (tP.ifacesRec ·)))=true:=by kernel_rfl
theorem Tu:((tC.loopsOut==tF.resultTypes.toList.any (tP.loopsFrom ·)))=true:=by kernel_rfl
theorem Tt:((tC.plainKeys==tP.plainKeys))=true:=by kernel_rfl
theorem Ts:(tC.shortTexts.isNone)=true:=by kernel_rfl
theorem Tq:(tP.stopsHeard)=true:=by kernel_rfl
theorem Tp:(tP.mayEnter)=true:=by kernel_rfl
theorem To:((tC.lifted==tP.liftsFinal))=true:=by kernel_rfl
theorem Tn:((tP.make==some tC.make))=true:=by kernel_rfl
theorem Tm:((tC.kinds==(if tC.domain.isEmpty then [] else tF.params.toList.map λt=>match tP.underlying t with | some (.int k)=>some k | _=>none)))=true:=by kernel_rfl
theorem Tl:((tC.pinned==tC.pinnedBy))=true:=by kernel_rfl
theorem Tk:((tC.veiled==(tF.params.toList++tS.plain.varTypes tP++tF.resultTypes.toList).any (tP.veiledRec ·)))=true:=by kernel_rfl
theorem Tj:(tC.veiledFits tP tF.params.toList (tF.params.toList++tS.plain.varTypes tP++tF.resultTypes.toList))=true:=by kernel_rfl
theorem Kl:joinedFacts Tryz.pinned.checked.prog 3 Tryz.f3 (Rows.OpenSpec.upto Rows.sysFloatsSpec).bare Rows.sysFloatsUptoRow=true:=(gg (gg (gg (gg (gg (gg (gg (gg (gg (gg (gg (gg (gg (gg (gg (gg (gg (gg (gg (gg (gg (gg (gg (gg (gg (gg (gg (gg (gg (gg (gg VU VT) VS) VR) VQ) VP) VO) VN) VM) VL) UF) UE) UD) UC) UB) UA) T_) Tz) Tx) Tw) Tv) Tu) Tt) Ts) Tq) Tp) To) Tn) Tm) Tl) Tk) Tj)
end Go.Proofs.YtjpgfgajkjhonaaGreatDoor
