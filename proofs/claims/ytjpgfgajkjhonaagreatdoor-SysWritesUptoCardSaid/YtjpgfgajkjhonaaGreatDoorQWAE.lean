/- SysWrites: what the row's list says of the program, one by one. Conditions: none. -/
import Derived.Test.YtjpgfgajkjhonaaGreatDoorQRBH
import Derived.JoinedCond
namespace Go.Proofs.YtjpgfgajkjhonaaGreatDoor
open Go.Vx
set_option maxRecDepth 100000
open Go.ChangeShapes Go.WideShapes Go.ChangeAt Go.RowKit
noncomputable abbrev tP:Program:=Tryz.pinned.checked.prog
noncomputable abbrev tS:ChangeSpec:=(Rows.OpenSpec.upto Rows.sysWritesSpec).bare
noncomputable abbrev tC:OpenClaim:=Rows.sysWritesUptoRow
noncomputable abbrev tF:Func:=Tryz.f8
theorem gn{a b:Bool}(h:a=true)(h':b=true):(a&&b)=true:=by rw[h,h'];rfl
theorem Xs:(tC.wf (OpenSpec.ofChange tS))=true:=by kernel_rfl
theorem Xr:(laidOutB tP)=true:=by kernel_rfl
theorem Xq:(mapsRowed tP)=true:=by kernel_rfl
theorem Xp:(tF.params.all (tP.readableRec ·))=true:=by kernel_rfl
theorem Xo:(namedTie tP tC.named tS.vars)=true:=by kernel_rfl
theorem Xn:((tC.stops == []))=true:=by kernel_rfl
theorem Xm:((tP.stops == []))=true:=by kernel_rfl
theorem Xl:((tC.knobs == []))=true:=by kernel_rfl
theorem Xk:((tP.stopKnobs == []))=true:=by kernel_rfl
theorem Xj:((tC.inPlace==tP.inPlace 8))=true:=by kernel_rfl
theorem W4:((tC.unfollowed==tP.unfollowed 8))=true:=by kernel_rfl
theorem W0:((tC.recurses==tP.recurses 8))=true:=by kernel_rfl
theorem WZ:((tC.named==tP.varsNamed 8))=true:=by kernel_rfl
theorem WY:((tC.maps==(tF.params.toList++tS.plain.varTypes tP).any (tP.mapsRec ·)))=true:=by kernel_rfl
theorem WX:((tC.ifaces==(tF.params.toList++tS.plain.varTypes tP).any (tP.ifacesRec ·)))=true:=by kernel_rfl
theorem WW:((tC.mapsOut==tP.mapsAmong tF.resultTypes.toList))=true:=by kernel_rfl
theorem WV:((tC.loops==(tF.params.toList++tS.plain.varTypes tP).any (tP.loopsFrom ·)))=true:=by kernel_rfl
theorem WU:((tC.wideKeys==(tF.params.toList++tS.plain.varTypes tP++tF.resultTypes.toList).any (tP.wideKeysFrom ·)))=true:=by kernel_rfl
theorem WT:(tS.vars.all (tP.varReadable ·))=true:=by kernel_rfl
theorem WS:(tF.resultTypes.all (λt=>tP.readableRec t&&decide (t<tP.types.size)))=true:=by kernel_rfl
theorem WR:((tC.ifacesOut==tF.resultTypes.toList.any (tP.ifacesRec ·)))=true:=by kernel_rfl
theorem WQ:((tC.loopsOut==tF.resultTypes.toList.any (tP.loopsFrom ·)))=true:=by kernel_rfl
theorem WO:((tC.plainKeys==tP.plainKeys))=true:=by kernel_rfl
theorem WN:(tC.shortTexts.isNone)=true:=by kernel_rfl
theorem WM:(tP.stopsHeard)=true:=by kernel_rfl
theorem WL:(tP.mayEnter)=true:=by kernel_rfl
theorem WJ:((tC.lifted==tP.liftsFinal))=true:=by kernel_rfl
theorem WI:((tP.make==some tC.make))=true:=by kernel_rfl
theorem WH:((tC.kinds==(if tC.domain.isEmpty then[]else tF.params.toList.map λt=>match tP.underlying t with|some (.int k)=>some k|_=>none)))=true:=by kernel_rfl
theorem WG:((tC.pinned==tC.pinnedBy))=true:=by kernel_rfl
theorem WE:((tC.veiled==(tF.params.toList++tS.plain.varTypes tP++tF.resultTypes.toList).any (tP.veiledRec ·)))=true:=by kernel_rfl
theorem WD:(tC.veiledFits tP tF.params.toList (tF.params.toList++tS.plain.varTypes tP++tF.resultTypes.toList))=true:=by kernel_rfl
theorem Mg:joinedFacts Tryz.pinned.checked.prog 8 Tryz.f8 (Rows.OpenSpec.upto Rows.sysWritesSpec).bare Rows.sysWritesUptoRow=true:=(gn (gn (gn (gn (gn (gn (gn (gn (gn (gn (gn (gn (gn (gn (gn (gn (gn (gn (gn (gn (gn (gn (gn (gn (gn (gn (gn (gn (gn (gn (gn Xs Xr) Xq) Xp) Xo) Xn) Xm) Xl) Xk) Xj) W4) W0) WZ) WY) WX) WW) WV) WU) WT) WS) WR) WQ) WO) WN) WM) WL) WJ) WI) WH) WG) WE) WD)
end Go.Proofs.YtjpgfgajkjhonaaGreatDoor
