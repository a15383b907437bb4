/- Lemmas. Conditions: none. -/
import Derived.Test.YtjpgfgajkjhonaaGreatDoorQRBH
namespace Go.Proofs.YtjpgfgajkjhonaaGreatDoor
open Go.Vx
set_option maxRecDepth 100000
open Go.ChangeShapes Go.WideShapes Go.ChangeAt Go.RowKit
noncomputable abbrev tP:Program:=Tryz.pinned.checked.prog
noncomputable abbrev tS:ChangeSpec:=(Rows.OpenSpec.upto Rows.sysRoomsSpec).bare
noncomputable abbrev tC:OpenClaim:=Rows.sysRoomsUptoRow
noncomputable abbrev tF:Func:=Tryz.f7
theorem gn {a b:Bool} (h:a=true) (h':b=true):(a&&b)=true:=by rw [h,h'];rfl
theorem Xs:(tC.wf (OpenSpec.ofChange tS))=true:=zx0
theorem Xr:(laidOutB tP)=true:=zx0
theorem Xq:(mapsRowed tP)=true:=zx0
theorem Xp:(tF.params.all (tP.readableRec ·))=true:=zx0
theorem Xo:(namedTie tP tC.named tS.vars)=true:=zx0
theorem Xn:((tC.stops == []))=true:=zx0
theorem Xm:((tP.stops == []))=true:=zx0
theorem Xl:((tC.knobs == []))=true:=zx0
theorem Xk:((tP.stopKnobs == []))=true:=zx0
theorem Xj:((tC.inPlace==tP.inPlace 7))=true:=zx0
theorem W4:((tC.unfollowed==tP.unfollowed 7))=true:=zx0
theorem W0:((tC.recurses==tP.recurses 7))=true:=zx0
theorem WZ:((tC.named==tP.varsNamed 7))=true:=zx0
theorem WY:((tC.maps==(tF.params.toList++tS.plain.varTypes tP).any (tP.mapsRec ·)))=true:=zx0
theorem WX:((tC.ifaces==(tF.params.toList++tS.plain.varTypes tP).any (tP.ifacesRec ·)))=true:=zx0
theorem WW:((tC.mapsOut==tP.mapsAmong tF.resultTypes.toList))=true:=zx0
theorem WV:((tC.loops==(tF.params.toList++tS.plain.varTypes tP).any (tP.loopsFrom ·)))=true:=zx0
theorem WU:((tC.wideKeys==(tF.params.toList++tS.plain.varTypes tP++tF.resultTypes.toList).any (tP.wideKeysFrom ·)))=true:=zx0
theorem WT:(tS.vars.all (tP.varReadable ·))=true:=zx0
theorem WS:(tF.resultTypes.all (λt=>tP.readableRec t&&decide (t<tP.types.size)))=true:=zx0
theorem WR:((tC.ifacesOut==tF.resultTypes.toList.any (tP.ifacesRec ·)))=true:=zx0
theorem WQ:((tC.loopsOut==tF.resultTypes.toList.any (tP.loopsFrom ·)))=true:=zx0
theorem WO:((tC.plainKeys==tP.plainKeys))=true:=zx0
theorem WN:(tC.shortTexts.isNone)=true:=zx0
theorem WM:(tP.stopsHeard)=true:=zx0
theorem WL:(tP.mayEnter)=true:=zx0
theorem WJ:((tC.lifted==tP.liftsFinal))=true:=zx0
theorem WI:((tP.make==some tC.make))=true:=zx0
theorem WH:((tC.kinds==(if tC.domain.isEmpty then [] else tF.params.toList.map λt=>match tP.underlying t with | some (.int k)=>some k | _=>none)))=true:=zx0
theorem WG:((tC.pinned==tC.pinnedBy))=true:=zx0
theorem WE:((tC.veiled==(tF.params.toList++tS.plain.varTypes tP++tF.resultTypes.toList).any (tP.veiledRec ·)))=true:=zx0
theorem WD:(tC.veiledFits tP tF.params.toList (tF.params.toList++tS.plain.varTypes tP++tF.resultTypes.toList))=true:=zx0
theorem Mg:joinedFacts Tryz.pinned.checked.prog 7 Tryz.f7 (Rows.OpenSpec.upto Rows.sysRoomsSpec).bare Rows.sysRoomsUptoRow=true:=(gn (gn (gn (gn (gn (gn (gn (gn (gn (gn (gn (gn (gn (gn (gn (gn (gn (gn (gn (gn (gn (gn (gn (gn (gn (gn (gn (gn (gn (gn (gn Xs Xr) Xq) Xp) Xo) Xn) Xm) Xl) Xk) Xj) W4) W0) WZ) WY) WX) WW) WV) WU) WT) WS) WR) WQ) WO) WN) WM) WL) WJ) WI) WH) WG) WE) WD)
end Go.Proofs.YtjpgfgajkjhonaaGreatDoor