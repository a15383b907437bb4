/- Lemmas. Conditions: none. -/
import Derived.Test.YtmigecldjbgneaaGreatDoorQKAQ
namespace Go.Proofs.YtmigecldjbgneaaGreatDoor
open Go.Vx
set_option maxRecDepth 100000
open Go.ChangeShapes Go.WideShapes Go.ChangeAt Go.RowKit
noncomputable abbrev tP:Program:=Tryz.pinned.checked.prog
noncomputable abbrev tS:ChangeSpec:=(OpenSpec.ofChange Rows.kernRefusesSpec).bare
noncomputable abbrev tC:OpenClaim:=Rows.kernRefusesRow
noncomputable abbrev tF:Func:=Tryz.f3
theorem gf{a b:Bool}(h:a=true)(h':b=true):(a&&b)=true:=by rw[h,h'];rfl
theorem Yv:(tC.wf (OpenSpec.ofChange tS))=true:=zx0
theorem Yu:(laidOutB tP)=true:=zx0
theorem Yt:(mapsRowed tP)=true:=zx0
theorem Ys:(tF.params.all (tP.readableRec ·))=true:=zx0
theorem Yr:(namedTie tP tC.named tS.vars)=true:=zx0
theorem Yq:((tC.stops == []))=true:=zx0
theorem Yp:((tP.stops == []))=true:=zx0
theorem Yo:((tC.knobs == []))=true:=zx0
theorem Yn:((tP.stopKnobs == []))=true:=zx0
theorem Ym:((tC.inPlace==tP.inPlace 3))=true:=zx0
theorem Xj:((tC.unfollowed==tP.unfollowed 3))=true:=zx0
theorem Xi:((tC.recurses==tP.recurses 3))=true:=zx0
theorem Xh:((tC.named==tP.varsNamed 3))=true:=zx0
theorem Xg:((tC.maps==(tF.params.toList++tS.plain.varTypes tP).any (tP.mapsRec ·)))=true:=zx0
theorem Xf:((tC.ifaces==(tF.params.toList++tS.plain.varTypes tP).any (tP.ifacesRec ·)))=true:=zx0
theorem Xe:((tC.mapsOut==tP.mapsAmong tF.resultTypes.toList))=true:=zx0
theorem Xd:((tC.loops==(tF.params.toList++tS.plain.varTypes tP).any (tP.loopsFrom ·)))=true:=zx0
theorem Xc:((tC.wideKeys==(tF.params.toList++tS.plain.varTypes tP++tF.resultTypes.toList).any (tP.wideKeysFrom ·)))=true:=zx0
theorem Xb:(tS.vars.all (tP.varReadable ·))=true:=zx0
theorem Xa:(tF.resultTypes.all (λt=>tP.readableRec t&&decide (t<tP.types.size)))=true:=zx0
theorem X9:((tC.ifacesOut==tF.resultTypes.toList.any (tP.ifacesRec ·)))=true:=zx0
theorem X8:((tC.loopsOut==tF.resultTypes.toList.any (tP.loopsFrom ·)))=true:=zx0
theorem X7:((tC.plainKeys==tP.plainKeys))=true:=zx0
theorem X6:(tC.shortTexts.isNone)=true:=zx0
theorem X5:(tP.stopsHeard)=true:=zx0
theorem X4:(tP.mayEnter)=true:=zx0
theorem X0:((tC.lifted==tP.liftsFinal))=true:=zx0
theorem XZ:((tP.make==some tC.make))=true:=zx0
theorem XY:((tC.kinds==(if tC.domain.isEmpty then[]else tF.params.toList.map λt=>match tP.underlying t with|some (.int k)=>some k|_=>none)))=true:=zx0
theorem XX:((tC.pinned==tC.pinnedBy))=true:=zx0
theorem XW:((tC.veiled==(tF.params.toList++tS.plain.varTypes tP++tF.resultTypes.toList).any (tP.veiledRec ·)))=true:=zx0
theorem XV:(tC.veiledFits tP tF.params.toList (tF.params.toList++tS.plain.varTypes tP++tF.resultTypes.toList))=true:=zx0
theorem NZ:joinedFacts Tryz.pinned.checked.prog 3 Tryz.f3 (OpenSpec.ofChange Rows.kernRefusesSpec).bare Rows.kernRefusesRow=true:=(gf (gf (gf (gf (gf (gf (gf (gf (gf (gf (gf (gf (gf (gf (gf (gf (gf (gf (gf (gf (gf (gf (gf (gf (gf (gf (gf (gf (gf (gf (gf Yv Yu) Yt) Ys) Yr) Yq) Yp) Yo) Yn) Ym) Xj) Xi) Xh) Xg) Xf) Xe) Xd) Xc) Xb) Xa) X9) X8) X7) X6) X5) X4) X0) XZ) XY) XX) XW) XV)
end Go.Proofs.YtmigecldjbgneaaGreatDoor