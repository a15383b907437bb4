/- Lemmas. Conditions: none. -/
import Derived.Test.YtjpgfgajkjhonaaGreatDoorQHBJ
namespace Go.Proofs.YtjpgfgajkjhonaaGreatDoor
open Go.Vx
set_option maxRecDepth 100000
open Go.ChangeShapes Go.WideShapes Go.ChangeAt Go.RowKit
noncomputable abbrev tP:Program:=Tryz.pinned.checked.prog
noncomputable abbrev tS:ChangeSpec:=(Rows.OpenSpec.upto Rows.sysHiddenSpec).bare
noncomputable abbrev tC:OpenClaim:=Rows.sysHiddenUptoRow
noncomputable abbrev tF:Func:=Tryz.f6
theorem hT {a b:Bool} (h:a=true) (h':b=true):(a&&b)=true:=by rw [h,h'];rfl
theorem XS:(tC.wf (OpenSpec.ofChange tS))=true:=zx0
theorem XR:(laidOutB tP)=true:=zx0
theorem XQ:(mapsRowed tP)=true:=zx0
theorem XP:(tF.params.all (tP.readableRec ·))=true:=zx0
theorem XO:(namedTie tP tC.named tS.vars)=true:=zx0
theorem XN:((tC.stops == []))=true:=zx0
theorem XM:((tP.stops == []))=true:=zx0
theorem XL:((tC.knobs == []))=true:=zx0
theorem XK:((tP.stopKnobs == []))=true:=zx0
theorem XJ:((tC.inPlace==tP.inPlace 6))=true:=zx0
theorem WA:((tC.unfollowed==tP.unfollowed 6))=true:=zx0
theorem V_:((tC.recurses==tP.recurses 6))=true:=zx0
theorem Vz:((tC.named==tP.varsNamed 6))=true:=zx0
theorem Vy:((tC.maps==(tF.params.toList++tS.plain.varTypes tP).any (tP.mapsRec ·)))=true:=zx0
theorem Vw:((tC.ifaces==(tF.params.toList++tS.plain.varTypes tP).any (tP.ifacesRec ·)))=true:=zx0
theorem Vv:((tC.mapsOut==tP.mapsAmong tF.resultTypes.toList))=true:=zx0
theorem Vu:((tC.loops==(tF.params.toList++tS.plain.varTypes tP).any (tP.loopsFrom ·)))=true:=zx0
theorem Vt:((tC.wideKeys==(tF.params.toList++tS.plain.varTypes tP++tF.resultTypes.toList).any (tP.wideKeysFrom ·)))=true:=zx0
theorem Vs:(tS.vars.all (tP.varReadable ·))=true:=zx0
theorem Vq:(tF.resultTypes.all (λt=>tP.readableRec t&&decide (t<tP.types.size)))=true:=zx0
theorem Vp:((tC.ifacesOut==tF.resultTypes.toList.any (tP.ifacesRec ·)))=true:=zx0
theorem Vo:((tC.loopsOut==tF.resultTypes.toList.any (tP.loopsFrom ·)))=true:=zx0
theorem Vn:((tC.plainKeys==tP.plainKeys))=true:=zx0
theorem Vm:(tC.shortTexts.isNone)=true:=zx0
theorem Vl:(tP.stopsHeard)=true:=zx0
theorem Vk:(tP.mayEnter)=true:=zx0
theorem Vj:((tC.lifted==tP.liftsFinal))=true:=zx0
theorem Vi:((tP.make==some tC.make))=true:=zx0
theorem Vh:((tC.kinds==(if tC.domain.isEmpty then [] else tF.params.toList.map λt=>match tP.underlying t with | some (.int k)=>some k | _=>none)))=true:=zx0
theorem Vg:((tC.pinned==tC.pinnedBy))=true:=zx0
theorem Vf:((tC.veiled==(tF.params.toList++tS.plain.varTypes tP++tF.resultTypes.toList).any (tP.veiledRec ·)))=true:=zx0
theorem Ve:(tC.veiledFits tP tF.params.toList (tF.params.toList++tS.plain.varTypes tP++tF.resultTypes.toList))=true:=zx0
theorem Md:joinedFacts Tryz.pinned.checked.prog 6 Tryz.f6 (Rows.OpenSpec.upto Rows.sysHiddenSpec).bare Rows.sysHiddenUptoRow=true:=(hT (hT (hT (hT (hT (hT (hT (hT (hT (hT (hT (hT (hT (hT (hT (hT (hT (hT (hT (hT (hT (hT (hT (hT (hT (hT (hT (hT (hT (hT (hT XS XR) XQ) XP) XO) XN) XM) XL) XK) XJ) WA) V_) Vz) Vy) Vw) Vv) Vu) Vt) Vs) Vq) Vp) Vo) Vn) Vm) Vl) Vk) Vj) Vi) Vh) Vg) Vf) Ve)
end Go.Proofs.YtjpgfgajkjhonaaGreatDoor