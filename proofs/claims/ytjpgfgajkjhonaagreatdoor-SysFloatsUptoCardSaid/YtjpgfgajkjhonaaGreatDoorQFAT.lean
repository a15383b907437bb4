/- The functions of this seat in the form of the pictures, and how each is entered. Laid by program (PrintC). Conditions: none; each line is held against the program by the kernel. -/
import Derived.Test.YtjpgfgajkjhonaaGreatDoorQFAR
import Derived.Test.YtjpgfgajkjhonaaGreatDoorQFAS
import Derived.RangeFuncLeaves
import Derived.Shelf.Abstract
import Derived.WalkKit
import Derived.OwnWalkIn
import Derived.TacticsInMore
import Derived.LoopNIn
import Derived.LoopIn
set_option maxRecDepth 100000
namespace Go.Proofs.YtjpgfgajkjhonaaGreatDoor
open Go.Vx
set_option maxRecDepth 100000
set_option maxHeartbeats 4000000
variable {keep:Bool} {vs:List V} {h:H} {K:Out→H→Prop}
noncomputable def s17:=sg (N:=17) Tryz.f17
noncomputable def s38:=sg (N:=38) Tryz.f38
noncomputable def s80:=sg (N:=80) Tryz.f80
noncomputable def s81:=sg (N:=81) Tryz.f81
noncomputable def s82:=sg (N:=82) Tryz.f82
def c115a:C:=.jZ [⟨some 4,.al [.d (.int .i64 0)],none⟩,⟨some 5,.al [.d (.bool false)],none⟩]
theorem c115a_ok:comp Tryz.prog Tryz.f115.ntmps (JQ ((Tryz.f115.body).getD .skip))=some c115a:=by kernel_rfl
def c115b:C:=.seq (.jZ [⟨some 7,.mv (.s 1),none⟩,⟨some 8,.mv (.s 0),none⟩,⟨some 9,.cc (.s 7) [.s 8],none⟩]) (.seq (.jZ [⟨some 10,.bd [.d (.int .i64 0)] [],none⟩,⟨none,.st (.s 4) (.s 10) 1,none⟩,⟨none,.st (.s 5) (.k (.d (.bool false))) 1,none⟩]) (.ret))
theorem c115b_ok:comp Tryz.prog Tryz.f115.ntmps (H9 (H9 ((Tryz.f115.body).getD .skip)))=some c115b:=by kernel_rfl
def r115:List RV:=[.c 4 (some 1),.c 5 none]
theorem r115_ok:zY Tryz.prog Tryz.f115=some r115:=by kernel_rfl
theorem s115 (hl:Nat.ble vs.length 11=true) (hk:Rm (Sat Tryz.prog) (Aq Tryz.prog) ow keep c115a 6 169 [.s 4,.s 5] c115b r115 vs h K):Sat Tryz.prog 115 vs h K:=
 Cr ow mixed (fn:=Tryz.f115) (id:=UZ (JQ (H9 ((Tryz.f115.body).getD .skip)))) (oM:=(FN (JQ (H9 ((Tryz.f115.body).getD .skip)))).getD 0 default) (oD:=(FN (JQ (H9 ((Tryz.f115.body).getD .skip)))).getD 1 default) (caps:=VG ((FN (JQ (H9 ((Tryz.f115.body).getD .skip)))).getD 0 default)) (A:=JQ ((Tryz.f115.body).getD .skip)) (c:=H9 (H9 ((Tryz.f115.body).getD .skip))) (by kernel_rfl) (by kernel_rfl) (by kernel_rfl) ⟨by kernel_rfl,by kernel_rfl,by kernel_rfl⟩ ⟨by kernel_rfl,by kernel_rfl,by kernel_rfl⟩ (of_decide_eq_true (by kernel_rfl)) (by kernel_rfl) c115a_ok c115b_ok (by kernel_rfl) r115_ok hl hk
noncomputable def s125:=sg (N:=125) Tryz.f125
noncomputable def s126:=sg (N:=126) Tryz.f126
def c169r:C:=.seq (.jZ [⟨some 4,.mv (.s 2),none⟩,⟨some 5,.pu (.iq true) (.s 4),none⟩]) (.cond (.s 5) (.seq (.jZ [⟨some 7,.mv (.s 2),none⟩,⟨some 8,.pu (.ta 239 true (.ag [.d (.int .i64 0)]) true) (.s 7),none⟩,⟨some 6,.mv (.s 8),none⟩,⟨some 9,.ex (.s 6) 0,none⟩,⟨some 10,.ex (.s 6) 1,none⟩,⟨none,.st (.s 0) (.s 9) 1,none⟩]) (.jZ [⟨none,.st (.s 1) (.k (.d (.bool true))) 1,none⟩])) (.skip))
theorem c169r_ok:comp Tryz.prog Tryz.f169.ntmps (H9 ((Tryz.f169.body).getD .skip))=some c169r:=by kernel_rfl
theorem s169 {vs:List V} {h:H} {r:Option V} {K:H→Prop} (hl:Nat.ble vs.length 11=true) (hk:wx (Sat Tryz.prog) ow h.length c169r ((2,LZ r) :: (3,LZ r) :: EK 0 vs) h λe _ h1=>match e with
  |.pF | .ret=>K h1
  |_=>False):Aq Tryz.prog 169 vs h r K:=
 zS ow (fn:=Tryz.f169) (id:=UZ (JQ ((Tryz.f169.body).getD .skip))) (oR:=(FN (JQ ((Tryz.f169.body).getD .skip))).getD 0 default) (oA:=(FN (JQ ((Tryz.f169.body).getD .skip))).getD 1 default) (c:=H9 ((Tryz.f169.body).getD .skip)) mixed (by kernel_rfl) (by kernel_rfl) (by kernel_rfl) ⟨by kernel_rfl,by kernel_rfl,by kernel_rfl⟩ ⟨by kernel_rfl,by kernel_rfl,by kernel_rfl⟩ ⟨of_decide_eq_true (by kernel_rfl),of_decide_eq_true (by kernel_rfl)⟩ (by kernel_rfl) c169r_ok hl hk
noncomputable def s192:=sg (N:=192) Tryz.f192
noncomputable def s193:=sg (N:=193) Tryz.f193
end Go.Proofs.YtjpgfgajkjhonaaGreatDoor
namespace Go.Proofs.YtjpgfgajkjhonaaGreatDoor
open Go.Vx
set_option maxRecDepth 100000
set_option maxHeartbeats 4000000
variable {keep:Bool} {vs:List V} {h:H} {K:Out→H→Prop}
noncomputable def s13:=sg (N:=13) Tryz.f13
noncomputable def s24:=sg (N:=24) Tryz.f24
noncomputable def s42:=sg (N:=42) Tryz.f42
def c44:C:=.seq (.jZ [iS 1 (.bx (.s 0)),iS 2 (.mv (.k (.d (.bool false))))]) (.seq (.Cw [(iD 3 1 2,[]),(iS 4 (.cf 84 [.s 3]),[0]),(iD 5 1 2,[])] [iS 6 (.eq false true [2,2] (.s 4) (.s 5)),iM 2 6]) (.ret))
noncomputable def s44:=sf (N:=44) (n:=7) (c:=c44) (r:=[.s 2]) Tryz.f44
noncomputable def s52:=sg (N:=52) Tryz.f52
noncomputable def s53:=sg (N:=53) Tryz.f53
noncomputable def s54:=sg (N:=54) Tryz.f54
noncomputable def s55:=sg (N:=55) Tryz.f55
noncomputable def s83:=sg (N:=83) Tryz.f83
noncomputable def s84:=sg (N:=84) Tryz.f84
noncomputable def s91:=sg (N:=91) Tryz.f91
noncomputable def s92:=sg (N:=92) Tryz.f92
noncomputable def s127:=sg (N:=127) Tryz.f127
noncomputable def s128:=sg (N:=128) Tryz.f128
noncomputable def s129:=sg (N:=129) Tryz.f129
noncomputable def s133:=sg (N:=133) Tryz.f133
noncomputable def s161:=sg (N:=161) Tryz.f161
noncomputable def s162:=sg (N:=162) Tryz.f162
noncomputable def s197:=sg (N:=197) Tryz.f197
noncomputable def s226:=sg (N:=226) Tryz.f226
noncomputable def s227:=sg (N:=227) Tryz.f227
noncomputable def s228:=sg (N:=228) Tryz.f228
noncomputable def s229:=sg (N:=229) Tryz.f229
noncomputable def s262:=sg (N:=262) Tryz.f262
noncomputable def s280:=sg (N:=280) Tryz.f280
end Go.Proofs.YtjpgfgajkjhonaaGreatDoor
namespace Go.Proofs.YtjpgfgajkjhonaaGreatDoor
open Go.Vx
set_option maxRecDepth 100000
set_option maxHeartbeats 4000000
variable {keep:Bool} {vs:List V} {h:H} {K:Out→H→Prop}
noncomputable def s43:=sg (N:=43) Tryz.f43
noncomputable def s47:=sg (N:=47) Tryz.f47
noncomputable def s66:=sg (N:=66) Tryz.f66
noncomputable def s86:=sg (N:=86) Tryz.f86
noncomputable def s100:=sg (N:=100) Tryz.f100
noncomputable def s101:=sg (N:=101) Tryz.f101
noncomputable def s102:=sg (N:=102) Tryz.f102
noncomputable def s130:=sg (N:=130) Tryz.f130
noncomputable def s139:=sg (N:=139) Tryz.f139
noncomputable def s140:=sg (N:=140) Tryz.f140
noncomputable def s194:=sg (N:=194) Tryz.f194
noncomputable def s211:=sg (N:=211) Tryz.f211
noncomputable def s324:=sg (N:=324) Tryz.f324
end Go.Proofs.YtjpgfgajkjhonaaGreatDoor
namespace Go.Proofs.YtjpgfgajkjhonaaGreatDoor
open Go.Vx
set_option maxRecDepth 100000
set_option maxHeartbeats 4000000
variable {keep:Bool} {vs:List V} {h:H} {K:Out→H→Prop}
noncomputable def s11:=sg (N:=11) Tryz.f11
noncomputable def s15:=sg (N:=15) Tryz.f15
noncomputable def s22:=sg (N:=22) Tryz.f22
noncomputable def s30:=sg (N:=30) Tryz.f30
noncomputable def s33:=sg (N:=33) Tryz.f33
noncomputable def s40:=sg (N:=40) Tryz.f40
noncomputable def s41:=sg (N:=41) Tryz.f41
noncomputable def s49:=sg (N:=49) Tryz.f49
noncomputable def s58:=sg (N:=58) Tryz.f58
noncomputable def s59:=sg (N:=59) Tryz.f59
noncomputable def s68:=sg (N:=68) Tryz.f68
noncomputable def s70:=sg (N:=70) Tryz.f70
noncomputable def s85:=sg (N:=85) Tryz.f85
noncomputable def s104:=sg (N:=104) Tryz.f104
noncomputable def s110:=sg (N:=110) Tryz.f110
noncomputable def s235:=sg (N:=235) Tryz.f235
noncomputable def s242:=sg (N:=242) Tryz.f242
noncomputable def s246:=sg (N:=246) Tryz.f246
noncomputable def s248:=sg (N:=248) Tryz.f248
noncomputable def s254:=sg (N:=254) Tryz.f254
noncomputable def s255:=sg (N:=255) Tryz.f255
noncomputable def s257:=sg (N:=257) Tryz.f257
noncomputable def s282:=sg (N:=282) Tryz.f282
noncomputable def s283:=sg (N:=283) Tryz.f283
noncomputable def s284:=sg (N:=284) Tryz.f284
noncomputable def s285:=sg (N:=285) Tryz.f285
noncomputable def s286:=sg (N:=286) Tryz.f286
noncomputable def s287:=sg (N:=287) Tryz.f287
noncomputable def s288:=sg (N:=288) Tryz.f288
noncomputable def s289:=sg (N:=289) Tryz.f289
noncomputable def s290:=sg (N:=290) Tryz.f290
noncomputable def s291:=sg (N:=291) Tryz.f291
noncomputable def s292:=sg (N:=292) Tryz.f292
noncomputable def s293:=sg (N:=293) Tryz.f293
noncomputable def s294:=sg (N:=294) Tryz.f294
noncomputable def s295:=sg (N:=295) Tryz.f295
noncomputable def s321:=sg (N:=321) Tryz.f321
noncomputable def s322:=sg (N:=322) Tryz.f322
noncomputable def s325:=sg (N:=325) Tryz.f325
end Go.Proofs.YtjpgfgajkjhonaaGreatDoor
namespace Go.Proofs.YtjpgfgajkjhonaaGreatDoor
open Go.Vx
set_option maxRecDepth 100000
set_option maxHeartbeats 4000000
variable {keep:Bool} {vs:List V} {h:H} {K:Out→H→Prop}
def c14:C:=.seq (.jZ [iS 5 (.bx (.s 2)),iS 6 (.mv (.k iz))]) (.seq (.seq (.jZ [iM 12 1,iS 13 (.cf 43 [.s 12]),iS 14 (.un .not (.s 13)),iM 15 14,iG 16 (.fa (.s 5) 0) 15 false,iG 17 (.ld (.s 16) none) 15 false,iG 18 (.bin .lss (.s 17) (.k (.d (.int .i64 3)))) 15 false,iS 19 (.pk (.s 15) (.k (.d (.bool true))) (.s 18)),iM 20 19,iG 21 (.fa (.s 5) 0) 20 false,iG 22 (.ld (.s 21) none) 20 false,iG 23 (.bin .gtr (.s 22) (.k (.d (.int .i64 7)))) 20 false,iS 24 (.pk (.s 20) (.k (.d (.bool true))) (.s 23)),iM 25 24,iG 26 (.fa (.s 5) 1) 25 false,iG 27 (.ld (.s 26) (some 2)) 25 false,iG 28 (.cf 44 [.s 27]) 25 false,iG 29 (.un .not (.s 28)) 25 false,iS 30 (.pk (.s 25) (.k (.d (.bool true))) (.s 29))]) (.cond (.s 30) (.seq (.jZ [iS 6 (.mv (.k (.d (.int .i64 1))))]) (.ret)) (.skip))) (.seq (.seq (.jZ [iM 32 0,iC 33 32,iF 34 33 0,iL 35 34,iM 36 1,iS 37 (.ml (.s 35) (.s 36) [2] (.ag [iz,sz,sz,iz,iz,sz,sz,sz,.d (.bool false),.d (.bool false),.d (.bool false),iz,iz,sz,sz,sz,.nl 7,iz,.d (.int .u8 0)]) true),iM 31 37,iS 38 (.ex (.s 31) 0),iS 39 (.ex (.s 31) 1),iS 7 (.al [iz,sz,sz,iz,iz,sz,sz,sz,.d (.bool false),.d (.bool false),.d (.bool false),iz,iz,sz,sz,sz,.nl 7,iz,.d (.int .u8 0)]),iN (.st (.s 7) (.s 38) 19),iM 8 39]) (.seq (.jZ [iM 40 8]) (.cond (.s 40) (.seq (.jZ [iS 6 (.mv (.k (.d (.int .i64 12))))]) (.ret)) (.skip)))) (.seq (.Cw [(iM 41 0,[]),(iC 42 41,[0]),(iF 43 42 0,[1,0]),(iL 44 43,[2,1,0]),(iM 45 1,[]),(iD 46 5 19,[]),(iS 47 (.cf 45 [.s 46]),[5])] [iN (.mu (.s 44) (.s 45) (.s 47) [2])]) (.seq (.Cw [(iM 48 0,[]),(iC 49 48,[0]),(iF 50 49 1,[1,0]),(iL 51 50,[2,1,0]),(iF 52 5 1,[]),(iD 53 52 2,[4])] [iS 54 (.ml (.s 51) (.s 53) [9] (.nl 1) false),iM 9 54]) (.seq (.jZ [iM 56 9,iM 57 1,iS 58 (.cf 46 [.s 56,.s 57,.k (.d (.fn 47))]),iM 55 58,iS 59 (.ex (.s 55) 0),iS 60 (.ex (.s 55) 1),iM 10 59,iM 11 60]) (.seq (.Cw [(iM 61 0,[]),(iC 62 61,[0]),(iF 63 62 1,[1,0]),(iL 64 63,[2,1,0]),(iF 65 5 1,[]),(iD 66 65 2,[4]),(iM 67 9,[]),(iM 68 10,[]),(iM 69 1,[]),(iS 70 (.bs 1 [sz] 1 [(0,.s 69)]),[8]),(iS 71 (.cf 48 [.s 67,.s 68,.s 70]),[6,7,9,8])] [iN (.mu (.s 64) (.s 66) (.s 71) [9])]) (.seq (.jZ [iS 6 (.mv (.k iz))]) (.ret))))))))
noncomputable def s14:=sf (N:=14) (n:=72) (c:=c14) (r:=[.s 6]) Tryz.f14
noncomputable def s16:=sg (N:=16) Tryz.f16
def c18:C:=.seq (.jZ [iS 0 (.mv (.k (.d (.np))))]) (.seq (.jZ [iS 1 (.mm 1),iS 2 (.mm 3),iS 3 (.bd [.d (.nm),.d (.nm)] [(0,1,.s 1),(1,1,.s 2)]),iS 4 (.bx (.s 3)),iM 0 4]) (.ret))
noncomputable def s18:=sf (N:=18) (n:=5) (c:=c18) (r:=[.s 0]) Tryz.f18
noncomputable def s45:=sg (N:=45) Tryz.f45
noncomputable def s46:=sg (N:=46) Tryz.f46
def c111:C:=.seq (.jZ [iS 5 (.bx (.s 2)),iS 6 (.mv (.k iz))]) (.seq (.jZ [iM 10 0,iC 11 10,iF 12 11 0,iL 13 12,iM 14 1,iS 15 (.ml (.s 13) (.s 14) [2] (.ag [iz,sz,sz,iz,iz,sz,sz,sz,.d (.bool false),.d (.bool false),.d (.bool false),iz,iz,sz,sz,sz,.nl 7,iz,.d (.int .u8 0)]) true),iM 9 15,iS 16 (.ex (.s 9) 0),iS 17 (.ex (.s 9) 1),iS 7 (.al [iz,sz,sz,iz,iz,sz,sz,sz,.d (.bool false),.d (.bool false),.d (.bool false),iz,iz,sz,sz,sz,.nl 7,iz,.d (.int .u8 0)]),iN (.st (.s 7) (.s 16) 19),iM 8 17]) (.seq (.seq (.jZ [iM 18 8,iS 19 (.un .not (.s 18))]) (.cond (.s 19) (.seq (.jZ [iS 6 (.mv (.k (.d (.int .i64 10))))]) (.ret)) (.skip))) (.seq (.seq (.jZ [iF 20 7 0,iL 21 20,iF 22 5 0,iL 23 22,iS 24 (.bin .neq (.s 21) (.s 23)),iM 25 24,iG 26 (.fa (.s 7) 1) 25 false,iG 27 (.ld (.s 26) (some 2)) 25 false,iG 28 (.fa (.s 5) 1) 25 false,iG 29 (.ld (.s 28) (some 2)) 25 false,iG 30 (.eq true true [2,2] (.s 27) (.s 29)) 25 false,iS 31 (.pk (.s 25) (.k (.d (.bool true))) (.s 30))]) (.cond (.s 31) (.seq (.jZ [iS 6 (.mv (.k (.d (.int .i64 11))))]) (.ret)) (.skip))) (.seq (.Cw [(iM 32 0,[]),(iC 33 32,[0]),(iF 34 33 0,[1,0]),(iL 35 34,[2,1,0]),(iM 36 1,[]),(iD 37 5 19,[]),(iS 38 (.cf 45 [.s 37]),[5])] [iN (.mu (.s 35) (.s 36) (.s 38) [2])]) (.seq (.jZ [iS 6 (.mv (.k iz))]) (.ret))))))
noncomputable def s111:=sf (N:=111) (n:=39) (c:=c111) (r:=[.s 6]) Tryz.f111
end Go.Proofs.YtjpgfgajkjhonaaGreatDoor
namespace Go.Proofs.YtjpgfgajkjhonaaGreatDoor
open Go.Vx
set_option maxRecDepth 100000
set_option maxHeartbeats 4000000
variable {keep:Bool} {vs:List V} {h:H} {K:Out→H→Prop}
noncomputable def s12:=sg (N:=12) Tryz.f12
noncomputable def s34:=sg (N:=34) Tryz.f34
noncomputable def s36:=sg (N:=36) Tryz.f36
noncomputable def s72:=sg (N:=72) Tryz.f72
noncomputable def s73:=sg (N:=73) Tryz.f73
noncomputable def s75:=sg (N:=75) Tryz.f75
noncomputable def s116:=sg (N:=116) Tryz.f116
noncomputable def s170:=sg (N:=170) Tryz.f170
noncomputable def s171:=sg (N:=171) Tryz.f171
noncomputable def s172:=sg (N:=172) Tryz.f172
noncomputable def s173:=sg (N:=173) Tryz.f173
noncomputable def s174:=sg (N:=174) Tryz.f174
noncomputable def s175:=sg (N:=175) Tryz.f175
noncomputable def s176:=sg (N:=176) Tryz.f176
noncomputable def s177:=sg (N:=177) Tryz.f177
noncomputable def s178:=sg (N:=178) Tryz.f178
noncomputable def s179:=sg (N:=179) Tryz.f179
noncomputable def s180:=sg (N:=180) Tryz.f180
noncomputable def s181:=sg (N:=181) Tryz.f181
noncomputable def s182:=sg (N:=182) Tryz.f182
noncomputable def s183:=sg (N:=183) Tryz.f183
noncomputable def s184:=sg (N:=184) Tryz.f184
noncomputable def s185:=sg (N:=185) Tryz.f185
noncomputable def s186:=sg (N:=186) Tryz.f186
noncomputable def s187:=sg (N:=187) Tryz.f187
noncomputable def s188:=sg (N:=188) Tryz.f188
noncomputable def s189:=sg (N:=189) Tryz.f189
noncomputable def s232:=sg (N:=232) Tryz.f232
noncomputable def s233:=sg (N:=233) Tryz.f233
noncomputable def s234:=sg (N:=234) Tryz.f234
noncomputable def s236:=sg (N:=236) Tryz.f236
noncomputable def s237:=sg (N:=237) Tryz.f237
noncomputable def s238:=sg (N:=238) Tryz.f238
noncomputable def s239:=sg (N:=239) Tryz.f239
noncomputable def s240:=sg (N:=240) Tryz.f240
noncomputable def s241:=sg (N:=241) Tryz.f241
def c243:C:=.seq (.jZ [iS 3 (.bx (.s 1)),iS 4 (.al [iz,sz,sz,iz,iz,sz,sz,sz,.d (.bool false),.d (.bool false),.d (.bool false),iz,iz,sz,sz,sz,.nl 7,iz,.d (.int .u8 0)]),iS 5 (.mv (.k (.d (.bool false))))]) (.seq (.Cw [(iM 9 0,[]),(iC 10 9,[0]),(iF 11 10 2,[1,0]),(iL 12 11,[2,1,0]),(iF 13 3 2,[]),(iL 14 13,[4]),(iS 15 (.cf 16 [.s 12,.s 14]),[3,5,2,1,0,4]),(iM 8 15,[6,3,5,2,1,0,4]),(iS 16 (.ex (.s 8) 0),[7,6,3,5,2,1,0,4]),(iS 17 (.ex (.s 8) 1),[7,6,3,5,2,1,0,4]),(iS 6 (.al [iz,sz,sz,iz,iz,sz,sz,sz,.d (.bool false),.d (.bool false),.d (.bool false),iz,iz,sz,sz,sz,.nl 7,iz,.d (.int .u8 0)]),[]),(iN (.st (.s 6) (.s 16) 19),[8,10,7,6,3,5,2,1,0,4])] [iM 7 17]) (.seq (.seq (.jZ [iM 18 7,iS 19 (.un .not (.s 18)),iM 20 19,iG 21 (.fa (.s 6) 0) 20 false,iG 22 (.ld (.s 21) none) 20 false,iG 23 (.fa (.s 3) 0) 20 false,iG 24 (.ld (.s 23) none) 20 false,iG 25 (.bin .neq (.s 22) (.s 24)) 20 false,iS 26 (.pk (.s 20) (.k (.d (.bool true))) (.s 25)),iM 27 26,iG 28 (.fa (.s 6) 1) 27 false,iG 29 (.ld (.s 28) (some 2)) 27 false,iG 30 (.fa (.s 3) 3) 27 false,iG 31 (.ld (.s 30) (some 2)) 27 false,iG 32 (.eq true true [2,2] (.s 29) (.s 31)) 27 false,iS 33 (.pk (.s 27) (.k (.d (.bool true))) (.s 32))]) (.cond (.s 33) (.seq (.jZ [iS 34 (.bd [iz,sz,sz,iz,iz,sz,sz,sz,.d (.bool false),.d (.bool false),.d (.bool false),iz,iz,sz,sz,sz,.nl 7,iz,.d (.int .u8 0)] []),iN (.st (.s 4) (.s 34) 19),iS 5 (.mv (.k (.d (.bool false))))]) (.ret)) (.skip))) (.seq (.jZ [iD 35 6 19,iN (.st (.s 4) (.s 35) 19),iS 5 (.mv (.k (.d (.bool true))))]) (.ret))))
noncomputable def s243:=sf (N:=243) (n:=36) (c:=c243) (r:=[.c 4 (some 19),.s 5]) Tryz.f243
noncomputable def s244:=sg (N:=244) Tryz.f244
noncomputable def s245:=sg (N:=245) Tryz.f245
noncomputable def s247:=sg (N:=247) Tryz.f247
noncomputable def s249:=sg (N:=249) Tryz.f249
noncomputable def s250:=sg (N:=250) Tryz.f250
noncomputable def s251:=sg (N:=251) Tryz.f251
noncomputable def s252:=sg (N:=252) Tryz.f252
noncomputable def s253:=sg (N:=253) Tryz.f253
noncomputable def s256:=sg (N:=256) Tryz.f256
noncomputable def s258:=sg (N:=258) Tryz.f258
end Go.Proofs.YtjpgfgajkjhonaaGreatDoor
namespace Go.Proofs.YtjpgfgajkjhonaaGreatDoor
open Go.Vx
set_option maxRecDepth 100000
set_option maxHeartbeats 4000000
variable {keep:Bool} {vs:List V} {h:H} {K:Out→H→Prop}
end Go.Proofs.YtjpgfgajkjhonaaGreatDoor
namespace Go.Proofs.YtjpgfgajkjhonaaGreatDoor
open Go.Vx
set_option maxRecDepth 100000
set_option maxHeartbeats 4000000
variable {keep:Bool} {vs:List V} {h:H} {K:Out→H→Prop}
noncomputable def s3:=sg (N:=3) Tryz.f3
def r4:List RV:=[.s 8]
noncomputable def s10:=sg (N:=10) Tryz.f10
noncomputable def s37:=sg (N:=37) Tryz.f37
noncomputable def s39:=sg (N:=39) Tryz.f39
noncomputable def s76:=sg (N:=76) Tryz.f76
noncomputable def s77:=sg (N:=77) Tryz.f77
noncomputable def s78:=sg (N:=78) Tryz.f78
noncomputable def s79:=sg (N:=79) Tryz.f79
noncomputable def s118:=sg (N:=118) Tryz.f118
def c119:C:=.seq (.jZ [iS 1 (.bx (.s 0)),iS 2 (.mv (.k (.d (.bool false))))]) (.seq (.Cw [(iD 3 1 2,[]),(iS 4 (.cf 191 [.s 3]),[0]),(iD 5 1 2,[])] [iS 6 (.eq false true [2,2] (.s 4) (.s 5)),iM 2 6]) (.ret))
noncomputable def s119:=sf (N:=119) (n:=7) (c:=c119) (r:=[.s 2]) Tryz.f119
noncomputable def s120:=sg (N:=120) Tryz.f120
noncomputable def s121:=sg (N:=121) Tryz.f121
noncomputable def s122:=sg (N:=122) Tryz.f122
noncomputable def s123:=sg (N:=123) Tryz.f123
noncomputable def s124:=sg (N:=124) Tryz.f124
noncomputable def s190:=sg (N:=190) Tryz.f190
noncomputable def s191:=sg (N:=191) Tryz.f191
noncomputable def s259:=sg (N:=259) Tryz.f259
noncomputable def s260:=sg (N:=260) Tryz.f260
noncomputable def s261:=sg (N:=261) Tryz.f261
noncomputable def s296:=sg (N:=296) Tryz.f296
noncomputable def s297:=sg (N:=297) Tryz.f297
noncomputable def s326:=sg (N:=326) Tryz.f326
noncomputable def s327:=sg (N:=327) Tryz.f327
end Go.Proofs.YtjpgfgajkjhonaaGreatDoor
namespace Go.Proofs.YtjpgfgajkjhonaaGreatDoor
open Go.Vx Go.RowKit Go.Shelf
set_option maxRecDepth 100000
attribute [local go_sem] Oper.semAt_some
theorem MP {k n:Nat} (hm:n≤9223372036854775807) (h:k<n):wrap64 ((k:Int)+1)=k+1:=by unfold wrap64;omega
def B_ (s:List UInt8):List (List D):=s.map λb=>[D.int .u8 b.toNat]
set_option maxHeartbeats 2000000 in
theorem Ae (F:Fence) (n:Nat) (hf:F.fn 134) (hro:F.round=none) (hn:1≤n) (s:List UInt8) (hm:s.length≤9223372036854775807) (l b:Nat) (J:Nat→World→Prop) (Jx:World→Prop) (hcell:∀i W,J i W→W.cell? ⟨b,0,none⟩=some (.string ⟨s.toArray⟩))
    (hY:∀(i:Nat) (x:UInt8) (W1:World),s[i]? = some x→J i W1→YieldAt F (n - 1) Tryz.prog l #[.int .u8 x.toNat] W1 λe W2=>(e = .returned (.bool true)∧J (i+1) W2)∨(e = .returned (.bool false)∧Jx W2))
    (W:World) (h0:J 0 W):CallsIn F n Tryz.prog 134 #[.func (.yield l) #[] #[],.pointer (some ⟨b,0,none⟩)] W λe W'=>(∃v,e = .returned v)∧(J s.length W'∨Jx W'):=by
  have hc:=hcell 0 W h0
  refine callsIn_of_wp Tryz.func134 rfl hf ?_ hro
  simp only [Tryz.ntmps134,cn,aU,af,Nat.reduceAdd,Nat.reduceSub,Array.replicate_succ,Array.replicate_zero,List.push_toArray,List.append_toArray,List.nil_append,List.cons_append]
  gi_wp2
  gi_loopw [6] (λp wr=>∃k:Nat,k≤s.length∧p = .int .i64 k∧J k wr) (λp _=>s.length - (intOf p).toNat)
  case atStart=>exact ⟨0,aj _,rfl,h0⟩
  case round=>
    obtain ⟨k,hk,rfl,hJs⟩:=hrel
    have hcx:=hcell k wr hJs
    by_cases hlt:k<s.length
    · obtain ⟨fn,tmps,assign,body,hy,hR⟩:=hY k s[k] wr (by simp [hlt]) hJs
      have hkl:k<(ByteArray.mk s.toArray).size:=by simpa [ByteArray.size] using hlt
      rw [show s[k]=(ByteArray.mk s.toArray)[k] from rfl] at hy
      gi_wp2
      refine hR.mono ?_
      rintro e W3 (⟨rfl,hJ3⟩ | ⟨rfl,hJx3⟩)
      · have hw:=MP hm hlt
        gi_wp2
        go_roundw
        case rel=>exact ⟨k+1,by omega,by simp,hJ3⟩
        case measure=>simp [intOf];omega
      · gi_wp2
        refine bodyPost_ret (results_none rfl _ _ _) rfl ?_
        exact ⟨⟨_,rfl⟩,.inr hJx3⟩
    · obtain rfl:k=s.length:=by omega
      gi_wp2
      go_end0
      exact ⟨⟨_,rfl⟩,.inl hJs⟩
theorem rL (s:List UInt8):yb Tryz.prog 134 [.p 0 0] [.cells [.d (.str s)]] (B_ s):=by
 refine ⟨by kernel_rfl,?_⟩;intro ρ cv l J Jx hlen hJ hJx hrep hY W h0;obtain ⟨a0,rfl⟩:=eB.1 (show cv.length=1 from hlen);have hcell:∀i W,J i W→∃b,a0 = .pointer (some ⟨b,0,none⟩)∧W.cell? ⟨b,0,none⟩=some (.string ⟨s.toArray⟩)∧s.length≤maxLen:=by
  intro i W hj;obtain ⟨G,hR,hv⟩:=hrep i W hj;obtain ⟨b,e1,hρ⟩:=(hv 0 (.p 0 0) rfl).pt;obtain ⟨b',arr,ty,e2,h1,h2,h3⟩:=hR.rep 0 _ _ hρ rfl;cases e2;have h4:=h3 0 (.d (.str s)) rfl;have hlt:0<arr.size:=by rw [h2];simp
  have e5:arr.getD 0 undef=arr[0]:=by rw [aE,aI hlt];rfl
  rw [e5] at h4;refine ⟨b,e1,?_⟩;rw [dG h1,aI hlt];generalize arr[0]=u at h4;generalize hs:D.str s=ds at h4;cases h4 with
  |k h=>cases h with
   |d h=>cases h with
    |str sv hm=>
     cases hs;exact ⟨rfl,hm⟩
    |_=>cases hs
 obtain ⟨b,rfl,hc,hm⟩:=hcell 0 W h0;have hcell':∀i W,J i W→W.cell? ⟨b,0,none⟩=some (.string ⟨s.toArray⟩):=λi W hj=>by
  obtain ⟨b',e,h1,_⟩:=hcell i W hj;cases e;exact h1
 have h1:=Ae (Fw none) 1 trivial rfl (aQ _) s hm l b J Jx hcell' (λi x W1 hx hj=>hY i [D.int .u8 x.toNat] W1 (by simp [B_,hx]) hj) W h0;rw [show (B_ s).length=s.length by simp [B_]];exact tA (sW h1)
end Go.Proofs.YtjpgfgajkjhonaaGreatDoor
