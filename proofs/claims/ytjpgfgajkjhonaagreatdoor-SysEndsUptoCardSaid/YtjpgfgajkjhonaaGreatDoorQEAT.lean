/- The functions of this seat in the form of the pictures, and how each is entered. Laid by program (PrintC). Conditions: none; each line is held against the program by the kernel. -/
import Derived.Test.YtjpgfgajkjhonaaGreatDoorQEAR
import Derived.Test.YtjpgfgajkjhonaaGreatDoorQEAS
import Derived.RangeFuncLeaves
import Derived.Shelf.Abstract
import Derived.WalkKit
import Derived.OwnWalkIn
import Derived.TacticsInMore
import Derived.LoopNIn
import Derived.LoopIn
set_option maxRecDepth 100000
namespace Go.Proofs.YtjpgfgajkjhonaaGreatDoor
open Go.Vx
set_option maxRecDepth 100000
set_option maxHeartbeats 4000000
variable {keep:Bool} {vs:List V} {h:H} {K:Out→H→Prop}
noncomputable def s17:=sg (N:=17) Tryz.f17
noncomputable def s38:=sg (N:=38) Tryz.f38
noncomputable def s80:=sg (N:=80) Tryz.f80
noncomputable def s81:=sg (N:=81) Tryz.f81
noncomputable def s82:=sg (N:=82) Tryz.f82
def c115a:C:=.ed [⟨some 4,.al [.d (.int .i64 0)],none⟩,⟨some 5,.al [.d (.bool false)],none⟩]
theorem c115a_ok:comp Tryz.prog Tryz.f115.ntmps (He ((Tryz.f115.body).getD .skip))=some c115a:=by kernel_rfl
def c115b:C:=.seq (.ed [⟨some 7,.mv (.s 1),none⟩,⟨some 8,.mv (.s 0),none⟩,⟨some 9,.cc (.s 7) [.s 8],none⟩]) (.seq (.ed [⟨some 10,.bd [.d (.int .i64 0)] [],none⟩,⟨none,.st (.s 4) (.s 10) 1,none⟩,⟨none,.st (.s 5) (.k (.d (.bool false))) 1,none⟩]) (.ret))
theorem c115b_ok:comp Tryz.prog Tryz.f115.ntmps (Gq (Gq ((Tryz.f115.body).getD .skip)))=some c115b:=by kernel_rfl
def r115:List RV:=[.c 4 (some 1),.c 5 none]
theorem r115_ok:yq Tryz.prog Tryz.f115=some r115:=by kernel_rfl
theorem s115 (hl:Nat.ble vs.length 11=true) (hk:RA (Sat Tryz.prog) (AP Tryz.prog) ow keep c115a 6 169 [.s 4,.s 5] c115b r115 vs h K):Sat Tryz.prog 115 vs h K:=
 CN ow mixed (fn:=Tryz.f115) (id:=Tk (He (Gq ((Tryz.f115.body).getD .skip)))) (oM:=(E5 (He (Gq ((Tryz.f115.body).getD .skip)))).getD 0 default) (oD:=(E5 (He (Gq ((Tryz.f115.body).getD .skip)))).getD 1 default) (caps:=U4 ((E5 (He (Gq ((Tryz.f115.body).getD .skip)))).getD 0 default)) (A:=He ((Tryz.f115.body).getD .skip)) (c:=Gq (Gq ((Tryz.f115.body).getD .skip))) (by kernel_rfl) (by kernel_rfl) (by kernel_rfl) ⟨by kernel_rfl,by kernel_rfl,by kernel_rfl⟩ ⟨by kernel_rfl,by kernel_rfl,by kernel_rfl⟩ (of_decide_eq_true (by kernel_rfl)) (by kernel_rfl) c115a_ok c115b_ok (by kernel_rfl) r115_ok hl hk
noncomputable def s125:=sg (N:=125) Tryz.f125
noncomputable def s126:=sg (N:=126) Tryz.f126
def c169r:C:=.seq (.ed [⟨some 4,.mv (.s 2),none⟩,⟨some 5,.pu (.iq true) (.s 4),none⟩]) (.cond (.s 5) (.seq (.ed [⟨some 7,.mv (.s 2),none⟩,⟨some 8,.pu (.ta 239 true (.ag [.d (.int .i64 0)]) true) (.s 7),none⟩,⟨some 6,.mv (.s 8),none⟩,⟨some 9,.ex (.s 6) 0,none⟩,⟨some 10,.ex (.s 6) 1,none⟩,⟨none,.st (.s 0) (.s 9) 1,none⟩]) (.ed [⟨none,.st (.s 1) (.k (.d (.bool true))) 1,none⟩])) (.skip))
theorem c169r_ok:comp Tryz.prog Tryz.f169.ntmps (Gq ((Tryz.f169.body).getD .skip))=some c169r:=by kernel_rfl
theorem s169 {vs:List V} {h:H} {r:Option V} {K:H→Prop} (hl:Nat.ble vs.length 11=true) (hk:wx (Sat Tryz.prog) ow h.length c169r ((2,Kj r) :: (3,Kj r) :: D5 0 vs) h λe _ h1=>match e with
  |.oX | .ret=>K h1
  |_=>False):AP Tryz.prog 169 vs h r K:=
 yj ow (fn:=Tryz.f169) (id:=Tk (He ((Tryz.f169.body).getD .skip))) (oR:=(E5 (He ((Tryz.f169.body).getD .skip))).getD 0 default) (oA:=(E5 (He ((Tryz.f169.body).getD .skip))).getD 1 default) (c:=Gq ((Tryz.f169.body).getD .skip)) mixed (by kernel_rfl) (by kernel_rfl) (by kernel_rfl) ⟨by kernel_rfl,by kernel_rfl,by kernel_rfl⟩ ⟨by kernel_rfl,by kernel_rfl,by kernel_rfl⟩ ⟨of_decide_eq_true (by kernel_rfl),of_decide_eq_true (by kernel_rfl)⟩ (by kernel_rfl) c169r_ok hl hk
noncomputable def s192:=sg (N:=192) Tryz.f192
noncomputable def s193:=sg (N:=193) Tryz.f193
end Go.Proofs.YtjpgfgajkjhonaaGreatDoor
namespace Go.Proofs.YtjpgfgajkjhonaaGreatDoor
open Go.Vx
set_option maxRecDepth 100000
set_option maxHeartbeats 4000000
variable {keep:Bool} {vs:List V} {h:H} {K:Out→H→Prop}
noncomputable def s13:=sg (N:=13) Tryz.f13
noncomputable def s24:=sg (N:=24) Tryz.f24
noncomputable def s42:=sg (N:=42) Tryz.f42
def c44:C:=.seq (.ed [iS 1 (.bx (.s 0)),iS 2 (.mv (.k (.d (.bool false))))]) (.seq (.wv [(iD 3 1 2,[]),(iS 4 (.cf 84 [.s 3]),[0]),(iD 5 1 2,[])] [iS 6 (.eq false true [2,2] (.s 4) (.s 5)),iM 2 6]) (.ret))
noncomputable def s44:=sf (N:=44) (n:=7) (c:=c44) (r:=[.s 2]) Tryz.f44
noncomputable def s52:=sg (N:=52) Tryz.f52
noncomputable def s53:=sg (N:=53) Tryz.f53
noncomputable def s54:=sg (N:=54) Tryz.f54
noncomputable def s55:=sg (N:=55) Tryz.f55
noncomputable def s83:=sg (N:=83) Tryz.f83
noncomputable def s84:=sg (N:=84) Tryz.f84
noncomputable def s91:=sg (N:=91) Tryz.f91
noncomputable def s92:=sg (N:=92) Tryz.f92
noncomputable def s127:=sg (N:=127) Tryz.f127
noncomputable def s128:=sg (N:=128) Tryz.f128
noncomputable def s129:=sg (N:=129) Tryz.f129
noncomputable def s133:=sg (N:=133) Tryz.f133
noncomputable def s161:=sg (N:=161) Tryz.f161
noncomputable def s162:=sg (N:=162) Tryz.f162
noncomputable def s197:=sg (N:=197) Tryz.f197
noncomputable def s226:=sg (N:=226) Tryz.f226
noncomputable def s227:=sg (N:=227) Tryz.f227
noncomputable def s228:=sg (N:=228) Tryz.f228
noncomputable def s229:=sg (N:=229) Tryz.f229
noncomputable def s262:=sg (N:=262) Tryz.f262
noncomputable def s280:=sg (N:=280) Tryz.f280
end Go.Proofs.YtjpgfgajkjhonaaGreatDoor
namespace Go.Proofs.YtjpgfgajkjhonaaGreatDoor
open Go.Vx
set_option maxRecDepth 100000
set_option maxHeartbeats 4000000
variable {keep:Bool} {vs:List V} {h:H} {K:Out→H→Prop}
noncomputable def s43:=sg (N:=43) Tryz.f43
noncomputable def s47:=sg (N:=47) Tryz.f47
noncomputable def s66:=sg (N:=66) Tryz.f66
noncomputable def s86:=sg (N:=86) Tryz.f86
noncomputable def s100:=sg (N:=100) Tryz.f100
noncomputable def s101:=sg (N:=101) Tryz.f101
noncomputable def s102:=sg (N:=102) Tryz.f102
noncomputable def s130:=sg (N:=130) Tryz.f130
noncomputable def s139:=sg (N:=139) Tryz.f139
noncomputable def s140:=sg (N:=140) Tryz.f140
noncomputable def s194:=sg (N:=194) Tryz.f194
noncomputable def s211:=sg (N:=211) Tryz.f211
noncomputable def s324:=sg (N:=324) Tryz.f324
end Go.Proofs.YtjpgfgajkjhonaaGreatDoor
namespace Go.Proofs.YtjpgfgajkjhonaaGreatDoor
open Go.Vx
set_option maxRecDepth 100000
set_option maxHeartbeats 4000000
variable {keep:Bool} {vs:List V} {h:H} {K:Out→H→Prop}
noncomputable def s11:=sg (N:=11) Tryz.f11
noncomputable def s15:=sg (N:=15) Tryz.f15
noncomputable def s22:=sg (N:=22) Tryz.f22
noncomputable def s30:=sg (N:=30) Tryz.f30
noncomputable def s33:=sg (N:=33) Tryz.f33
noncomputable def s40:=sg (N:=40) Tryz.f40
noncomputable def s41:=sg (N:=41) Tryz.f41
noncomputable def s49:=sg (N:=49) Tryz.f49
noncomputable def s58:=sg (N:=58) Tryz.f58
noncomputable def s59:=sg (N:=59) Tryz.f59
noncomputable def s68:=sg (N:=68) Tryz.f68
noncomputable def s70:=sg (N:=70) Tryz.f70
noncomputable def s85:=sg (N:=85) Tryz.f85
noncomputable def s104:=sg (N:=104) Tryz.f104
noncomputable def s110:=sg (N:=110) Tryz.f110
noncomputable def s235:=sg (N:=235) Tryz.f235
noncomputable def s242:=sg (N:=242) Tryz.f242
noncomputable def s246:=sg (N:=246) Tryz.f246
noncomputable def s248:=sg (N:=248) Tryz.f248
noncomputable def s254:=sg (N:=254) Tryz.f254
noncomputable def s255:=sg (N:=255) Tryz.f255
noncomputable def s257:=sg (N:=257) Tryz.f257
noncomputable def s282:=sg (N:=282) Tryz.f282
noncomputable def s283:=sg (N:=283) Tryz.f283
noncomputable def s284:=sg (N:=284) Tryz.f284
noncomputable def s285:=sg (N:=285) Tryz.f285
noncomputable def s286:=sg (N:=286) Tryz.f286
noncomputable def s287:=sg (N:=287) Tryz.f287
noncomputable def s288:=sg (N:=288) Tryz.f288
noncomputable def s289:=sg (N:=289) Tryz.f289
noncomputable def s290:=sg (N:=290) Tryz.f290
noncomputable def s291:=sg (N:=291) Tryz.f291
noncomputable def s292:=sg (N:=292) Tryz.f292
noncomputable def s293:=sg (N:=293) Tryz.f293
noncomputable def s294:=sg (N:=294) Tryz.f294
noncomputable def s295:=sg (N:=295) Tryz.f295
noncomputable def s321:=sg (N:=321) Tryz.f321
noncomputable def s322:=sg (N:=322) Tryz.f322
noncomputable def s325:=sg (N:=325) Tryz.f325
end Go.Proofs.YtjpgfgajkjhonaaGreatDoor
namespace Go.Proofs.YtjpgfgajkjhonaaGreatDoor
open Go.Vx
set_option maxRecDepth 100000
set_option maxHeartbeats 4000000
variable {keep:Bool} {vs:List V} {h:H} {K:Out→H→Prop}
def c14:C:=.seq (.ed [iS 5 (.bx (.s 2)),iS 6 (.mv (.k iz))]) (.seq (.seq (.ed [iM 12 1,iS 13 (.cf 43 [.s 12]),iS 14 (.un .not (.s 13)),iM 15 14,iG 16 (.fa (.s 5) 0) 15 false,iG 17 (.ld (.s 16) none) 15 false,iG 18 (.bin .lss (.s 17) (.k (.d (.int .i64 3)))) 15 false,iS 19 (.pk (.s 15) (.k (.d (.bool true))) (.s 18)),iM 20 19,iG 21 (.fa (.s 5) 0) 20 false,iG 22 (.ld (.s 21) none) 20 false,iG 23 (.bin .gtr (.s 22) (.k (.d (.int .i64 7)))) 20 false,iS 24 (.pk (.s 20) (.k (.d (.bool true))) (.s 23)),iM 25 24,iG 26 (.fa (.s 5) 1) 25 false,iG 27 (.ld (.s 26) (some 2)) 25 false,iG 28 (.cf 44 [.s 27]) 25 false,iG 29 (.un .not (.s 28)) 25 false,iS 30 (.pk (.s 25) (.k (.d (.bool true))) (.s 29))]) (.cond (.s 30) (.seq (.ed [iS 6 (.mv (.k (.d (.int .i64 1))))]) (.ret)) (.skip))) (.seq (.seq (.ed [iM 32 0,iC 33 32,iF 34 33 0,iL 35 34,iM 36 1,iS 37 (.ml (.s 35) (.s 36) [2] (.ag [iz,sz,sz,iz,iz,sz,sz,sz,.d (.bool false),.d (.bool false),.d (.bool false),iz,iz,sz,sz,sz,.nl 7,iz,.d (.int .u8 0)]) true),iM 31 37,iS 38 (.ex (.s 31) 0),iS 39 (.ex (.s 31) 1),iS 7 (.al [iz,sz,sz,iz,iz,sz,sz,sz,.d (.bool false),.d (.bool false),.d (.bool false),iz,iz,sz,sz,sz,.nl 7,iz,.d (.int .u8 0)]),iN (.st (.s 7) (.s 38) 19),iM 8 39]) (.seq (.ed [iM 40 8]) (.cond (.s 40) (.seq (.ed [iS 6 (.mv (.k (.d (.int .i64 12))))]) (.ret)) (.skip)))) (.seq (.wv [(iM 41 0,[]),(iC 42 41,[0]),(iF 43 42 0,[1,0]),(iL 44 43,[2,1,0]),(iM 45 1,[]),(iD 46 5 19,[]),(iS 47 (.cf 45 [.s 46]),[5])] [iN (.mu (.s 44) (.s 45) (.s 47) [2])]) (.seq (.wv [(iM 48 0,[]),(iC 49 48,[0]),(iF 50 49 1,[1,0]),(iL 51 50,[2,1,0]),(iF 52 5 1,[]),(iD 53 52 2,[4])] [iS 54 (.ml (.s 51) (.s 53) [9] (.nl 1) false),iM 9 54]) (.seq (.ed [iM 56 9,iM 57 1,iS 58 (.cf 46 [.s 56,.s 57,.k (.d (.fn 47))]),iM 55 58,iS 59 (.ex (.s 55) 0),iS 60 (.ex (.s 55) 1),iM 10 59,iM 11 60]) (.seq (.wv [(iM 61 0,[]),(iC 62 61,[0]),(iF 63 62 1,[1,0]),(iL 64 63,[2,1,0]),(iF 65 5 1,[]),(iD 66 65 2,[4]),(iM 67 9,[]),(iM 68 10,[]),(iM 69 1,[]),(iS 70 (.bs 1 [sz] 1 [(0,.s 69)]),[8]),(iS 71 (.cf 48 [.s 67,.s 68,.s 70]),[6,7,9,8])] [iN (.mu (.s 64) (.s 66) (.s 71) [9])]) (.seq (.ed [iS 6 (.mv (.k iz))]) (.ret))))))))
noncomputable def s14:=sf (N:=14) (n:=72) (c:=c14) (r:=[.s 6]) Tryz.f14
noncomputable def s16:=sg (N:=16) Tryz.f16
def c18:C:=.seq (.ed [iS 0 (.mv (.k (.d (.np))))]) (.seq (.ed [iS 1 (.mm 1),iS 2 (.mm 3),iS 3 (.bd [.d (.nm),.d (.nm)] [(0,1,.s 1),(1,1,.s 2)]),iS 4 (.bx (.s 3)),iM 0 4]) (.ret))
noncomputable def s18:=sf (N:=18) (n:=5) (c:=c18) (r:=[.s 0]) Tryz.f18
noncomputable def s45:=sg (N:=45) Tryz.f45
noncomputable def s46:=sg (N:=46) Tryz.f46
def c111:C:=.seq (.ed [iS 5 (.bx (.s 2)),iS 6 (.mv (.k iz))]) (.seq (.ed [iM 10 0,iC 11 10,iF 12 11 0,iL 13 12,iM 14 1,iS 15 (.ml (.s 13) (.s 14) [2] (.ag [iz,sz,sz,iz,iz,sz,sz,sz,.d (.bool false),.d (.bool false),.d (.bool false),iz,iz,sz,sz,sz,.nl 7,iz,.d (.int .u8 0)]) true),iM 9 15,iS 16 (.ex (.s 9) 0),iS 17 (.ex (.s 9) 1),iS 7 (.al [iz,sz,sz,iz,iz,sz,sz,sz,.d (.bool false),.d (.bool false),.d (.bool false),iz,iz,sz,sz,sz,.nl 7,iz,.d (.int .u8 0)]),iN (.st (.s 7) (.s 16) 19),iM 8 17]) (.seq (.seq (.ed [iM 18 8,iS 19 (.un .not (.s 18))]) (.cond (.s 19) (.seq (.ed [iS 6 (.mv (.k (.d (.int .i64 10))))]) (.ret)) (.skip))) (.seq (.seq (.ed [iF 20 7 0,iL 21 20,iF 22 5 0,iL 23 22,iS 24 (.bin .neq (.s 21) (.s 23)),iM 25 24,iG 26 (.fa (.s 7) 1) 25 false,iG 27 (.ld (.s 26) (some 2)) 25 false,iG 28 (.fa (.s 5) 1) 25 false,iG 29 (.ld (.s 28) (some 2)) 25 false,iG 30 (.eq true true [2,2] (.s 27) (.s 29)) 25 false,iS 31 (.pk (.s 25) (.k (.d (.bool true))) (.s 30))]) (.cond (.s 31) (.seq (.ed [iS 6 (.mv (.k (.d (.int .i64 11))))]) (.ret)) (.skip))) (.seq (.wv [(iM 32 0,[]),(iC 33 32,[0]),(iF 34 33 0,[1,0]),(iL 35 34,[2,1,0]),(iM 36 1,[]),(iD 37 5 19,[]),(iS 38 (.cf 45 [.s 37]),[5])] [iN (.mu (.s 35) (.s 36) (.s 38) [2])]) (.seq (.ed [iS 6 (.mv (.k iz))]) (.ret))))))
noncomputable def s111:=sf (N:=111) (n:=39) (c:=c111) (r:=[.s 6]) Tryz.f111
end Go.Proofs.YtjpgfgajkjhonaaGreatDoor
namespace Go.Proofs.YtjpgfgajkjhonaaGreatDoor
open Go.Vx
set_option maxRecDepth 100000
set_option maxHeartbeats 4000000
variable {keep:Bool} {vs:List V} {h:H} {K:Out→H→Prop}
noncomputable def s12:=sg (N:=12) Tryz.f12
noncomputable def s34:=sg (N:=34) Tryz.f34
noncomputable def s36:=sg (N:=36) Tryz.f36
noncomputable def s72:=sg (N:=72) Tryz.f72
noncomputable def s73:=sg (N:=73) Tryz.f73
noncomputable def s75:=sg (N:=75) Tryz.f75
noncomputable def s116:=sg (N:=116) Tryz.f116
noncomputable def s170:=sg (N:=170) Tryz.f170
noncomputable def s171:=sg (N:=171) Tryz.f171
noncomputable def s172:=sg (N:=172) Tryz.f172
noncomputable def s173:=sg (N:=173) Tryz.f173
noncomputable def s174:=sg (N:=174) Tryz.f174
noncomputable def s175:=sg (N:=175) Tryz.f175
noncomputable def s176:=sg (N:=176) Tryz.f176
noncomputable def s177:=sg (N:=177) Tryz.f177
noncomputable def s178:=sg (N:=178) Tryz.f178
noncomputable def s179:=sg (N:=179) Tryz.f179
noncomputable def s180:=sg (N:=180) Tryz.f180
noncomputable def s181:=sg (N:=181) Tryz.f181
noncomputable def s182:=sg (N:=182) Tryz.f182
noncomputable def s183:=sg (N:=183) Tryz.f183
noncomputable def s184:=sg (N:=184) Tryz.f184
noncomputable def s185:=sg (N:=185) Tryz.f185
noncomputable def s186:=sg (N:=186) Tryz.f186
noncomputable def s187:=sg (N:=187) Tryz.f187
noncomputable def s188:=sg (N:=188) Tryz.f188
noncomputable def s189:=sg (N:=189) Tryz.f189
noncomputable def s232:=sg (N:=232) Tryz.f232
noncomputable def s233:=sg (N:=233) Tryz.f233
noncomputable def s234:=sg (N:=234) Tryz.f234
noncomputable def s236:=sg (N:=236) Tryz.f236
noncomputable def s237:=sg (N:=237) Tryz.f237
noncomputable def s238:=sg (N:=238) Tryz.f238
noncomputable def s239:=sg (N:=239) Tryz.f239
noncomputable def s240:=sg (N:=240) Tryz.f240
noncomputable def s241:=sg (N:=241) Tryz.f241
def c243:C:=.seq (.ed [iS 3 (.bx (.s 1)),iS 4 (.al [iz,sz,sz,iz,iz,sz,sz,sz,.d (.bool false),.d (.bool false),.d (.bool false),iz,iz,sz,sz,sz,.nl 7,iz,.d (.int .u8 0)]),iS 5 (.mv (.k (.d (.bool false))))]) (.seq (.wv [(iM 9 0,[]),(iC 10 9,[0]),(iF 11 10 2,[1,0]),(iL 12 11,[2,1,0]),(iF 13 3 2,[]),(iL 14 13,[4]),(iS 15 (.cf 16 [.s 12,.s 14]),[3,5,2,1,0,4]),(iM 8 15,[6,3,5,2,1,0,4]),(iS 16 (.ex (.s 8) 0),[7,6,3,5,2,1,0,4]),(iS 17 (.ex (.s 8) 1),[7,6,3,5,2,1,0,4]),(iS 6 (.al [iz,sz,sz,iz,iz,sz,sz,sz,.d (.bool false),.d (.bool false),.d (.bool false),iz,iz,sz,sz,sz,.nl 7,iz,.d (.int .u8 0)]),[]),(iN (.st (.s 6) (.s 16) 19),[8,10,7,6,3,5,2,1,0,4])] [iM 7 17]) (.seq (.seq (.ed [iM 18 7,iS 19 (.un .not (.s 18)),iM 20 19,iG 21 (.fa (.s 6) 0) 20 false,iG 22 (.ld (.s 21) none) 20 false,iG 23 (.fa (.s 3) 0) 20 false,iG 24 (.ld (.s 23) none) 20 false,iG 25 (.bin .neq (.s 22) (.s 24)) 20 false,iS 26 (.pk (.s 20) (.k (.d (.bool true))) (.s 25)),iM 27 26,iG 28 (.fa (.s 6) 1) 27 false,iG 29 (.ld (.s 28) (some 2)) 27 false,iG 30 (.fa (.s 3) 3) 27 false,iG 31 (.ld (.s 30) (some 2)) 27 false,iG 32 (.eq true true [2,2] (.s 29) (.s 31)) 27 false,iS 33 (.pk (.s 27) (.k (.d (.bool true))) (.s 32))]) (.cond (.s 33) (.seq (.ed [iS 34 (.bd [iz,sz,sz,iz,iz,sz,sz,sz,.d (.bool false),.d (.bool false),.d (.bool false),iz,iz,sz,sz,sz,.nl 7,iz,.d (.int .u8 0)] []),iN (.st (.s 4) (.s 34) 19),iS 5 (.mv (.k (.d (.bool false))))]) (.ret)) (.skip))) (.seq (.ed [iD 35 6 19,iN (.st (.s 4) (.s 35) 19),iS 5 (.mv (.k (.d (.bool true))))]) (.ret))))
noncomputable def s243:=sf (N:=243) (n:=36) (c:=c243) (r:=[.c 4 (some 19),.s 5]) Tryz.f243
noncomputable def s244:=sg (N:=244) Tryz.f244
noncomputable def s245:=sg (N:=245) Tryz.f245
noncomputable def s247:=sg (N:=247) Tryz.f247
noncomputable def s249:=sg (N:=249) Tryz.f249
noncomputable def s250:=sg (N:=250) Tryz.f250
noncomputable def s251:=sg (N:=251) Tryz.f251
noncomputable def s252:=sg (N:=252) Tryz.f252
noncomputable def s253:=sg (N:=253) Tryz.f253
noncomputable def s256:=sg (N:=256) Tryz.f256
noncomputable def s258:=sg (N:=258) Tryz.f258
end Go.Proofs.YtjpgfgajkjhonaaGreatDoor
namespace Go.Proofs.YtjpgfgajkjhonaaGreatDoor
open Go.Vx
set_option maxRecDepth 100000
set_option maxHeartbeats 4000000
variable {keep:Bool} {vs:List V} {h:H} {K:Out→H→Prop}
end Go.Proofs.YtjpgfgajkjhonaaGreatDoor
namespace Go.Proofs.YtjpgfgajkjhonaaGreatDoor
open Go.Vx
set_option maxRecDepth 100000
set_option maxHeartbeats 4000000
variable {keep:Bool} {vs:List V} {h:H} {K:Out→H→Prop}
def c3:C:=.seq (.ed [iS 6 (.bx (.s 2)),iS 8 (.mv (.k (.d (.bool false))))]) (.seq (.ed [iS 18 (.cf 9 []),iM 9 18]) (.seq (.seq (.ed [iM 19 9,iS 20 (.un .not (.s 19))]) (.cond (.s 20) (.seq (.ed [iS 8 (.mv (.k (.d (.bool false))))]) (.ret)) (.skip))) (.seq (.ed [iM 21 0,iM 22 1,iD 23 6 6,iS 24 (.cf 10 [.s 21,.s 22,.s 23,.k (.d (.bool false))]),iM 10 24]) (.seq (.ed [iS 11 (.mv (.k (.d (.bool false))))]) (.seq (.seq (.ed [iS 12 (.mv (.k iz))]) (.block 0 (.loop (.seq (.seq (.ed [iM 25 12,iM 26 3,iS 27 (.bin .rem (.s 26) (.k (.d (.int .u8 64)))),iS 28 (.cv .i64 (.s 27)),iS 29 (.bin .lss (.s 25) (.s 28))]) (.cond (.s 29) (.skip) (.exit 0))) (.seq (.block 1 (.seq (.ed [iM 32 10,iC 33 32,iF 34 33 3,iD 35 34 20,iM 36 12,iS 37 (.cf 11 [.s 35,.s 36]),iS 38 (.bin .geq (.s 37) (.k iz)),iM 13 38]) (.seq (.ed [iM 39 10,iC 40 39,iF 41 40 3,iD 42 41 20,iS 14 (.al [sz,sz,sz,sz,sz,sz,.nl 5,.nl 5,.nl 3,.nl 14,iz,iz,iz,sz,iz,iz,sz,sz,sz,.d (.bool false)]),iN (.st (.s 14) (.s 42) 20)]) (.seq (.ed [iM 43 10,iM 44 12,iS 45 (.cf 12 [.s 43,.s 44]),iS 15 (.al [.nl 20,.nl 7,.nl 6,.nl 2,.d (.bool false)]),iN (.st (.s 15) (.s 45) 5)]) (.seq (.ed [iM 46 11,iM 47 46,iG 48 (.fa (.s 15) 2) 47 false,iG 49 (.ld (.s 48) none) 47 false,iG 50 (.ln (.s 49)) 47 false,iG 51 (.bin .gtr (.s 50) (.k iz)) 47 false,iS 52 (.pk (.s 47) (.k (.d (.bool true))) (.s 51)),iM 11 52]) (.seq (.wv [(iF 53 14 2,[]),(iF 54 53 0,[0]),(iD 55 54 2,[1,0]),(iM 56 10,[]),(iC 57 56,[3]),(iF 58 57 3,[4,3]),(iF 59 58 2,[5,4,3]),(iF 60 59 0,[6,5,4,3]),(iD 61 60 2,[7,6,5,4,3]),(iS 62 (.cf 13 [.s 55,.s 61]),[2,8,1,0,7,6,5,4,3]),(iS 63 (.un .not (.s 62)),[9,2,8,1,0,7,6,5,4,3]),(iM 64 63,[10,9,2,8,1,0,7,6,5,4,3]),(iG 65 (.mv (.s 10)) 64 false,[11,10,9,2,8,1,0,7,6,5,4,3]),(iG 66 (.nc (.s 65)) 64 false,[12,11,10,9,2,8,1,0,7,6,5,4,3]),(iG 67 (.fa (.s 66) 3) 64 false,[13,12,11,10,9,2,8,1,0,7,6,5,4,3]),(iG 68 (.fa (.s 67) 2) 64 false,[14,13,12,11,10,9,2,8,1,0,7,6,5,4,3]),(iG 69 (.fa (.s 68) 2) 64 false,[15,14,13,12,11,10,9,2,8,1,0,7,6,5,4,3]),(iG 70 (.ld (.s 69) (some 2)) 64 false,[16,15,14,13,12,11,10,9,2,8,1,0,7,6,5,4,3]),(iG 71 (.fa (.s 14) 2) 64 false,[11,10,9,2,8,1,0,7,6,5,4,3]),(iG 72 (.fa (.s 71) 2) 64 false,[18,11,10,9,2,8,1,0,7,6,5,4,3]),(iG 73 (.ld (.s 72) (some 2)) 64 false,[19,18,11,10,9,2,8,1,0,7,6,5,4,3]),(iG 74 (.cf 13 [.s 70,.s 73]) 64 false,[17,20,16,15,14,13,12,19,18,11,10,9,2,8,1,0,7,6,5,4,3]),(iG 75 (.un .not (.s 74)) 64 false,[21,17,20,16,15,14,13,12,19,18,11,10,9,2,8,1,0,7,6,5,4,3]),(iG 76 (.mv (.s 75)) 64 false,[22,21,17,20,16,15,14,13,12,19,18,11,10,9,2,8,1,0,7,6,5,4,3]),(iG 77 (.mv (.s 10)) 76 true,[23,22,21,17,20,16,15,14,13,12,19,18,11,10,9,2,8,1,0,7,6,5,4,3]),(iG 78 (.nc (.s 77)) 76 true,[24,23,22,21,17,20,16,15,14,13,12,19,18,11,10,9,2,8,1,0,7,6,5,4,3]),(iG 79 (.fa (.s 78) 3) 76 true,[25,24,23,22,21,17,20,16,15,14,13,12,19,18,11,10,9,2,8,1,0,7,6,5,4,3]),(iG 80 (.fa (.s 79) 9) 76 true,[26,25,24,23,22,21,17,20,16,15,14,13,12,19,18,11,10,9,2,8,1,0,7,6,5,4,3]),(iG 81 (.ld (.s 80) none) 76 true,[27,26,25,24,23,22,21,17,20,16,15,14,13,12,19,18,11,10,9,2,8,1,0,7,6,5,4,3]),(iG 82 (.ln (.s 81)) 76 true,[28,27,26,25,24,23,22,21,17,20,16,15,14,13,12,19,18,11,10,9,2,8,1,0,7,6,5,4,3]),(iG 83 (.fa (.s 14) 9) 76 true,[23,22,21,17,20,16,15,14,13,12,19,18,11,10,9,2,8,1,0,7,6,5,4,3]),(iG 84 (.ld (.s 83) none) 76 true,[30,23,22,21,17,20,16,15,14,13,12,19,18,11,10,9,2,8,1,0,7,6,5,4,3]),(iG 85 (.ln (.s 84)) 76 true,[31,30,23,22,21,17,20,16,15,14,13,12,19,18,11,10,9,2,8,1,0,7,6,5,4,3])] [iG 86 (.bin .leq (.s 82) (.s 85)) 76 true,iG 87 (.pk (.s 76) (.s 86) (.k (.d (.bool false)))) 64 false,iS 88 (.pk (.s 64) (.k (.d (.bool true))) (.s 87)),iM 16 88]) (.seq (.seq (.ed [iM 89 13,iS 90 (.un .not (.s 89)),iM 91 90,iG 92 (.mv (.s 16)) 91 true,iS 93 (.pk (.s 91) (.s 92) (.k (.d (.bool false)))),iM 94 93,iG 95 (.fa (.s 15) 2) 94 true,iG 96 (.ld (.s 95) none) 94 true,iG 97 (.ln (.s 96)) 94 true,iG 98 (.bin .eql (.s 97) (.k iz)) 94 true,iS 99 (.pk (.s 94) (.s 98) (.k (.d (.bool false))))]) (.cond (.s 99) (.seq (.ed [iS 8 (.mv (.k (.d (.bool false))))]) (.ret)) (.skip))) (.seq (.ed [iS 17 (.mv (.k iz))]) (.block 2 (.loop (.seq (.seq (.ed [iM 100 17,iM 101 10,iC 102 101,iF 103 102 3,iF 104 103 9,iL 105 104,iS 106 (.ln (.s 105)),iS 107 (.bin .lss (.s 100) (.s 106)),iM 108 107,iG 109 (.mv (.s 11)) 108 true,iG 110 (.un .not (.s 109)) 108 true,iS 111 (.pk (.s 108) (.s 110) (.k (.d (.bool false))))]) (.cond (.s 111) (.skip) (.exit 2))) (.seq (.block 3 (.seq (.wv [(iM 114 10,[]),(iC 115 114,[0]),(iF 116 115 3,[1,0]),(iF 117 116 2,[2,1,0]),(iF 118 117 0,[3,2,1,0]),(iD 119 118 2,[4,3,2,1,0]),(iM 120 10,[]),(iC 121 120,[6]),(iF 122 121 3,[7,6]),(iF 123 122 9,[8,7,6]),(iL 124 123,[9,8,7,6]),(iM 125 17,[]),(iS 126 (.ia (.s 124) (.s 125) 14),[10,11,9,8,7,6]),(iF 127 126 1,[12,10,11,9,8,7,6]),(iD 128 127 2,[13,12,10,11,9,8,7,6]),(iS 129 (.cf 13 [.s 119,.s 128]),[5,14,4,3,2,1,0,13,12,10,11,9,8,7,6]),(iS 130 (.un .not (.s 129)),[15,5,14,4,3,2,1,0,13,12,10,11,9,8,7,6]),(iM 131 130,[16,15,5,14,4,3,2,1,0,13,12,10,11,9,8,7,6]),(iG 132 (.mv (.s 10)) 131 false,[17,16,15,5,14,4,3,2,1,0,13,12,10,11,9,8,7,6]),(iG 133 (.nc (.s 132)) 131 false,[18,17,16,15,5,14,4,3,2,1,0,13,12,10,11,9,8,7,6]),(iG 134 (.fa (.s 133) 3) 131 false,[19,18,17,16,15,5,14,4,3,2,1,0,13,12,10,11,9,8,7,6]),(iG 135 (.fa (.s 134) 9) 131 false,[20,19,18,17,16,15,5,14,4,3,2,1,0,13,12,10,11,9,8,7,6]),(iG 136 (.ld (.s 135) none) 131 false,[21,20,19,18,17,16,15,5,14,4,3,2,1,0,13,12,10,11,9,8,7,6]),(iG 137 (.mv (.s 17)) 131 false,[17,16,15,5,14,4,3,2,1,0,13,12,10,11,9,8,7,6]),(iG 138 (.ia (.s 136) (.s 137) 14) 131 false,[22,23,21,20,19,18,17,16,15,5,14,4,3,2,1,0,13,12,10,11,9,8,7,6]),(iG 139 (.fa (.s 138) 7) 131 false,[24,22,23,21,20,19,18,17,16,15,5,14,4,3,2,1,0,13,12,10,11,9,8,7,6]),(iG 140 (.fa (.s 139) 0) 131 false,[25,24,22,23,21,20,19,18,17,16,15,5,14,4,3,2,1,0,13,12,10,11,9,8,7,6]),(iG 141 (.ld (.s 140) (some 2)) 131 false,[26,25,24,22,23,21,20,19,18,17,16,15,5,14,4,3,2,1,0,13,12,10,11,9,8,7,6]),(iG 142 (.mv (.s 10)) 131 false,[17,16,15,5,14,4,3,2,1,0,13,12,10,11,9,8,7,6]),(iG 143 (.nc (.s 142)) 131 false,[28,17,16,15,5,14,4,3,2,1,0,13,12,10,11,9,8,7,6]),(iG 144 (.fa (.s 143) 3) 131 false,[29,28,17,16,15,5,14,4,3,2,1,0,13,12,10,11,9,8,7,6]),(iG 145 (.fa (.s 144) 2) 131 false,[30,29,28,17,16,15,5,14,4,3,2,1,0,13,12,10,11,9,8,7,6]),(iG 146 (.fa (.s 145) 0) 131 false,[31,30,29,28,17,16,15,5,14,4,3,2,1,0,13,12,10,11,9,8,7,6]),(iG 147 (.ld (.s 146) (some 2)) 131 false,[32,31,30,29,28,17,16,15,5,14,4,3,2,1,0,13,12,10,11,9,8,7,6])] [iG 148 (.cf 13 [.s 141,.s 147]) 131 false,iG 149 (.un .not (.s 148)) 131 false,iS 150 (.pk (.s 131) (.k (.d (.bool true))) (.s 149))]) (.cond (.s 150) (.seq (.ed [iS 8 (.mv (.k (.d (.bool false))))]) (.ret)) (.skip)))) (.ed [iM 112 17,iS 113 (.bin .add (.s 112) (.k (.d (.int .i64 1)))),iM 17 113]))))))))))))) (.ed [iM 30 12,iS 31 (.bin .add (.s 30) (.k (.d (.int .i64 1)))),iM 12 31])))))) (.seq (.ed [iM 151 9,iM 8 151]) (.ret)))))))
def c4:C:=.seq (.ed [iS 6 (.bx (.s 2)),iS 8 (.mv (.k (.d (.bool false))))]) (.seq (.ed [iS 17 (.cf 9 []),iM 9 17]) (.seq (.seq (.ed [iM 18 9,iS 19 (.un .not (.s 18))]) (.cond (.s 19) (.seq (.ed [iS 8 (.mv (.k (.d (.bool false))))]) (.ret)) (.skip))) (.seq (.ed [iM 20 0,iM 21 1,iD 22 6 6,iS 23 (.cf 10 [.s 20,.s 21,.s 22,.k (.d (.bool false))]),iM 10 23]) (.seq (.wv [(iM 24 10,[]),(iC 25 24,[0]),(iF 26 25 2,[1,0]),(iL 27 26,[2,1,0]),(iM 28 10,[]),(iC 29 28,[4]),(iF 30 29 3,[5,4]),(iF 31 30 2,[6,5,4]),(iF 32 31 2,[7,6,5,4]),(iD 33 32 2,[8,7,6,5,4]),(iS 34 (.bd [iz,sz,sz,iz,iz,sz,sz,sz,.d (.bool false),.d (.bool false),.d (.bool false),iz,iz,sz,sz,sz,.nl 7,iz,.d (.int .u8 0)] [(0,1,.k (.d (.int .i64 6))),(1,2,.s 33)]),[9,8,7,6,5,4])] [iS 35 (.cf 14 [.s 27,.k (.d (.str [51])),.s 34])]) (.seq (.ed [iS 11 (.mv (.k iz))]) (.seq (.seq (.ed [iS 12 (.mv (.k iz))]) (.block 0 (.loop (.seq (.seq (.ed [iM 36 12,iM 37 3,iS 38 (.cv .i64 (.s 37)),iS 39 (.bin .add (.k (.d (.int .i64 64))) (.s 38)),iS 40 (.bin .lss (.s 36) (.s 39))]) (.cond (.s 40) (.skip) (.exit 0))) (.seq (.block 1 (.seq (.seq (.ed [iM 43 10,iC 44 43,iF 45 44 3,iF 46 45 12,iL 47 46,iS 48 (.bin .eql (.s 47) (.k (.d (.int .i64 1))))]) (.cond (.s 48) (.ed [iM 49 10,iM 50 10,iC 51 50,iF 52 51 3,iD 53 52 20,iS 54 (.bd [iz,iz,sz,sz,sz] [(0,1,.k (.d (.int .i64 1)))]),iS 55 (.bs 5 [iz,iz,sz,sz,sz] 1 [(0,.s 54)]),iS 56 (.cf 15 [.s 53,.s 55]),iC 57 49,iF 58 57 3,iN (.st (.s 58) (.s 56) 20)]) (.skip))) (.seq (.ed [iM 59 10,iM 60 12,iS 61 (.cf 12 [.s 59,.s 60]),iS 13 (.al [.nl 20,.nl 7,.nl 6,.nl 2,.d (.bool false)]),iN (.st (.s 13) (.s 61) 5)]) (.seq (.seq (.ed [iF 62 13 4,iL 63 62]) (.cond (.s 63) (.ed [iM 64 11,iS 65 (.bin .add (.s 64) (.k (.d (.int .i64 1)))),iM 11 65]) (.skip))) (.seq (.ed [iM 67 10,iC 68 67,iF 69 68 2,iL 70 69,iS 71 (.cf 16 [.s 70,.k (.d (.str [51]))]),iM 66 71,iS 72 (.ex (.s 66) 0),iS 73 (.ex (.s 66) 1),iS 14 (.al [iz,sz,sz,iz,iz,sz,sz,sz,.d (.bool false),.d (.bool false),.d (.bool false),iz,iz,sz,sz,sz,.nl 7,iz,.d (.int .u8 0)]),iN (.st (.s 14) (.s 72) 19),iM 15 73]) (.seq (.ed [iM 74 10,iC 75 74,iF 76 75 3,iF 77 76 12,iL 78 77,iS 79 (.bin .eql (.s 78) (.k (.d (.int .i64 3)))),iM 80 79,iG 81 (.mv (.s 10)) 80 false,iG 82 (.nc (.s 81)) 80 false,iG 83 (.fa (.s 82) 3) 80 false,iG 84 (.fa (.s 83) 12) 80 false,iG 85 (.ld (.s 84) none) 80 false,iG 86 (.bin .eql (.s 85) (.k (.d (.int .i64 4)))) 80 false,iS 87 (.pk (.s 80) (.k (.d (.bool true))) (.s 86)),iM 16 87]) (.seq (.wv [(iM 88 15,[]),(iS 89 (.un .not (.s 88)),[0]),(iM 90 89,[1,0]),(iG 91 (.mv (.s 16)) 90 false,[2,1,0]),(iG 92 (.fa (.s 14) 9) 90 false,[2,1,0]),(iG 93 (.ld (.s 92) none) 90 false,[4,2,1,0]),(iG 94 (.eq true false [1] (.s 91) (.s 93)) 90 false,[3,5,4,2,1,0]),(iS 95 (.pk (.s 90) (.k (.d (.bool true))) (.s 94)),[6,3,5,4,2,1,0]),(iM 96 95,[7,6,3,5,4,2,1,0]),(iG 97 (.mv (.s 16)) 96 false,[8,7,6,3,5,4,2,1,0]),(iG 98 (.mv (.s 11)) 96 false,[8,7,6,3,5,4,2,1,0]),(iG 99 (.bin .eql (.s 98) (.k (.d (.int .i64 1)))) 96 false,[10,8,7,6,3,5,4,2,1,0]),(iG 100 (.eq true false [1] (.s 97) (.s 99)) 96 false,[9,11,10,8,7,6,3,5,4,2,1,0]),(iS 101 (.pk (.s 96) (.k (.d (.bool true))) (.s 100)),[12,9,11,10,8,7,6,3,5,4,2,1,0]),(iM 102 101,[13,12,9,11,10,8,7,6,3,5,4,2,1,0]),(iG 103 (.mv (.s 11)) 102 false,[14,13,12,9,11,10,8,7,6,3,5,4,2,1,0]),(iG 104 (.bin .gtr (.s 103) (.k (.d (.int .i64 1)))) 102 false,[15,14,13,12,9,11,10,8,7,6,3,5,4,2,1,0]),(iS 105 (.pk (.s 102) (.k (.d (.bool true))) (.s 104)),[16,15,14,13,12,9,11,10,8,7,6,3,5,4,2,1,0]),(iM 106 105,[17,16,15,14,13,12,9,11,10,8,7,6,3,5,4,2,1,0]),(iG 107 (.mv (.s 16)) 106 false,[18,17,16,15,14,13,12,9,11,10,8,7,6,3,5,4,2,1,0]),(iG 108 (.mv (.s 107)) 106 false,[19,18,17,16,15,14,13,12,9,11,10,8,7,6,3,5,4,2,1,0]),(iG 109 (.fa (.s 14) 3) 108 true,[20,19,18,17,16,15,14,13,12,9,11,10,8,7,6,3,5,4,2,1,0]),(iG 110 (.ld (.s 109) (some 5)) 108 true,[21,20,19,18,17,16,15,14,13,12,9,11,10,8,7,6,3,5,4,2,1,0]),(iG 111 (.mv (.s 10)) 108 true,[20,19,18,17,16,15,14,13,12,9,11,10,8,7,6,3,5,4,2,1,0]),(iG 112 (.nc (.s 111)) 108 true,[23,20,19,18,17,16,15,14,13,12,9,11,10,8,7,6,3,5,4,2,1,0]),(iG 113 (.fa (.s 112) 3) 108 true,[24,23,20,19,18,17,16,15,14,13,12,9,11,10,8,7,6,3,5,4,2,1,0]),(iG 114 (.fa (.s 113) 14) 108 true,[25,24,23,20,19,18,17,16,15,14,13,12,9,11,10,8,7,6,3,5,4,2,1,0]),(iG 115 (.ld (.s 114) (some 5)) 108 true,[26,25,24,23,20,19,18,17,16,15,14,13,12,9,11,10,8,7,6,3,5,4,2,1,0]),(iG 116 (.eq true true [0,0,2,2,2] (.s 110) (.s 115)) 108 true,[22,27,21,26,25,24,23,20,19,18,17,16,15,14,13,12,9,11,10,8,7,6,3,5,4,2,1,0]),(iG 117 (.mv (.s 116)) 108 true,[28,22,27,21,26,25,24,23,20,19,18,17,16,15,14,13,12,9,11,10,8,7,6,3,5,4,2,1,0]),(iG 118 (.fa (.s 14) 8) 117 false,[29,28,22,27,21,26,25,24,23,20,19,18,17,16,15,14,13,12,9,11,10,8,7,6,3,5,4,2,1,0]),(iG 119 (.ld (.s 118) none) 117 false,[30,29,28,22,27,21,26,25,24,23,20,19,18,17,16,15,14,13,12,9,11,10,8,7,6,3,5,4,2,1,0]),(iG 120 (.mv (.s 10)) 117 false,[29,28,22,27,21,26,25,24,23,20,19,18,17,16,15,14,13,12,9,11,10,8,7,6,3,5,4,2,1,0]),(iG 121 (.nc (.s 120)) 117 false,[32,29,28,22,27,21,26,25,24,23,20,19,18,17,16,15,14,13,12,9,11,10,8,7,6,3,5,4,2,1,0]),(iG 122 (.fa (.s 121) 3) 117 false,[33,32,29,28,22,27,21,26,25,24,23,20,19,18,17,16,15,14,13,12,9,11,10,8,7,6,3,5,4,2,1,0]),(iG 123 (.fa (.s 122) 19) 117 false,[34,33,32,29,28,22,27,21,26,25,24,23,20,19,18,17,16,15,14,13,12,9,11,10,8,7,6,3,5,4,2,1,0]),(iG 124 (.ld (.s 123) none) 117 false,[35,34,33,32,29,28,22,27,21,26,25,24,23,20,19,18,17,16,15,14,13,12,9,11,10,8,7,6,3,5,4,2,1,0]),(iG 125 (.eq true false [1] (.s 119) (.s 124)) 117 false,[31,36,30,35,34,33,32,29,28,22,27,21,26,25,24,23,20,19,18,17,16,15,14,13,12,9,11,10,8,7,6,3,5,4,2,1,0]),(iG 126 (.pk (.s 117) (.k (.d (.bool true))) (.s 125)) 108 true,[37,31,36,30,35,34,33,32,29,28,22,27,21,26,25,24,23,20,19,18,17,16,15,14,13,12,9,11,10,8,7,6,3,5,4,2,1,0]),(iG 127 (.mv (.s 126)) 108 true,[38,37,31,36,30,35,34,33,32,29,28,22,27,21,26,25,24,23,20,19,18,17,16,15,14,13,12,9,11,10,8,7,6,3,5,4,2,1,0]),(iG 128 (.fa (.s 14) 8) 127 false,[39,38,37,31,36,30,35,34,33,32,29,28,22,27,21,26,25,24,23,20,19,18,17,16,15,14,13,12,9,11,10,8,7,6,3,5,4,2,1,0]),(iG 129 (.ld (.s 128) none) 127 false,[40,39,38,37,31,36,30,35,34,33,32,29,28,22,27,21,26,25,24,23,20,19,18,17,16,15,14,13,12,9,11,10,8,7,6,3,5,4,2,1,0]),(iG 130 (.mv (.s 10)) 127 false,[39,38,37,31,36,30,35,34,33,32,29,28,22,27,21,26,25,24,23,20,19,18,17,16,15,14,13,12,9,11,10,8,7,6,3,5,4,2,1,0]),(iG 131 (.nc (.s 130)) 127 false,[42,39,38,37,31,36,30,35,34,33,32,29,28,22,27,21,26,25,24,23,20,19,18,17,16,15,14,13,12,9,11,10,8,7,6,3,5,4,2,1,0]),(iG 132 (.fa (.s 131) 3) 127 false,[43,42,39,38,37,31,36,30,35,34,33,32,29,28,22,27,21,26,25,24,23,20,19,18,17,16,15,14,13,12,9,11,10,8,7,6,3,5,4,2,1,0]),(iG 133 (.fa (.s 132) 12) 127 false,[44,43,42,39,38,37,31,36,30,35,34,33,32,29,28,22,27,21,26,25,24,23,20,19,18,17,16,15,14,13,12,9,11,10,8,7,6,3,5,4,2,1,0]),(iG 134 (.ld (.s 133) none) 127 false,[45,44,43,42,39,38,37,31,36,30,35,34,33,32,29,28,22,27,21,26,25,24,23,20,19,18,17,16,15,14,13,12,9,11,10,8,7,6,3,5,4,2,1,0]),(iG 135 (.bin .eql (.s 134) (.k (.d (.int .i64 4)))) 127 false,[46,45,44,43,42,39,38,37,31,36,30,35,34,33,32,29,28,22,27,21,26,25,24,23,20,19,18,17,16,15,14,13,12,9,11,10,8,7,6,3,5,4,2,1,0])] [iG 136 (.eq true false [1] (.s 129) (.s 135)) 127 false,iG 137 (.pk (.s 127) (.k (.d (.bool true))) (.s 136)) 108 true,iG 138 (.pk (.s 108) (.s 137) (.k (.d (.bool false)))) 106 false,iS 139 (.pk (.s 106) (.k (.d (.bool true))) (.s 138))]) (.cond (.s 139) (.seq (.ed [iS 8 (.mv (.k (.d (.bool false))))]) (.ret)) (.skip))))))))) (.ed [iM 41 12,iS 42 (.bin .add (.s 41) (.k (.d (.int .i64 1)))),iM 12 42])))))) (.seq (.ed [iM 140 9,iM 8 140]) (.ret))))))))
noncomputable def s4:=sf (N:=4) (n:=141) (c:=c4) (r:=[.s 8]) Tryz.f4
noncomputable def s10:=sg (N:=10) Tryz.f10
noncomputable def s37:=sg (N:=37) Tryz.f37
noncomputable def s39:=sg (N:=39) Tryz.f39
noncomputable def s76:=sg (N:=76) Tryz.f76
noncomputable def s77:=sg (N:=77) Tryz.f77
noncomputable def s78:=sg (N:=78) Tryz.f78
noncomputable def s79:=sg (N:=79) Tryz.f79
noncomputable def s118:=sg (N:=118) Tryz.f118
def c119:C:=.seq (.ed [iS 1 (.bx (.s 0)),iS 2 (.mv (.k (.d (.bool false))))]) (.seq (.wv [(iD 3 1 2,[]),(iS 4 (.cf 191 [.s 3]),[0]),(iD 5 1 2,[])] [iS 6 (.eq false true [2,2] (.s 4) (.s 5)),iM 2 6]) (.ret))
noncomputable def s119:=sf (N:=119) (n:=7) (c:=c119) (r:=[.s 2]) Tryz.f119
noncomputable def s120:=sg (N:=120) Tryz.f120
noncomputable def s121:=sg (N:=121) Tryz.f121
noncomputable def s122:=sg (N:=122) Tryz.f122
noncomputable def s123:=sg (N:=123) Tryz.f123
noncomputable def s124:=sg (N:=124) Tryz.f124
noncomputable def s190:=sg (N:=190) Tryz.f190
noncomputable def s191:=sg (N:=191) Tryz.f191
noncomputable def s259:=sg (N:=259) Tryz.f259
noncomputable def s260:=sg (N:=260) Tryz.f260
noncomputable def s261:=sg (N:=261) Tryz.f261
noncomputable def s296:=sg (N:=296) Tryz.f296
noncomputable def s297:=sg (N:=297) Tryz.f297
noncomputable def s326:=sg (N:=326) Tryz.f326
noncomputable def s327:=sg (N:=327) Tryz.f327
end Go.Proofs.YtjpgfgajkjhonaaGreatDoor
namespace Go.Proofs.YtjpgfgajkjhonaaGreatDoor
open Go.Vx Go.RowKit Go.Shelf
set_option maxRecDepth 100000
attribute [local go_sem] Oper.semAt_some
theorem L8 {k n:Nat} (hm:n≤9223372036854775807) (h:k<n):wrap64 ((k:Int)+1)=k+1:=by unfold wrap64;omega
def BX (s:List UInt8):List (List D):=s.map λb=>[D.int .u8 b.toNat]
set_option maxHeartbeats 2000000 in
theorem AF (F:Fence) (n:Nat) (hf:F.fn 134) (hro:F.round=none) (hn:1≤n) (s:List UInt8) (hm:s.length≤9223372036854775807) (l b:Nat) (J:Nat→World→Prop) (Jx:World→Prop) (hcell:∀i W,J i W→W.cell? ⟨b,0,none⟩=some (.string ⟨s.toArray⟩))
    (hY:∀(i:Nat) (x:UInt8) (W1:World),s[i]? = some x→J i W1→YieldAt F (n - 1) Tryz.prog l #[.int .u8 x.toNat] W1 λe W2=>(e = .returned (.bool true)∧J (i+1) W2)∨(e = .returned (.bool false)∧Jx W2))
    (W:World) (h0:J 0 W):CallsIn F n Tryz.prog 134 #[.func (.yield l) #[] #[],.pointer (some ⟨b,0,none⟩)] W λe W'=>(∃v,e = .returned v)∧(J s.length W'∨Jx W'):=by
  have hc:=hcell 0 W h0
  refine callsIn_of_wp Tryz.func134 rfl hf ?_ hro
  simp only [Tryz.ntmps134,cm,aU,af,Nat.reduceAdd,Nat.reduceSub,Array.replicate_succ,Array.replicate_zero,List.push_toArray,List.append_toArray,List.nil_append,List.cons_append]
  gi_wp2
  gi_loopw [6] (λp wr=>∃k:Nat,k≤s.length∧p = .int .i64 k∧J k wr) (λp _=>s.length - (intOf p).toNat)
  case atStart=>exact ⟨0,ak _,rfl,h0⟩
  case round=>
    obtain ⟨k,hk,rfl,hJs⟩:=hrel
    have hcx:=hcell k wr hJs
    by_cases hlt:k<s.length
    · obtain ⟨fn,tmps,assign,body,hy,hR⟩:=hY k s[k] wr (by simp [hlt]) hJs
      have hkl:k<(ByteArray.mk s.toArray).size:=by simpa [ByteArray.size] using hlt
      rw [show s[k]=(ByteArray.mk s.toArray)[k] from rfl] at hy
      gi_wp2
      refine hR.mono ?_
      rintro e W3 (⟨rfl,hJ3⟩ | ⟨rfl,hJx3⟩)
      · have hw:=L8 hm hlt
        gi_wp2
        go_roundw
        case rel=>exact ⟨k+1,by omega,by simp,hJ3⟩
        case measure=>simp [intOf];omega
      · gi_wp2
        refine bodyPost_ret (results_none rfl _ _ _) rfl ?_
        exact ⟨⟨_,rfl⟩,.inr hJx3⟩
    · obtain rfl:k=s.length:=by omega
      gi_wp2
      go_end0
      exact ⟨⟨_,rfl⟩,.inl hJs⟩
theorem qo (s:List UInt8):yF Tryz.prog 134 [.p 0 0] [.cells [.d (.str s)]] (BX s):=by
 refine ⟨by kernel_rfl,?_⟩;intro ρ cv l J Jx hlen hJ hJx hrep hY W h0;obtain ⟨a0,rfl⟩:=eA.1 (show cv.length=1 from hlen);have hcell:∀i W,J i W→∃b,a0 = .pointer (some ⟨b,0,none⟩)∧W.cell? ⟨b,0,none⟩=some (.string ⟨s.toArray⟩)∧s.length≤maxLen:=by
  intro i W hj;obtain ⟨G,hR,hv⟩:=hrep i W hj;obtain ⟨b,e1,hρ⟩:=(hv 0 (.p 0 0) rfl).pt;obtain ⟨b',arr,ty,e2,h1,h2,h3⟩:=hR.rep 0 _ _ hρ rfl;cases e2;have h4:=h3 0 (.d (.str s)) rfl;have hlt:0<arr.size:=by rw [h2];simp
  have e5:arr.getD 0 undef=arr[0]:=by rw [aE,aI hlt];rfl
  rw [e5] at h4;refine ⟨b,e1,?_⟩;rw [dF h1,aI hlt];generalize arr[0]=u at h4;generalize hs:D.str s=ds at h4;cases h4 with
  |k h=>cases h with
   |d h=>cases h with
    |str sv hm=>
     cases hs;exact ⟨rfl,hm⟩
    |_=>cases hs
 obtain ⟨b,rfl,hc,hm⟩:=hcell 0 W h0;have hcell':∀i W,J i W→W.cell? ⟨b,0,none⟩=some (.string ⟨s.toArray⟩):=λi W hj=>by
  obtain ⟨b',e,h1,_⟩:=hcell i W hj;cases e;exact h1
 have h1:=AF (Fw none) 1 trivial rfl (aQ _) s hm l b J Jx hcell' (λi x W1 hx hj=>hY i [D.int .u8 x.toNat] W1 (by simp [BX,hx]) hj) W h0;rw [show (BX s).length=s.length by simp [BX]];exact sU (sB h1)
end Go.Proofs.YtjpgfgajkjhonaaGreatDoor
