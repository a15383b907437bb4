/- Lemmas. Conditions: none. -/
import Derived.Test.YtmigecldjbgneaaGreatDoorQKAV
import Derived.Test.YtmigecldjbgneaaGreatDoorQKAR
import Derived.Shelf.Strings.Builder1
import Derived.Shelf.Strings.Search3
import Derived.Shelf.Spec.SlicesInsertGrow
import Derived.Shelf.Strconv.ParseIntPublic10
import Derived.Shelf.Strconv.Itoa4
set_option maxHeartbeats 4000000
namespace Go.Proofs.YtmigecldjbgneaaGreatDoor
open Go.Vx
set_option maxRecDepth 100000
set_option maxHeartbeats 4000000
section
variable{keep:Bool}{vs:List V}{h:H}{K:KT}
def c3:C:=.seq (.dw [iS 3 (.bx (.s 0)),iS 6 (.mv (.k (.d (.bool false))))]) (.seq (.dw [iS 17 (.cf 4 []),iM 7 17]) (.seq (.seq (.dw [iM 18 7,iS 19 (.un .not (.s 18))]) (.cond (.s 19) (.seq (.dw [iS 6 (.mv (.k (.d (.bool false))))]) (.ret)) (.skip))) (.seq (.dw [iD 20 3 3,iS 21 (.cf 5 [.s 20,.k (.d (.bool false))]),iS 8 (.al [.nl 5,.nl 3,.nl 3,.nl 9]),iN (.st (.s 8) (.s 21) 4)]) (.seq (.dw [iM 22 2,iS 23 (.bin .rem (.s 22) (.k (.d (.int .u8 3)))),iS 24 (.cv .i64 (.s 23)),iM 9 24]) (.seq (.dw [iS 10 (.mv (.k (.d (.int .i64 1))))]) (.seq (.dw [iM 25 9,iM 11 25]) (.seq (.seq (.dw [iM 26 1,iS 27 (.bin .rem (.s 26) (.k (.d (.int .u8 9))))]) (.block 0 (.seq (.dw [iS 29 (.bin .eql (.s 27) (.k (.d (.int .u8 0)))),iM 28 29]) (.cond (.s 28) (.seq (.dw [iS 30 (.mk [.str [],.str [],.int .i64 0] 3 40 (.k (.d (.int .i64 9))) (.k (.d (.int .i64 9)))),iF 31 8 2,iN (.st (.s 31) (.s 30) 1)]) (.seq (.dw [iS 10 (.mv (.k (.d (.int .i64 3))))]) (.dw [iS 11 (.mv (.k iz))]))) (.seq (.dw [iS 33 (.bin .eql (.s 27) (.k (.d (.int .u8 1)))),iM 32 33]) (.cond (.s 32) (.seq (.dw [iF 34 8 3,iN (.st (.s 34) (.k (.nl 9)) 1)]) (.seq (.dw [iS 10 (.mv (.k (.d (.int .i64 3))))]) (.dw [iS 11 (.mv (.k iz))]))) (.seq (.dw [iS 36 (.bin .eql (.s 27) (.k (.d (.int .u8 2)))),iM 35 36]) (.cond (.s 35) (.seq (.dw [iF 37 8 2,iL 38 37,iM 39 9,iS 40 (.bin .rem (.s 39) (.k (.d (.int .i64 2)))),iS 41 (.bd [sz,sz] [(0,1,.k (.d (.str [2,1])))]),iS 42 (.ia (.s 38) (.s 40) 3),iF 43 42 0,iN (.st (.s 43) (.s 41) 2)]) (.dw [iM 44 9,iS 45 (.bin .rem (.s 44) (.k (.d (.int .i64 2)))),iM 11 45])) (.seq (.dw [iS 47 (.bin .eql (.s 27) (.k (.d (.int .u8 3)))),iM 46 47]) (.cond (.s 46) (.seq (.dw [iF 48 8 3,iL 49 48,iM 50 9,iS 51 (.ia (.s 49) (.s 50) 9),iF 52 51 0,iN (.st (.s 52) (.k (.d (.int .i64 3))) 1)]) (.dw [iS 10 (.mv (.k (.d (.int .i64 6))))])) (.seq (.dw [iS 54 (.bin .eql (.s 27) (.k (.d (.int .u8 4)))),iM 53 54]) (.cond (.s 53) (.seq (.dw [iF 55 8 3,iL 56 55,iM 57 9,iS 58 (.ia (.s 56) (.s 57) 9),iF 59 58 0,iN (.st (.s 59) (.k (.d (.int .i64 (-1)))) 1)]) (.dw [iS 10 (.mv (.k (.d (.int .i64 6))))])) (.seq (.dw [iS 61 (.bin .eql (.s 27) (.k (.d (.int .u8 5)))),iM 60 61]) (.cond (.s 60) (.dw [iF 62 8 3,iL 63 62,iM 64 9,iS 65 (.ia (.s 63) (.s 64) 9),iF 66 65 5,iN (.st (.s 66) (.k (.d (.int .u8 64))) 1)]) (.seq (.dw [iS 68 (.bin .eql (.s 27) (.k (.d (.int .u8 6)))),iM 67 68]) (.cond (.s 67) (.dw [iF 69 8 3,iL 70 69,iM 71 9,iS 72 (.ia (.s 70) (.s 71) 9),iF 73 72 6,iN (.st (.s 73) (.k (.d (.int .i64 1000))) 1)]) (.seq (.dw [iS 75 (.bin .eql (.s 27) (.k (.d (.int .u8 7)))),iM 74 75]) (.cond (.s 74) (.dw [iF 76 8 3,iL 77 76,iM 78 9,iS 79 (.ia (.s 77) (.s 78) 9),iF 80 79 7,iN (.st (.s 80) (.k (.d (.int .i64 2))) 1)]) (.seq (.dw [iS 82 (.bin .eql (.s 27) (.k (.d (.int .u8 8)))),iM 81 82]) (.cond (.s 81) (.seq (.y_ [(iF 83 8 3,[]),(iL 84 83,[0]),(iM 85 9,[]),(iS 86 (.cf 6 []),[])] [iS 87 (.ia (.s 84) (.s 85) 9),iF 88 87 1,iN (.st (.s 88) (.s 86) 2)]) (.seq (.y_ [(iF 89 8 3,[]),(iL 90 89,[0]),(iM 91 9,[]),(iS 92 (.cf 7 []),[])] [iS 93 (.ia (.s 90) (.s 91) 9),iF 94 93 3,iN (.st (.s 94) (.s 92) 2)]) (.dw [iS 10 (.mv (.k (.d (.int .i64 13))))]))) (.skip))))))))))))))))))))) (.seq (.dw [iD 96 8 4,iS 97 (.cf 8 [.s 96]),iM 95 97,iS 98 (.ex (.s 95) 0),iS 99 (.ex (.s 95) 1),iS 100 (.ex (.s 95) 2),iM 12 98,iM 13 99,iM 14 100]) (.seq (.dw [iD 102 8 4,iS 103 (.cf 9 [.s 102]),iM 101 103,iS 104 (.ex (.s 101) 0),iS 105 (.ex (.s 101) 1),iM 15 104,iM 16 105]) (.seq (.dw [iM 106 7,iM 107 106,iG 108 (.mv (.s 12)) 107 true,iG 109 (.pu (.pq false) (.s 108)) 107 true,iS 110 (.pk (.s 107) (.s 109) (.k (.d (.bool false)))),iM 111 110,iG 112 (.mv (.s 13)) 111 true,iG 113 (.mv (.s 11)) 111 true,iG 114 (.bin .eql (.s 112) (.s 113)) 111 true,iS 115 (.pk (.s 111) (.s 114) (.k (.d (.bool false)))),iM 116 115,iG 117 (.mv (.s 14)) 116 true,iG 118 (.mv (.s 10)) 116 true,iG 119 (.bin .eql (.s 117) (.s 118)) 116 true,iS 120 (.pk (.s 116) (.s 119) (.k (.d (.bool false)))),iM 121 120,iG 122 (.mv (.s 15)) 121 true,iG 123 (.mv (.s 11)) 121 true,iG 124 (.bin .eql (.s 122) (.s 123)) 121 true,iS 125 (.pk (.s 121) (.s 124) (.k (.d (.bool false)))),iM 126 125,iG 127 (.mv (.s 16)) 126 true,iG 128 (.mv (.s 10)) 126 true,iG 129 (.bin .eql (.s 127) (.s 128)) 126 true,iS 130 (.pk (.s 126) (.s 129) (.k (.d (.bool false)))),iM 6 130]) (.ret)))))))))))
noncomputable def s3:=sf (N:=3) (n:=131) (c:=c3) (r:=[.s 6]) Tryz.f3
end
structure Bx where
  l:Lb
  v:Int
structure Bo where
  fu:Int
  l:Lb
  c:Lb
  ma:Int
  ro:Int
  bo:Int
  n:Int
structure Cf where
  im:Im
  bx:List Bx
  bo:List Bo
def cN(b:Bx):List D:=[.str b.l.s,.str b.l.i,.int .i64 b.v]
def cW(b:Bo):List D:=[.int .i64 b.fu,.str b.l.s,.str b.l.i,.str b.c.s,.str b.c.i,.int .u8 b.ma,.int .i64 b.ro,.int .i64 b.bo,.int .i64 b.n]
def V6(b:Bo):V:=.ag ((cW b).map .d)
def yF(c:Cf):V:=.ag [.d (.sl 5 (c.im.cs.map b9)),.d (.sl 3 (c.im.fs.map bc)),.d (.sl 3 (c.bx.map cN)),.d (.sl 9 (c.bo.map cW))]
def iI(c:Cf)(b:Bo):Bool:=match c.im.fs[b.fu.toNat]? with
 |some f=>decide (0<=b.fu)&&f.args==1
 |none=>false
def eH(c:Cf)(b:Bo):Int:=
 bif !iI c b then 6 else
 bif !(pN b.l&&(pN b.c&&decide (b.ma<=63)))then 1 else
 bif !(decide (0<=b.ro)&&(decide (b.ro<=999)&&decide (b.bo<c.bx.length)))then 1 else
 bif !bH b.l b.c then 13 else 0
theorem Ff(c:Cf)(b:Bo)(hl:cC b.l)(hc:cC b.c):Z0 30 [yF c,V6 b] (.d (.int .i64 (eH c b))):=by
 have h1:=i_ b.l hl;have h2:=i_ b.c hc;have h3:=gi b.l b.c hl hc;have ef:(c.im.fs.map bc).length=c.im.fs.length:=aI _;have eb:(c.bx.map cN).length=c.bx.length:=aI _;rcases Int.lt_or_le b.fu 0 with a0|a0
 .have e:eH c b=6:=by
   have:iI c b=false:=by unfold iI;split<;>simp;omega
   unfold eH;rw[this];rfl
  rw[e];refine sh0 Tryz.f30 ?_
  repeat' ((conv=>whnf);first|exact zf|refine zm ?_|refine zB ?_ ?_|refine zt ?_|refine zu ?_|intro _)
 .cases hfn:c.im.fs[b.fu.toNat]? with
  |none=>
   have e:eH c b=6:=by
    have:iI c b=false:=by unfold iI;rw[hfn]
    unfold eH;rw[this];rfl
   have hge:=List.getElem?_eq_none_iff.1 hfn;rw[e];refine sh0 Tryz.f30 ?_
   repeat' ((conv=>whnf);first|exact zf|refine zm ?_|refine zB ?_ ?_|refine zt ?_|refine zu ?_|intro _)
  |some f=>
   have hlt:=(aC.1 hfn).1;have hrow:(c.im.fs.map bc)[b.fu.toNat]?=some (bc f):=by simp[hfn]
   have hf:iI c b=(f.args==1):=by unfold iI;rw[hfn];simp[a0]
   have hd:(decide (b.fu<0))=false:=by simp;omega
   have hd2:(decide (((c.im.fs.map bc).length:Int)<=b.fu))=false:=by simp;omega
   unfold eH;rw[hf];refine sh0 Tryz.f30 ?_
   repeat' ((conv=>whnf);first|exact zf|refine zm ?_|refine zc h1 ?_|refine zc h2 ?_|refine zc h3 ?_|refine⟨bc f,⟨a0,hrow,rfl⟩,?_⟩|refine(bB hd ?_)|refine(bB hd2 ?_)|refine zB ?_ ?_|refine aU (λhb=>?_) (λhb=>?_)|intro _)
   all_goals
    refine κ (λn:Int=>Out.ret (V.d (D.int .i64 n))) (?_:(_:Int)=_);simp_all[Bool.cond_eq_ite]
    try omega
end Go.Proofs.YtmigecldjbgneaaGreatDoor
namespace Go.Proofs.YtmigecldjbgneaaGreatDoor
open Go.RowKit Go.Shelf Go.Proofs
def dz:Go.Shelf.Ren:=⟨λ|240=>119|276=>154|166=>81|169=>83|167=>80|n=>n,λ|37=>23|70=>186|72=>188|164=>298|127=>249|75=>190|80=>195|n=>n,λ|n=>n⟩
theorem writeString:Lays.n166 Tryz.prog dz where
 mixed:=zx0
 f166:=Tryz.func81.trans (κ some zx0)
 f240:=Tryz.func119.trans (κ some zx0)
 f276:=Tryz.func154.trans (κ some zx0)
 t0:=Tryz.underlying0
 a0:=Tryz.isAgg0
 z0:=Tryz.sizeOf0
 v0:=Tryz.zeroValue0
 t3:=Tryz.underlying3
 a3:=Tryz.isAgg3
 z3:=Tryz.sizeOf3
 v3:=Tryz.zeroValue3
 t4:=Tryz.underlying4
 a4:=Tryz.isAgg4
 z4:=Tryz.sizeOf4
 v4:=Tryz.zeroValue4
 t9:=Tryz.underlying9
 a9:=Tryz.isAgg9
 z9:=Tryz.sizeOf9
 v9:=Tryz.zeroValue9
 t20:=Tryz.underlying20
 a20:=Tryz.isAgg20
 z20:=Tryz.sizeOf20
 v20:=Tryz.zeroValue20
 t37:=Tryz.underlying23
 a37:=Tryz.isAgg23
 z37:=Tryz.sizeOf23
 v37:=Tryz.zeroValue23
 t70:=Tryz.underlying186
 a70:=Tryz.isAgg186
 z70:=Tryz.sizeOf186
 v70:=Tryz.zeroValue186
 t72:=Tryz.underlying188
 a72:=Tryz.isAgg188
 z72:=Tryz.sizeOf188
 v72:=Tryz.zeroValue188
 t75:=Tryz.underlying190
 a75:=Tryz.isAgg190
 z75:=Tryz.sizeOf190
 v75:=Tryz.zeroValue190
 t164:=Tryz.underlying298
 a164:=Tryz.isAgg298
 z164:=Tryz.sizeOf298
 v164:=Tryz.zeroValue298
def tE:Go.Shelf.Ren:=⟨λ|240=>119|276=>154|166=>81|169=>83|167=>80|n=>n,λ|37=>23|70=>186|72=>188|164=>298|127=>249|75=>190|80=>195|n=>n,λ|n=>n⟩
theorem EJ:Lays.n167 Tryz.prog tE where
 mixed:=zx0
 f167:=Tryz.func80.trans (κ some zx0)
 f240:=Tryz.func119.trans (κ some zx0)
 f276:=Tryz.func154.trans (κ some zx0)
 t0:=Tryz.underlying0
 a0:=Tryz.isAgg0
 z0:=Tryz.sizeOf0
 v0:=Tryz.zeroValue0
 t4:=Tryz.underlying4
 a4:=Tryz.isAgg4
 z4:=Tryz.sizeOf4
 v4:=Tryz.zeroValue4
 t5:=Tryz.underlying5
 a5:=Tryz.isAgg5
 z5:=Tryz.sizeOf5
 v5:=Tryz.zeroValue5
 t9:=Tryz.underlying9
 a9:=Tryz.isAgg9
 z9:=Tryz.sizeOf9
 v9:=Tryz.zeroValue9
 t20:=Tryz.underlying20
 a20:=Tryz.isAgg20
 z20:=Tryz.sizeOf20
 v20:=Tryz.zeroValue20
 t37:=Tryz.underlying23
 a37:=Tryz.isAgg23
 z37:=Tryz.sizeOf23
 v37:=Tryz.zeroValue23
 t70:=Tryz.underlying186
 a70:=Tryz.isAgg186
 z70:=Tryz.sizeOf186
 v70:=Tryz.zeroValue186
 t72:=Tryz.underlying188
 a72:=Tryz.isAgg188
 z72:=Tryz.sizeOf188
 v72:=Tryz.zeroValue188
 t75:=Tryz.underlying190
 a75:=Tryz.isAgg190
 z75:=Tryz.sizeOf190
 v75:=Tryz.zeroValue190
 t164:=Tryz.underlying298
 a164:=Tryz.isAgg298
 z164:=Tryz.sizeOf298
 v164:=Tryz.zeroValue298
def AO:Go.Shelf.Ren:=⟨λ|240=>119|276=>154|166=>81|169=>83|167=>80|n=>n,λ|37=>23|70=>186|72=>188|164=>298|127=>249|75=>190|80=>195|n=>n,λ|n=>n⟩
theorem Nf:Lays.n169 Tryz.prog AO where
 mixed:=zx0
 f169:=Tryz.func83.trans (κ some zx0)
 t0:=Tryz.underlying0
 a0:=Tryz.isAgg0
 z0:=Tryz.sizeOf0
 v0:=Tryz.zeroValue0
 t3:=Tryz.underlying3
 a3:=Tryz.isAgg3
 z3:=Tryz.sizeOf3
 v3:=Tryz.zeroValue3
 t9:=Tryz.underlying9
 a9:=Tryz.isAgg9
 z9:=Tryz.sizeOf9
 v9:=Tryz.zeroValue9
 t37:=Tryz.underlying23
 a37:=Tryz.isAgg23
 z37:=Tryz.sizeOf23
 v37:=Tryz.zeroValue23
 t70:=Tryz.underlying186
 a70:=Tryz.isAgg186
 z70:=Tryz.sizeOf186
 v70:=Tryz.zeroValue186
 t72:=Tryz.underlying188
 a72:=Tryz.isAgg188
 z72:=Tryz.sizeOf188
 v72:=Tryz.zeroValue188
 t127:=Tryz.underlying249
 a127:=Tryz.isAgg249
 z127:=Tryz.sizeOf249
 v127:=Tryz.zeroValue249
def Rp:Go.Shelf.Ren:=⟨λ|143=>227|219=>295|217=>324|225=>325|224=>326|267=>327|266=>343|314=>344|n=>n,λ|9=>9|3=>3|4=>4|5=>5|46=>201|146=>421|51=>340|n=>n,λ|1=>0|n=>n⟩
theorem index:Lays.n143 Tryz.prog Rp where
 mixed:=zx0
 f143:=Tryz.func227.trans (κ some zx0)
 f217:=Tryz.func324.trans (κ some zx0)
 f219:=Tryz.func295.trans (κ some zx0)
 f224:=Tryz.func326.trans (κ some zx0)
 f225:=Tryz.func325.trans (κ some zx0)
 f266:=Tryz.func343.trans (κ some zx0)
 f267:=Tryz.func327.trans (κ some zx0)
 f314:=Tryz.func344.trans (κ some zx0)
 t3:=Tryz.underlying3
 a3:=Tryz.isAgg3
 z3:=Tryz.sizeOf3
 v3:=Tryz.zeroValue3
 t4:=Tryz.underlying4
 a4:=Tryz.isAgg4
 z4:=Tryz.sizeOf4
 v4:=Tryz.zeroValue4
 t5:=Tryz.underlying5
 a5:=Tryz.isAgg5
 z5:=Tryz.sizeOf5
 v5:=Tryz.zeroValue5
 t9:=Tryz.underlying9
 a9:=Tryz.isAgg9
 z9:=Tryz.sizeOf9
 v9:=Tryz.zeroValue9
 t46:=Tryz.underlying201
 a46:=Tryz.isAgg201
 z46:=Tryz.sizeOf201
 v46:=Tryz.zeroValue201
 t51:=Tryz.underlying340
 a51:=Tryz.isAgg340
 z51:=Tryz.sizeOf340
 v51:=Tryz.zeroValue340
 t146:=Tryz.underlying421
 a146:=Tryz.isAgg421
 z146:=Tryz.sizeOf421
 v146:=Tryz.zeroValue421
 g1:=zx0
def iB:Go.Shelf.Ren:=⟨λ|22=>52|29=>88|30=>89|36=>126|17=>160|n=>n,λ|24=>87|9=>9|3=>3|4=>4|0=>0|n=>n,λ|n=>n⟩
theorem insert:Lays2.n22 Tryz.prog iB where
 mixed:=zx0
 f17:=Tryz.func160.trans (κ some zx0)
 f22:=Tryz.func52.trans (κ some zx0)
 f29:=Tryz.func88.trans (κ some zx0)
 f30:=Tryz.func89.trans (κ some zx0)
 f36:=Tryz.func126.trans (κ some zx0)
 t0:=Tryz.underlying0
 a0:=Tryz.isAgg0
 z0:=Tryz.sizeOf0
 v0:=Tryz.zeroValue0
 t3:=Tryz.underlying3
 a3:=Tryz.isAgg3
 z3:=Tryz.sizeOf3
 v3:=Tryz.zeroValue3
 t4:=Tryz.underlying4
 a4:=Tryz.isAgg4
 z4:=Tryz.sizeOf4
 v4:=Tryz.zeroValue4
 t9:=Tryz.underlying9
 a9:=Tryz.isAgg9
 z9:=Tryz.sizeOf9
 v9:=Tryz.zeroValue9
 t24:=Tryz.underlying87
 a24:=Tryz.isAgg87
 z24:=Tryz.sizeOf87
 v24:=Tryz.zeroValue87
 i9:=zx0
def Qz:Go.Shelf.Ren:=⟨λ|174=>156|247=>223|245=>224|287=>289|279=>290|280=>291|281=>292|282=>293|321=>319|322=>320|316=>321|171=>323|205=>322|243=>342|246=>155|283=>219|284=>220|285=>221|286=>222|129=>238|317=>285|318=>286|319=>287|320=>288|337=>317|338=>318|n=>n,λ|9=>9|3=>3|2=>2|75=>190|85=>300|4=>4|167=>373|5=>5|53=>243|175=>374|46=>201|168=>376|37=>23|0=>0|210=>402|21=>21|127=>249|145=>420|143=>418|171=>324|173=>327|212=>371|51=>340|20=>20|213=>372|232=>416|233=>417|80=>195|n=>n,λ|15=>3|16=>4|17=>2|18=>7|19=>8|n=>n⟩
theorem parse:LaysC.n174 Tryz.prog Qz where
 mixed:=zx0
 f129:=Tryz.func238.trans (κ some zx0)
 f171:=Tryz.func323.trans (κ some zx0)
 f174:=Tryz.func156.trans (κ some zx0)
 f205:=Tryz.func322.trans (κ some zx0)
 f243:=Tryz.func342.trans (κ some zx0)
 f245:=Tryz.func224.trans (κ some zx0)
 f246:=Tryz.func155.trans (κ some zx0)
 f247:=Tryz.func223.trans (κ some zx0)
 f279:=Tryz.func290.trans (κ some zx0)
 f280:=Tryz.func291.trans (κ some zx0)
 f281:=Tryz.func292.trans (κ some zx0)
 f282:=Tryz.func293.trans (κ some zx0)
 f283:=Tryz.func219.trans (κ some zx0)
 f284:=Tryz.func220.trans (κ some zx0)
 f285:=Tryz.func221.trans (κ some zx0)
 f286:=Tryz.func222.trans (κ some zx0)
 f287:=Tryz.func289.trans (κ some zx0)
 f316:=Tryz.func321.trans (κ some zx0)
 f317:=Tryz.func285.trans (κ some zx0)
 f318:=Tryz.func286.trans (κ some zx0)
 f319:=Tryz.func287.trans (κ some zx0)
 f320:=Tryz.func288.trans (κ some zx0)
 f321:=Tryz.func319.trans (κ some zx0)
 f322:=Tryz.func320.trans (κ some zx0)
 f337:=Tryz.func317.trans (κ some zx0)
 f338:=Tryz.func318.trans (κ some zx0)
 t0:=Tryz.underlying0
 a0:=Tryz.isAgg0
 z0:=Tryz.sizeOf0
 v0:=Tryz.zeroValue0
 t2:=Tryz.underlying2
 a2:=Tryz.isAgg2
 z2:=Tryz.sizeOf2
 v2:=Tryz.zeroValue2
 t3:=Tryz.underlying3
 a3:=Tryz.isAgg3
 z3:=Tryz.sizeOf3
 v3:=Tryz.zeroValue3
 t4:=Tryz.underlying4
 a4:=Tryz.isAgg4
 z4:=Tryz.sizeOf4
 v4:=Tryz.zeroValue4
 t5:=Tryz.underlying5
 a5:=Tryz.isAgg5
 z5:=Tryz.sizeOf5
 v5:=Tryz.zeroValue5
 t9:=Tryz.underlying9
 a9:=Tryz.isAgg9
 z9:=Tryz.sizeOf9
 v9:=Tryz.zeroValue9
 t20:=Tryz.underlying20
 a20:=Tryz.isAgg20
 z20:=Tryz.sizeOf20
 v20:=Tryz.zeroValue20
 t21:=Tryz.underlying21
 a21:=Tryz.isAgg21
 z21:=Tryz.sizeOf21
 v21:=Tryz.zeroValue21
 t37:=Tryz.underlying23
 a37:=Tryz.isAgg23
 z37:=Tryz.sizeOf23
 v37:=Tryz.zeroValue23
 t46:=Tryz.underlying201
 a46:=Tryz.isAgg201
 z46:=Tryz.sizeOf201
 v46:=Tryz.zeroValue201
 t51:=Tryz.underlying340
 a51:=Tryz.isAgg340
 z51:=Tryz.sizeOf340
 v51:=Tryz.zeroValue340
 t53:=Tryz.underlying243
 a53:=Tryz.isAgg243
 z53:=Tryz.sizeOf243
 v53:=Tryz.zeroValue243
 t75:=Tryz.underlying190
 a75:=Tryz.isAgg190
 z75:=Tryz.sizeOf190
 v75:=Tryz.zeroValue190
 t85:=Tryz.underlying300
 a85:=Tryz.isAgg300
 z85:=Tryz.sizeOf300
 v85:=Tryz.zeroValue300
 t127:=Tryz.underlying249
 a127:=Tryz.isAgg249
 z127:=Tryz.sizeOf249
 v127:=Tryz.zeroValue249
 t143:=Tryz.underlying418
 a143:=Tryz.isAgg418
 z143:=Tryz.sizeOf418
 v143:=Tryz.zeroValue418
 t145:=Tryz.underlying420
 a145:=Tryz.isAgg420
 z145:=Tryz.sizeOf420
 v145:=Tryz.zeroValue420
 t167:=Tryz.underlying373
 a167:=Tryz.isAgg373
 z167:=Tryz.sizeOf373
 v167:=Tryz.zeroValue373
 t168:=Tryz.underlying376
 a168:=Tryz.isAgg376
 z168:=Tryz.sizeOf376
 v168:=Tryz.zeroValue376
 t171:=Tryz.underlying324
 a171:=Tryz.isAgg324
 z171:=Tryz.sizeOf324
 v171:=Tryz.zeroValue324
 t173:=Tryz.underlying327
 a173:=Tryz.isAgg327
 z173:=Tryz.sizeOf327
 v173:=Tryz.zeroValue327
 t175:=Tryz.underlying374
 a175:=Tryz.isAgg374
 z175:=Tryz.sizeOf374
 v175:=Tryz.zeroValue374
 t210:=Tryz.underlying402
 a210:=Tryz.isAgg402
 z210:=Tryz.sizeOf402
 v210:=Tryz.zeroValue402
 t212:=Tryz.underlying371
 a212:=Tryz.isAgg371
 z212:=Tryz.sizeOf371
 v212:=Tryz.zeroValue371
 t213:=Tryz.underlying372
 a213:=Tryz.isAgg372
 z213:=Tryz.sizeOf372
 t232:=Tryz.underlying416
 a232:=Tryz.isAgg416
 z232:=Tryz.sizeOf416
 v232:=Tryz.zeroValue416
 t233:=Tryz.underlying417
 a233:=Tryz.isAgg417
 z233:=Tryz.sizeOf417
 v233:=Tryz.zeroValue417
 g15:=zx0
 g16:=zx0
 g17:=zx0
 g18:=zx0
 g19:=zx0
 t80:=Tryz.underlying195
 a80:=Tryz.isAgg195
 z80:=Tryz.sizeOf195
 v80:=Tryz.zeroValue195
 i0:=zx0
 i2:=zx0
 i3:=zx0
 i4:=zx0
 i5:=zx0
 i9:=zx0
 i20:=zx0
 i21:=zx0
 i37:=zx0
 i46:=zx0
 i51:=zx0
 i53:=zx0
 i75:=zx0
 i80:=zx0
 i85:=zx0
 i127:=zx0
 i143:=zx0
 i145:=zx0
 i167:=zx0
 i168:=zx0
 i171:=zx0
 i173:=zx0
 i175:=zx0
 i210:=zx0
 i212:=zx0
 i232:=zx0
 i233:=zx0
 m15:=zx0
 m16:=zx0
 m17:=zx0
 m18:=zx0
 m19:=zx0
 c0:=zx0
 c2:=zx0
 c3:=zx0
 c4:=zx0
 c5:=zx0
 c9:=zx0
 c20:=zx0
 c21:=zx0
 c37:=zx0
 c46:=zx0
 c51:=zx0
 c53:=zx0
 c75:=zx0
 c80:=zx0
 c85:=zx0
 c127:=zx0
 c143:=zx0
 c145:=zx0
 c167:=zx0
 c168:=zx0
 c171:=zx0
 c173:=zx0
 c175:=zx0
 c210:=zx0
 c212:=zx0
 c213:=zx0
 c232:=zx0
 c233:=zx0
def NF:Go.Shelf.Ren:=⟨λ|173=>120|246=>155|283=>219|284=>220|285=>221|286=>222|129=>238|317=>285|318=>286|319=>287|320=>288|337=>317|338=>318|n=>n,λ|2=>2|3=>3|9=>9|4=>4|171=>324|0=>0|53=>243|37=>23|5=>5|173=>327|212=>371|51=>340|20=>20|213=>372|46=>201|232=>416|233=>417|n=>n,λ|17=>2|18=>7|19=>8|n=>n⟩
theorem format:Lays.n173 Tryz.prog NF where
 mixed:=zx0
 f129:=Tryz.func238.trans (κ some zx0)
 f173:=Tryz.func120.trans (κ some zx0)
 f246:=Tryz.func155.trans (κ some zx0)
 f283:=Tryz.func219.trans (κ some zx0)
 f284:=Tryz.func220.trans (κ some zx0)
 f285:=Tryz.func221.trans (κ some zx0)
 f286:=Tryz.func222.trans (κ some zx0)
 f317:=Tryz.func285.trans (κ some zx0)
 f318:=Tryz.func286.trans (κ some zx0)
 f319:=Tryz.func287.trans (κ some zx0)
 f320:=Tryz.func288.trans (κ some zx0)
 f337:=Tryz.func317.trans (κ some zx0)
 f338:=Tryz.func318.trans (κ some zx0)
 t0:=Tryz.underlying0
 a0:=Tryz.isAgg0
 z0:=Tryz.sizeOf0
 v0:=Tryz.zeroValue0
 t2:=Tryz.underlying2
 a2:=Tryz.isAgg2
 z2:=Tryz.sizeOf2
 v2:=Tryz.zeroValue2
 t3:=Tryz.underlying3
 a3:=Tryz.isAgg3
 z3:=Tryz.sizeOf3
 v3:=Tryz.zeroValue3
 t4:=Tryz.underlying4
 a4:=Tryz.isAgg4
 z4:=Tryz.sizeOf4
 v4:=Tryz.zeroValue4
 t5:=Tryz.underlying5
 a5:=Tryz.isAgg5
 z5:=Tryz.sizeOf5
 v5:=Tryz.zeroValue5
 t9:=Tryz.underlying9
 a9:=Tryz.isAgg9
 z9:=Tryz.sizeOf9
 v9:=Tryz.zeroValue9
 t20:=Tryz.underlying20
 a20:=Tryz.isAgg20
 z20:=Tryz.sizeOf20
 v20:=Tryz.zeroValue20
 t37:=Tryz.underlying23
 a37:=Tryz.isAgg23
 z37:=Tryz.sizeOf23
 v37:=Tryz.zeroValue23
 t46:=Tryz.underlying201
 a46:=Tryz.isAgg201
 z46:=Tryz.sizeOf201
 v46:=Tryz.zeroValue201
 t51:=Tryz.underlying340
 a51:=Tryz.isAgg340
 z51:=Tryz.sizeOf340
 v51:=Tryz.zeroValue340
 t53:=Tryz.underlying243
 a53:=Tryz.isAgg243
 z53:=Tryz.sizeOf243
 v53:=Tryz.zeroValue243
 t171:=Tryz.underlying324
 a171:=Tryz.isAgg324
 z171:=Tryz.sizeOf324
 v171:=Tryz.zeroValue324
 t173:=Tryz.underlying327
 a173:=Tryz.isAgg327
 z173:=Tryz.sizeOf327
 v173:=Tryz.zeroValue327
 t212:=Tryz.underlying371
 a212:=Tryz.isAgg371
 z212:=Tryz.sizeOf371
 v212:=Tryz.zeroValue371
 t213:=Tryz.underlying372
 a213:=Tryz.isAgg372
 z213:=Tryz.sizeOf372
 t232:=Tryz.underlying416
 a232:=Tryz.isAgg416
 z232:=Tryz.sizeOf416
 v232:=Tryz.zeroValue416
 t233:=Tryz.underlying417
 a233:=Tryz.isAgg417
 z233:=Tryz.sizeOf417
 v233:=Tryz.zeroValue417
 g17:=zx0
 g18:=zx0
 g19:=zx0
open Go.Vx
set_option maxRecDepth 100000
theorem xC{f:Nat}{vs:List V}{r:V}(hok:ev Tryz.prog f=true)
  (h:∀(G:Nat->Prop)(w:World)(xs:List Value),xs.length=vs.length->(∀(i:Nat)(x:V),vs[i]?=some x->az G w [] (xs.getD i undef) x)->Calls Tryz.prog f xs.toArray w λe w'=>(∃v,e=.returned v/\az G w' [] v r)/\ga w w') :
  Z1 f vs [] λout h=>out=.ret r/\h=[]:=by
 refine .inl ⟨hok,λG w ρ xs hR hl hv=>?_⟩
 match ρ,hR.len with
 |[],_=>
 refine Calls.mono (h G w xs hl hv) ?_
 rintro e w' ⟨⟨v,rfl,h1⟩,h2⟩
 exact⟨G,[],[],.ret r,(Ok.refl hR).grow h2 (λ_ h=>h) (λ_ h=>.inl h),⟨v,rfl,h1⟩,rfl,rfl⟩
theorem az.X_{G:Nat->Prop}{w:World}{ρ:List Value}{v:Value}{x:D}(h:bp G w v x):az G w ρ v (.d x):=.o (.c (.k (.d h)))
theorem FO(w:World)(e:TypeId)(s:ByteArray):ga w (Lib.bytesWorld w e s):=by
 have h1:ga w (w.drew.alloc (.cells (Lib.bytesCells w e s) e)):=(ga.drew w).trans (ga.alloc _ _);unfold Lib.bytesWorld World.freeze;split
 .exact h1
 .refine⟨?_,λk hk=>?_,h1.os,h1.tape,h1.out⟩
  .exact aX h1.size (by simp)
  .rw[<-h1.iZ k hk];simp only[Array.getElem?_modify];rw[η (by omega)]
theorem JW(s:List UInt8)(c:UInt8):Z0 227 [.d (.str s),.d (.str [c])] (.d (.int .i64 (Lib.indexByte s c))):=by
 refine xC zx0 λG w xs hl hv=>?_
 match xs,hl with
 |[a0,a1],_=>
 obtain⟨t,e0,rfl,_⟩:=(hv 0 _ rfl).str;obtain⟨u,e1,h1,_⟩:=(hv 1 _ rfl).str;obtain rfl:a0=_:=e0;obtain rfl:a1=_:=e1;obtain rfl:u=⟨#[c]⟩:=by
  cases u with|mk d=>cases d with|mk l=>cases h1;rfl
 refine Calls.mono (Any.strings_Index_one index t c w) ?_
 rintro e w' ⟨rfl,rfl⟩
 exact⟨⟨_,rfl,az.X_ (.int _ _)⟩,ga.refl _⟩
theorem Qy(s:List UInt8)(hs:s.length<=1000)(v:Int)(h:Lib.parseIntB 64 s=.ok v):Z0 156 [.d (.str s),.d (.int .i64 10),.d (.int .i64 64)] (.tu [.d (.int .i64 v),.d .ni]):=by
 refine xC zx0 λG w xs hl hv=>?_
 match xs,hl with
 |[a0,a1,a2],_=>
 obtain⟨t,e0,rfl,_⟩:=(hv 0 _ rfl).str;obtain rfl:a0=_:=e0;obtain rfl:a1=.int .i64 10:=(hv 1 _ rfl).int;obtain rfl:a2=.int .i64 64:=(hv 2 _ rfl).int;have ht:t.size<=1000:=by simpa using hs
 refine Calls.mono (Any.strconv_ParseInt_10_at64_ok parse t (by omega) v h w) ?_
 rintro e w' ⟨rfl,hw⟩
 refine⟨⟨_,rfl,.tu _ _ rfl λi x hx=>?_⟩,?_⟩
 .match i,hx with
  |0,hx=>cases hx;exact .c (.k (.d (.int _ _)))
  |1,hx=>cases hx;exact .c (.k (.d .ni))
 .rcases hw with rfl|⟨t,rfl⟩
  .exact ga.refl _
  .exact FO _ _ _
theorem fg{i:Nat}(hi:i<100):(Lib.decDigits i).length<=2:=by
 rw[Lib.decDigits];split
 .simp
 .rw[aM,Lib.decDigits,dif_pos (by omega)];simp
theorem ND(i:Nat)(hi:i<100):Z0 120 [.d (.int .i64 i),.d (.int .i64 10)] (.d (.str (Lib.decDigits i))):=by
 refine xC zx0 λG w xs hl hv=>?_
 match xs,hl with
 |[a0,a1],_=>
 obtain rfl:a0=.int .i64 i:=(hv 0 _ rfl).int;obtain rfl:a1=.int .i64 10:=(hv 1 _ rfl).int;refine Calls.mono (Any.strconv_FormatInt_10_small format i hi w) ?_
 rintro e w' ⟨rfl,rfl⟩
 have:=fg hi;refine⟨⟨_,rfl,az.X_ ?_⟩,ga.refl _⟩;exact .str ⟨(Lib.decDigits i).toArray⟩ (by show(Lib.decDigits i).toArray.size<=maxLen;simp[maxLen]<;>omega)
theorem hid{p:Prop}(h:p):Hid p:=h
def sG(l:List Nat):List UInt8:=l.flatMap λn=>46::Lib.decDigits n
def b8:List Nat->List UInt8
 |[]=>[]
 |n::r=>Lib.decDigits n++sG r
theorem GV{l:List Nat}(n:Nat)(h:l≠[]):b8 (l++[n])=b8 l++46::Lib.decDigits n:=by
 match l,h with
 |m::r,_=>simp[b8,sG,List.flatMap_append]
theorem GW{l:List Nat}(h:∀n∈l,n<100):(sG l).length<=3*l.length:=by
 induction l with
 |nil=>simp[sG]
 |cons n r ih=>
  have h1:=fg (h n (by simp));have h2:=ih λx hx=>h x (by simp[hx]);simp only[sG,List.flatMap_cons,aM,aZ]at h2⊢;omega
theorem qF{l:List Nat}(h:∀n∈l,n<100):(b8 l).length<=3*l.length:=by
 match l,h with
 |[],_=>simp[b8]
 |n::r,h=>
  have h1:=fg (h n (by simp));have h2:=GW (l:=r) λx hx=>h x (by simp[hx]);simp only[b8,aM,aZ];omega
theorem bX(R:Ren)(h72:R.t 72=dz.t 72)(h5:R.t 5=dz.t 5):Builder.Extra Tryz.prog R where
 sizeBuilder:=by rw[h72];kernel_rfl
 liesBuilder:=by rw[h72];kernel_rfl
 t5:=by rw[h5];exact Tryz.underlying5
 a5:=by rw[h5];exact Tryz.isAgg5
 z5:=by rw[h5];exact Tryz.sizeOf5
 v5:=by rw[h5];exact Tryz.zeroValue5
 infoByte:=by rw[h5];kernel_rfl
 cellsByte:=by rw[h5];kernel_rfl
 sizeByte:=by rw[h5];kernel_rfl
 neB5:=by rw[h72,h5];decide
theorem N_(i:Nat)(hi:i<100)(w:World):Calls Tryz.prog 82 #[.int .i64 i] w λe w'=>e=.returned (.string ⟨(Lib.decDigits i).toArray⟩)/\w'=w:=by
 go_enter Tryz.func82,Tryz.ntmps82
 go_wp2_with fail
 refine(Any.strconv_FormatInt_10_small format i hi _).mono ?_
 rintro e w' ⟨rfl,rfl⟩
 go_wp2
 go_ret
 exact⟨rfl,rfl⟩
theorem yB(l:List UInt8):(⟨l.toArray⟩:ByteArray).size=l.length:=by simp[ByteArray.size]
set_option maxRecDepth 100000 in
theorem Um(l:List Nat)(h0:l≠[])(h24:l.length<=24)(hs:∀n∈l,n<100)(bk o c:Nat)(w:World)
    (hcells:∀(j:Nat)(n:Nat),l[j]?=some n->w.cell? ⟨bk,o+j,none⟩=some (.int .i64 n)) (hbk:bk<w.heap.size) :
    Calls Tryz.prog 47 #[.slice (some ⟨bk,o,none⟩) l.length c] w λe w'=>e=.returned (.tuple #[.string ⟨(b8 l).toArray⟩,.bool true])/\Below w.heap.size w w':=by
  have hl0:0<l.length:=jH.2 h0
  have HC:=hid hcells
  have HS:=hid hs
  have X1:=bX dz rfl rfl
  have X2:=bX tE rfl rfl
  have X3:=bX AO rfl rfl
  clear hcells hs
  go_enter Tryz.func47,Tryz.ntmps47
  go_wp2_with fail
  go_loopw [17] (λi wr=>∃k:Nat,k<=l.length/\i=.int .i64 k/\Hid (Lib.IsBuilder (dz.t 72) (dz.t 5) w.heap.size w.heap.size (Lib.byteCells (b8 (l.take k))) wr)/\Hid (Below w.heap.size w wr)) (λi _=>l.length-(intOf i).toNat)
  case atStart=>
    refine⟨0,aY _,rfl,.inl ⟨aL _,.slice none 0 0,heap_alloc_new w _,World.ownsRow_nil _ _ _ _,by simp[Value.ownBlock]⟩,(Below.refl w.heap.size w).alloc (aL _) _⟩
  case round=>
    obtain⟨k,hk,rfl,HB,HW⟩:=hrel
    have hBw:w.heap.size<=wr.heap.size:=HW.out.size
    by_cases hkn:k<l.length
    · obtain⟨n,hn⟩:∃n,l[k]?=some n:=⟨l[k],aA hkn⟩
      have hc:wr.cell? ⟨bk,o+k,none⟩=some (.int .i64 n):=by
        rw[HW.out.cell (p:=⟨bk,o+k,none⟩) hbk]
        exact HC.out k n hn
      have hn1:=HS.out n (aG hn)
      have hd:=fg hn1
      have htk:l.take (k+1)=l.take k++[n]:=by rw[bV,hn];rfl
      have hlen:(b8 (l.take k)).length<=72:=by
        have:=qF (l:=l.take k) λx hx=>HS.out x (fZ hx)
        rw[a_]at this
        omega
      have Hd:=hid hd
      have Htk:=hid htk
      have Hlen:=hid hlen
      clear hd htk hlen hn
      by_cases hk0:k=0
      · subst hk0
        rw[eB]at hc
        have hnext:Lib.byteCells (b8 (l.take 0))++Lib.strCells ⟨(Lib.decDigits n).toArray⟩=Lib.byteCells (b8 (l.take (0+1))):=by
          rw[Htk.out,Lib.strCells_eq,<-Lib.byteCells_append]
          simp[b8,sG]
        have Hn:=hid hnext
        clear hnext
        go_wp2_with fail
        refine(N_ n hn1 wr).mono ?_
        rintro e w1 ⟨rfl,rfl⟩
        go_wp2_with fail
        refine(Any.Builder_WriteString writeString X1 w.heap.size w.heap.size _ _ w1 HB.out (by rw[Lib.byteCells_length,yB];have:=Hlen.out;have:=Hd.out;omega) hBw).mono ?_
        rintro e w2 ⟨rfl,h2,hb2⟩
        rw[Hn.out]at h2
        have H2:=hid (Or.inr h2:Lib.IsBuilder (dz.t 72) (dz.t 5) w.heap.size w.heap.size _ w2)
        have Hb2:=hid (HW.out.trans hb2)
        clear h2 hb2
        go_wp2
        exact⟨⟨0+1,by omega,by go_num,H2,Hb2⟩,by simp[intOf];omega⟩
      · have hnext:(Lib.byteCells (b8 (l.take k))++[.int .u8 46])++Lib.strCells ⟨(Lib.decDigits n).toArray⟩=Lib.byteCells (b8 (l.take (k+1))):=by
          rw[Htk.out,GV _ (λh=>(List.take_eq_nil_iff.1 h).elim hk0 h0),Lib.strCells_eq,Lib.byteCells_append]
          simp[Lib.byteCells]
        have Hn:=hid hnext
        clear hnext
        have hk1:(1:Int)<=k:=by omega
        go_wp2_with fail
        refine(Any.Builder_WriteByte EJ X2 w.heap.size w.heap.size _ 46 wr HB.out (by rw[Lib.byteCells_length];have:=Hlen.out;omega) hBw).mono ?_
        rintro e w1 ⟨rfl,h1,hb1⟩
        have hBw1:w.heap.size<=w1.heap.size:=aX hBw hb1.size
        have H1:=hid h1
        have Hb1:=hid hb1
        clear h1 hb1
        go_wp2_with fail
        refine(N_ n hn1 w1).mono ?_
        rintro e w1 ⟨rfl,rfl⟩
        go_wp2_with fail
        refine(Any.Builder_WriteString writeString X1 w.heap.size w.heap.size _ _ w1 (Or.inr H1.out) (by rw[aM,Lib.byteCells_length];have:=Hlen.out;have:=Hd.out;rw[yB];simp only[aZ,ak];omega) hBw1).mono ?_
        rintro e w2 ⟨rfl,h2,hb2⟩
        rw[Hn.out]at h2
        have H2:=hid (Or.inr h2:Lib.IsBuilder (dz.t 72) (dz.t 5) w.heap.size w.heap.size _ w2)
        have Hb2:=hid ((HW.out.trans Hb1.out).trans hb2)
        clear h2 hb2
        go_wp2
        exact⟨⟨k+1,by omega,by go_num,H2,Hb2⟩,by simp[intOf];omega⟩
    · have hke:k=l.length:=by omega
      subst hke
      have hB:=HB.out
      rw[gN (aL _)]at hB
      go_wp2_with fail
      refine(Any.Builder_String_any Nf X3 w.heap.size w.heap.size _ wr hB hBw).mono ?_
      rintro e w5 ⟨rfl,hb5⟩
      have Hb5:=hid (HW.out.trans hb5)
      clear hb5 hB
      go_wp2
      go_ret2
      exact⟨rfl,Hb5.out⟩
end Go.Proofs.YtmigecldjbgneaaGreatDoor
namespace Go.Proofs.YtmigecldjbgneaaGreatDoor
open Go.Vx
set_option maxRecDepth 100000
theorem Dk:∀n,n<100->Lib.decDigits n=if n<10 then[UInt8.ofNat (48+n)]else[UInt8.ofNat (48+n / 10),UInt8.ofNat (48+n % 10)]:=by
 intro n hn;rw[Lib.decDigits];split
 .rfl
 .rw[Lib.decDigits,dif_pos (by omega)];rfl
theorem F8:∀n,n<100->Lib.parseIntB 64 (Lib.decDigits n)=.ok (n:Int):=by
 intro n hn;rw[Dk n hn]
 revert n
 decide
theorem Dl:∀n,n<100->(46:UInt8)∉Lib.decDigits n:=by
 intro n hn;rw[Dk n hn]
 revert n
 decide
theorem Lc(n:Nat)(hn:n<100):Z0 82 [.d (.int .i64 n)] (.d (.str (Lib.decDigits n))):=by
 have h:=ND n hn;refine sh0 Tryz.f82 ?_
 repeat' ((conv=>whnf);first|exact zf|refine zm ?_|refine zc h ?_|refine zB ?_ ?_|intro _)
theorem Hc(n:Nat)(hn:n<100):Z0 122 [.d (.str (Lib.decDigits n))] (.tu [.d (.int .i64 n),.d (.bool true)]):=by
 have h0:=fg hn;have h1:=Qy (Lib.decDigits n) (by omega) n (F8 n hn);have h2:=Lc n hn;refine sh0 Tryz.f122 ?_
 repeat' ((conv=>whnf);first|exact zf|refine zm ?_|refine zc h1 ?_|refine zc h2 ?_|refine zB ?_ ?_|refine zt ?_|refine zu ?_|intro _)
def fG(l:List Nat):List (List D):=l.map λn:Nat=>[D.int .i64 n]
theorem lV(l:List Nat):(fG l).length=l.length:=aI _
theorem vz(l:List Nat)(n:Nat):fG l++[[D.int .i64 n]]=fG (l++[n]):=by simp[fG]
theorem Cd{K:KT}(n:Nat)(hn:n<100)(acc:List Nat)(ha:acc.length<24)(b:Bool){word:List UInt8}(hw:word=Lib.decDigits n)
  (hk:K (.ret (.d (.bool true))) [.cells [.os 1],.rows 1 (fG (acc++[n])),.cells [.d (.bool true)]]) :
  Z1 121 [.d (.str word),.p 0 0,.p 2 0] [.cells [.os 1],.rows 1 (fG acc),.cells [.d (.bool b)]] K:=by
 subst hw;have h1:=Hc n hn;have hl:=lV acc;rw[<-vz]at hk;refine sh0 Tryz.f121 ?_;have e:decide (((fG acc).length:Int)<24)=true:=φ (by omega);have hk2:K (.ret (.d (.bool (decide (((fG acc).length:Int)<24))))) [.cells [.os 1],.rows 1 (fG acc++[[D.int .i64 n]]),.cells [.d (.bool (decide (((fG acc).length:Int)<24)))]]:=by rw[e];exact hk
 repeat' ((conv=>whnf);first|exact zf|refine zm ?_|refine zc h1 ?_|refine zB ?_ ?_|refine zt ?_|refine zu ?_|intro _)
 exact hk2
theorem Gp{K:KT}(s t:List UInt8)(hk:K (.ret (.fc 225 [.p 0 0,.p 1 0,.p 2 0])) [.cells [.d (.str t)],.cells [.d (.str s)],.cells [.d (.int .i64 0)]]) :
  Z1 157 [.d (.str s),.d (.str t),.d (.int .i64 0)] [] K:=by
 refine sh0 Tryz.f157 ?_
 repeat' ((conv=>whnf);first|exact zf|refine zm ?_|refine zB ?_ ?_|intro _)
 exact hk
theorem Gy{K:KT}(s t:List UInt8)(hk:K (.ret (.fc 225 [.p 0 0,.p 1 0,.p 2 0])) [.cells [.d (.str t)],.cells [.d (.str s)],.cells [.d (.int .i64 0)]]) :
  Z1 123 [.d (.str s),.d (.str t)] [] K:=by
 refine sh0 Tryz.f123 ?_
 repeat' ((conv=>whnf);first|exact zf|refine zm ?_|refine(Gp s t ?_)|refine zB ?_ ?_|intro _)
 exact hk
theorem index_none:∀l:List UInt8,(46:UInt8)∉l->Lib.indexByte l 46 = -1
 |[],_=>rfl
 |b::l,h=>by
  have h1:(b==46)=false:=by simp;intro e;exact h (by simp[e])
  rw[Lib.indexByte,h1,index_none l λe=>h (bU _ e)];rfl
theorem zk:∀(l r:List UInt8),(46:UInt8)∉l->Lib.indexByte (l++46::r) 46=l.length
 |[],r,_=>rfl
 |b::l,r,h=>by
  have h1:(b==46)=false:=by simp;intro e;exact h (by simp[e])
  rw[List.cons_append,Lib.indexByte,h1,zk l r λe=>h (bU _ e)];have:((l.length:Int) == -1)=false:=by rw[beq_eq_false_iff_ne];omega
  simp[this]
theorem LW(n m:Nat)(r:List Nat):b8 (n::m::r)=Lib.decDigits n++46::b8 (m::r):=by simp[b8,sG]
def TR(acc:List Nat)(s:List UInt8):H:=[.cells [.os 5],.cells [.d (.bool true)],.cells [.d (.str [46])],.cells [.d (.str s)],.cells [.d (.int .i64 0)],.rows 1 (fG acc)]
theorem Gn{K:KT}(l:List Nat)(h0:l≠[])(hl:l.length<=24)(hs:∀n∈l,n<100)(hk:∀s,K (.ret (.tu [])) (TR l s)) :
    Z1 225 [.fc 121 [.p 0 0,.p 1 0],.p 2 0,.p 3 0,.p 4 0] (TR [] (b8 l)) K:=by
  have hl0:0<l.length:=jH.2 h0
  refine sh0 Tryz.f225 ?_
  repeat' ((conv=>whnf);first|exact zf|refine zm ?_|refine zB ?_ ?_|refine zt ?_|refine zu ?_|intro _)
  conv=>whnf
  refine bA [(0,.fc 121 [.p 0 0,.p 1 0]),(1,.p 2 0),(2,.p 3 0),(3,.p 4 0)] (λk:Nat=>k<l.length) (λ_=>[]) (λk=>TR (l.take k) (b8 (l.drop k))) (λk=>l.length-k) 0 hl0 ?_ ?_ ?_ (λk hi=>?_)
  · exact zzz
  · exact zzz
  · exact rfl
  obtain⟨n,r,hr⟩:∃n r,l.drop k=n::r:=by
    cases h:l.drop k with
    |nil=>rw[List.drop_eq_nil_iff]at h;omega
    |cons n r=>exact⟨n,r,rfl⟩
  have hn:n<100:=hs n (eS (by rw[hr];simp))
  have hkn:l[k]?=some n:=by
    have:=κ (·[0]?) hr
    simpa[bY]using this
  have ht:l.take (k+1)=l.take k++[n]:=by rw[bV,hkn];rfl
  have hd:l.drop (k+1)=r:=by rw[<-List.drop_drop,hr];rfl
  have ha:(l.take k).length<24:=by rw[a_];omega
  rw[hr]
  match r,hr,hd with
  |[],hr,hd=>
    have e1:b8 [n]=Lib.decDigits n:=by simp[b8,sG]
    have hi1:=JW (Lib.decDigits n) 46
    rw[index_none _ (Dl n hn)]at hi1
    rw[e1]
    repeat' ((conv=>whnf);first|exact zf|refine zm ?_|refine zc hi1 ?_|refine zr0 ?_|refine(Cd n hn (l.take k) ha true rfl ?_)|refine zB ?_ ?_|refine zt ?_|refine zu ?_|intro _)
    have e2:l.take k++[n]=l:=by rw[<-ht];exact gN (List.drop_eq_nil_iff.1 hd)
    have hk2:=hk (Lib.decDigits n)
    unfold TR at hk2
    rw[<-e2]at hk2
    exact hk2
  |m::r,hr,hd=>
    have hi1:=JW (Lib.decDigits n++46::b8 (m::r)) 46
    rw[zk _ _ (Dl n hn)]at hi1
    rw[LW]
    have hdl:=fg hn
    have htl:=qF (l:=m::r) λx hx=>hs x (eS (by rw[hr];exact bU _ hx))
    have hml:(m::r).length<=24:=by rw[<-hd,dt];omega
    have hL:(Lib.decDigits n++46::b8 (m::r)).length=(Lib.decDigits n).length+1+(b8 (m::r)).length:=by simp;omega
    repeat' ((conv=>whnf);first|exact zf|refine zm ?_|refine zc hi1 ?_|refine zr0 ?_|refine(Cd n hn (l.take k) ha true (by simp) ?_)|refine zi0 ?_|refine zB ?_ ?_|refine zt ?_|refine zu ?_|intro _)
    have hD:List.drop (((Lib.decDigits n).length:Int)+(([46]:List UInt8).length:Int)).toNat (Lib.decDigits n++46::b8 (m::r))=b8 (l.drop (k+1)):=by
      have:(((Lib.decDigits n).length:Int)+(([46]:List UInt8).length:Int)).toNat=(Lib.decDigits n).length+1:=by simp only[aZ,ak];omega
      rw[this,hd,List.drop_append,kR (by omega)]
      simp
    refine⟨k+1,?_,by omega,zzz,⟨aV rfl,aV rfl,aV rfl,aV (κ (λx=>B.cells [V.d (D.str x)]) hD),aV rfl,aV (by rw[ht]),trivial⟩,rfl⟩
    have:=κ List.length hd
    rw[dt]at this
    simp at this
    omega
theorem vk{K:KT}(l:List Nat)(h0:l≠[])(hl:l.length<=24)(hs:∀n∈l,n<100)(hk:∀s,K (.ret (.tu [])) (TR l s)) :
  Z1 225 [.fc 121 [.p 0 0,.p 1 0],.p 2 0,.p 3 0,.p 4 0] [.cells [.nl 1],.cells [.d (.bool true)],.cells [.d (.str [46])],.cells [.d (.str (b8 l))],.cells [.d (.int .i64 0)]] K:=
 Sat.own (by decide) 0 0 rfl rfl (Gn l h0 hl hs hk)
theorem BJ(l:List Nat)(h0:l≠[])(hl:l.length<=24)(hs:∀n∈l,n<100):Z0 84 [.d (.str (b8 l))] (.tu [.d (.sl 1 (fG l)),.d (.bool true)]):=by
 have hlen:=qF hs;refine sh0 Tryz.f84 ?_
 repeat' ((conv=>whnf);first|exact zf|refine zm ?_|refine(Gy (b8 l) [46] ?_)|refine zr0 ?_|refine(vk l h0 hl hs (λs=>?_))|refine zB ?_ ?_|refine zt ?_|refine zu ?_|intro _)
theorem MD{K:KT}(l:List Nat)(h0:l≠[])(hl:l.length<=24)(hs:∀n∈l,n<100)(hk:K (.ret (.tu [.os 0,.d (.bool true)])) [.rows 1 (fG l)]) :
  Z1 84 [.d (.str (b8 l))] [] K:=by
 have hlen:=qF hs;refine si0 Tryz.f84 ?_
 repeat' ((conv=>whnf);first|exact zf|refine zm ?_|refine(Gy (b8 l) [46] ?_)|refine zr0 ?_|refine(vk l h0 hl hs (λs=>?_))|refine zB ?_ ?_|refine zt ?_|refine zu ?_|intro _)
 exact hk
theorem xE(l:List Nat)(h0:l≠[])(hl:l.length<=24)(hs:∀n∈l,n<100):Z0 48 [.d (.str (b8 l))] (.d (.bool true)):=by
 have h1:=BJ l h0 hl hs;refine sh0 Tryz.f48 ?_
 repeat' ((conv=>whnf);first|exact zf|refine zm ?_|refine zc h1 ?_|refine zB ?_ ?_|intro _)
theorem P5(l:List Nat)(h0:l≠[])(hl:l.length<=24)(hs:∀n∈l,n<100):Z0 47 [.d (.sl 1 (fG l))] (.tu [.d (.str (b8 l)),.d (.bool true)]):=by
 refine .inl ⟨by kernel_rfl,λG w ρ vs hR hlv hv=>?_⟩
 match ρ,hR.len with
 |[],_=>
 match vs,hlv with
 |[a0],_=>
 have hlen:=qF hs;have hne:fG l≠[]:=λh=>h0 (List.map_eq_nil_iff.1 h);obtain⟨b,o,c,U,e1,h2,hb,h3⟩:∃(b o c:Nat)(U:Nat->Value),a0=.slice (some ⟨b,o,none⟩) l.length c/\l.length<=c/\G b/\∀(j n:Nat),l[j]?=some n->w.cell? ⟨b,o+j,none⟩=some (U j)/\bp G w (U j) (.int .i64 n):=by
  have:=(hv 0 _ rfl).rj;generalize hx:fG l=rs at this hne;cases this with
  |yv=>exact absurd rfl hne
  |sle=>exact absurd rfl hne
  |sl b o c _ _ U g1 g2 g3 g4 g5 g6=>
   subst hx;refine⟨b,o,c,λj=>U j 0,by rw[lV],by rw[lV]at g1;exact g1,g3,λj n hj=>?_⟩;have hr:(fG l)[j]?=some [.int .i64 n]:=by simp[fG,hj]
   have h5:=g5 j _ 0 _ hr rfl;rw[show j*1+0=j by omega]at h5;exact⟨h5,g6 j _ 0 _ hr rfl⟩
 subst e1;refine Calls.mono (Um l h0 hl hs b o c w (λj n hj=>?_) (hR.gl b hb)) ?_
 .obtain⟨h4,h5⟩:=h3 j n hj;rw[h4];generalize U j=x at h5;cases h5;rfl
 .rintro e w' ⟨rfl,hB⟩
  have hg:ga w w':=⟨hB.size,hB.block,hB.os,hB.tape,hB.output⟩
  refine⟨G,[],_,.ret (.tu [.d (.str (b8 l)),.d (.bool true)]),(Ok.refl hR).grow hg (λ_ h=>h) (λ_ h=>.inl h),⟨_,rfl,.tu _ _ rfl λi x hx=>?_⟩,rfl,rfl⟩
  match i,hx with
  |0,hx=>cases hx;exact .c (.k (.d (.str ⟨(b8 l).toArray⟩ (by rw[yB];unfold maxLen;omega))))
  |1,hx=>cases hx;exact .c (.k (.d (.bool true)))
theorem K1(l:List Nat)(n:Nat)(h0:l≠[])(hl:l.length<24)(hs:∀n∈l,n<100)(hn:n<100) :
  Z0 340 [.d (.str (b8 l)),.d (.int .i64 n)] (.tu [.d (.str (b8 (l++[n]))),.d (.bool true)]):=by
 have hm:=P5 (l++[n]) (by simp) (by simp;omega) (λx hx=>(aT.1 hx).elim (hs x) λh=>by rw[aF.1 h];exact hn);rw[<-vz]at hm;have hl2:=lV l;refine sh0 Tryz.f340 ?_
 repeat' ((conv=>whnf);first|exact zf|refine zm ?_|refine(MD l h0 (by omega) hs ?_)|refine(.inl ⟨_,hm,rfl,?_⟩)|refine zB ?_ ?_|refine zt ?_|refine zu ?_|intro _)
theorem Yb{x y:Int}(h:(x != y)=false):x=y:=by simpa using h
theorem we{a b:List Nat}{i x y:Nat}(hx:a[i]?=some x)(hy:b[i]?=some y)(he:a.take i=b.take i):a.take (i+1)=b.take (i+1)<->x=y:=by
 rw[bV,bV,hx,hy,he];simp
def vZ(x y:Int):Int:=if x<y then -1 else if y<x then 1 else 0
theorem JA(x:Int):Z0 158 [.d (.int .i64 x)] (.d (.bool false)):=by
 refine sh0 Tryz.f158 ?_
 repeat' ((conv=>whnf);first|exact zf|refine zm ?_|refine zB ?_ ?_|intro _)
 refine cD ?_;show V.d (D.bool (x != x))=_;simp
theorem SM(x y:Int):Z0 124 [.d (.int .i64 x),.d (.int .i64 y)] (.d (.int .i64 (vZ x y))):=by
 have h1:=JA x;have h2:=JA y;unfold vZ;refine sh0 Tryz.f124 ?_
 by_cases h:x<y
 .rw[ζ h]
  repeat' ((conv=>whnf);first|exact zf|refine zm ?_|refine zc h1 ?_|refine zc h2 ?_|refine zB ?_ ?_|refine zt ?_|refine zu ?_|intro _)
 .rw[η h]
  by_cases h':y<x
  .rw[ζ h']
   repeat' ((conv=>whnf);first|exact zf|refine zm ?_|refine zc h1 ?_|refine zc h2 ?_|refine zB ?_ ?_|refine zt ?_|refine zu ?_|intro _)
  .rw[η h']
   repeat' ((conv=>whnf);first|exact zf|refine zm ?_|refine zc h1 ?_|refine zc h2 ?_|refine zB ?_ ?_|refine zt ?_|refine zu ?_|intro _)
def cmpL:List Nat->List Nat->Int
 |[],[]=>0
 |[],_::_=> -1
 |_::_,[]=>1
 |x::a,y::b=>if vZ x y=0 then cmpL a b else vZ x y
theorem Fe(x:Int):vZ x x=0:=by simp[vZ]
theorem pD:∀(i:Nat)(a b:List Nat),i<=a.length->i<=b.length->a.take i=b.take i->cmpL a b=cmpL (a.drop i) (b.drop i)
 |0,_,_,_,_,_=>rfl
 |i+1,x::a,y::b,h1,h2,h=>by
  simp only[dX,List.cons.injEq]at h;rw[h.1,cmpL,ζ (Fe _)];exact pD i a b (by simpa using h1) (by simpa using h2) h.2
 |i+1,[],_,h1,_,_=>by simp at h1
 |i+1,_::_,[],_,h2,_=>by simp at h2
theorem NX{a b:List Nat}{i x y:Nat}(hx:a[i]?=some x)(hy:b[i]?=some y)(he:a.take i=b.take i)(hn:vZ x y≠0):cmpL a b=vZ x y:=by
 have h1:=(aC.1 hx).1;have h2:=(aC.1 hy).1;rw[pD i a b (by omega) (by omega) he,bC h1,bC h2];rw[aA h1]at hx;rw[aA h2]at hy;rw[af hx,af hy,cmpL,η hn]
theorem NY{x y:Nat}(h:vZ x y=0):x=y:=by
 unfold vZ at h;split at h
 .omega
 .split at h<;>omega
theorem Fc(a b:List Nat):Z0 86 [.d (.sl 1 (fG a)),.d (.sl 1 (fG b))] (.d (.int .i64 (cmpL a b))):=by
 have ha:=lV a;have hb:=lV b;refine sh0 Tryz.f86 ?_
 repeat' ((conv=>whnf);first|exact zf|refine zm ?_|refine zB ?_ ?_|intro _)
 conv=>whnf
 refine bA [(0,.d (.sl 1 (fG a))),(1,.d (.sl 1 (fG b))),(9,.d (.sl 1 (fG a))),(10,.d (.int .i64 (fG a).length))] (λi:Nat=>i<=a.length/\i<=b.length/\a.take i=b.take i) (λi=>[(11,.d (.int .i64 i))]) (λ_=>[]) (λi=>a.length-i) 0 ⟨aY _,aY _,rfl⟩ ?_ ?_ ?_ (λi hi=>?_)
 .exact zzz
 .exact zzz
 .exact rfl
 repeat' ((conv=>whnf);first|exact zf|refine zm ?_|refine zB ?_ ?_|intro _)
 refine aU (λhlt=>?_) (λhge=>?_)
 .have hlt:i<a.length:=by rw[<-ha];simpa using hlt
  obtain⟨x,hx⟩:∃x,a[i]?=some x:=⟨_,aA hlt⟩
  repeat' ((conv=>whnf);first|exact zf|refine zm ?_|refine zB ?_ ?_|intro _)
  refine⟨[D.int .i64 x],⟨by omega,by simp[fG,hx],rfl⟩,?_⟩
  repeat' ((conv=>whnf);first|exact zf|refine zm ?_|refine zB ?_ ?_|intro _)
  refine aU (λhout=>?_) (λhin=>?_)
  .skip
   repeat' ((conv=>whnf);first|exact zf|refine zm ?_|refine zB ?_ ?_|intro _)
   have hib:i=b.length:=by simp at hout;omega
   refine cD (κ (λx=>V.d (.int .i64 x)) ?_);rw[pD i a b hi.1 hi.2.1 hi.2.2,kR (l:=b) (by omega),bC hlt];rfl
  .have hib:i<b.length:=by simp at hin;omega
   obtain⟨y,hy⟩:∃y,b[i]?=some y:=⟨_,aA hib⟩
   have h1:=SM x y
   repeat' ((conv=>whnf);first|exact zf|refine zm ?_|refine zB ?_ ?_|intro _)
   refine⟨[D.int .i64 y],⟨by omega,by simp[fG,hy],rfl⟩,?_⟩
   repeat' ((conv=>whnf);first|exact zf|refine zm ?_|refine zc h1 ?_|refine zB ?_ ?_|intro _)
   refine aU (λhno=>?_) (λhyes=>?_)
   .skip
    repeat' ((conv=>whnf);first|exact zf|refine zm ?_|refine zB ?_ ?_|intro _)
    refine cD (κ (λx=>V.d (.int .i64 x)) ?_);exact(NX hx hy hi.2.2 (by simpa using hno)).symm
   .skip
    repeat' ((conv=>whnf);first|exact zf|refine zm ?_|refine zB ?_ ?_|intro _)
    have hxy:=NY (Yb hyes);exact⟨i+1,⟨hlt,hib,(we hx hy hi.2.2).2 hxy⟩,aN hlt (aQ i),zzz,zzz,rfl⟩
 .have hge:i=a.length:=by
   have:¬i<a.length:=by rw[<-ha];simpa using hge
   omega
  have hc:=pD i a b hi.1 hi.2.1 hi.2.2;rw[kR (by omega)]at hc
  repeat' ((conv=>whnf);first|exact zf|refine zm ?_|refine zB ?_ ?_|intro _)
  refine aU (λhlt=>?_) (λhnl=>?_)
  .have hlt:a.length<b.length:=by simp at hlt;omega
   rw[bC (by omega)]at hc;rw[hc]
   repeat' ((conv=>whnf);first|exact zf|refine zm ?_|refine zB ?_ ?_|intro _)
  .have hnl:¬a.length<b.length:=by simp at hnl;omega
   rw[kR (by omega)]at hc;rw[hc]
   repeat' ((conv=>whnf);first|exact zf|refine zm ?_|refine zB ?_ ?_|intro _)
theorem Cv(a b:List Nat)(ha0:a≠[])(hal:a.length<=24)(has:∀n∈a,n<100)(hb0:b≠[])(hbl:b.length<=24)(hbs:∀n∈b,n<100) :
  Z0 51 [.d (.str (b8 a)),.d (.str (b8 b))] (.d (.int .i64 (cmpL a b))):=by
 have h1:=BJ a ha0 hal has;have h2:=BJ b hb0 hbl hbs;have h3:=Fc a b;refine sh0 Tryz.f51 ?_
 repeat' ((conv=>whnf);first|exact zf|refine zm ?_|refine zc h1 ?_|refine zc h2 ?_|refine zc h3 ?_|refine zB ?_ ?_|refine zt ?_|refine zu ?_|intro _)
end Go.Proofs.YtmigecldjbgneaaGreatDoor