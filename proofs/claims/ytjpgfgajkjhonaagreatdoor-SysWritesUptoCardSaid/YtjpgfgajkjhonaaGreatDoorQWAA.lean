/- Lemmas. Conditions: none. -/
import Derived.Test.YtjpgfgajkjhonaaGreatDoorQRAR
import Derived.Test.YtjpgfgajkjhonaaGreatDoorQRAQ
import Derived.Test.YtjpgfgajkjhonaaGreatDoorQRAY
import Derived.Test.YtjpgfgajkjhonaaGreatDoorQRAV
import Derived.Test.YtjpgfgajkjhonaaGreatDoorQRAX
import Derived.Test.YtjpgfgajkjhonaaGreatDoorQRBD
import Derived.Test.YtjpgfgajkjhonaaGreatDoorQRBH
import Derived.Test.YtjpgfgajkjhonaaGreatDoorQRBE
import Derived.Test.YtjpgfgajkjhonaaGreatDoorQRBJ
namespace Go.Proofs.YtjpgfgajkjhonaaGreatDoor
open Go.Vx
set_option maxRecDepth 100000
set_option maxHeartbeats 4000000
variable{keep:Bool}{vs:List V}{h:H}{K:Out->H->Prop}
def c74:C:=.seq (.gz [iS 2 (.bx (.s 0)),iS 3 (.bx (.s 1)),iS 4 (.mv (.k (.d (.bool false))))]) (.seq (.gz [iF 5 2 0,iL 6 5,iF 7 3 0,iL 8 7,iS 9 (.eq false false [1] (.s 6) (.s 8)),iM 10 9,iG 11 (.fa (.s 2) 1) 10 true,iG 12 (.ld (.s 11) (some 5)) 10 true,iG 13 (.fa (.s 3) 1) 10 true,iG 14 (.ld (.s 13) (some 5)) 10 true,iG 15 (.eq false true [0,0,2,2,2] (.s 12) (.s 14)) 10 true,iS 16 (.pk (.s 10) (.s 15) (.k (.d (.bool false)))),iM 17 16,iG 18 (.fa (.s 2) 6) 17 true,iG 19 (.ld (.s 18) none) 17 true,iG 20 (.fa (.s 3) 6) 17 true,iG 21 (.ld (.s 20) none) 17 true,iG 22 (.cf 117 [.s 19,.s 21]) 17 true,iS 23 (.pk (.s 17) (.s 22) (.k (.d (.bool false)))),iM 4 23]) (.ret))
noncomputable def s74:=sf (N:=74) (n:=24) (c:=c74) (r:=[.s 4]) Tryz.f74
def c117:C:=.seq (.gz [iS 4 (.mv (.k (.d (.bool false))))]) (.seq (.seq (.gz [iM 6 0,iS 7 (.ln (.s 6)),iM 8 1,iS 9 (.ln (.s 8)),iS 10 (.bin .neq (.s 7) (.s 9))]) (.cond (.s 10) (.seq (.gz [iS 4 (.mv (.k (.d (.bool false))))]) (.ret)) (.skip))) (.seq (.seq (.gz [iM 11 0,iS 12 (.ln (.s 11)),iS 13 (.mv (.k iz))]) (.block 0 (.loop (.seq (.gz [iS 14 (.bin .lss (.s 13) (.s 12))]) (.seq (.cond (.s 14) (.skip) (.exit 0)) (.seq (.block 1 (.seq (.gz [iM 15 13,iM 5 15]) (.seq (.zh [(iM 16 0,[]),(iM 17 5,[]),(iS 18 (.ia (.s 16) (.s 17) 7),[0,1]),(iD 19 18 7,[2,0,1]),(iM 20 1,[]),(iM 21 5,[]),(iS 22 (.ia (.s 20) (.s 21) 7),[4,5]),(iD 23 22 7,[6,4,5])] [iS 24 (.eq true true [2,1,0,0,2,2,2] (.s 19) (.s 23))]) (.cond (.s 24) (.seq (.gz [iS 4 (.mv (.k (.d (.bool false))))]) (.ret)) (.skip))))) (.gz [iS 25 (.bin .add (.s 13) (.k (.d (.int .i64 1)))),iM 13 25]))))))) (.seq (.gz [iS 4 (.mv (.k (.d (.bool true))))]) (.ret))))
noncomputable def s117:=sf (N:=117) (n:=26) (c:=c117) (r:=[.s 4]) Tryz.f117
end Go.Proofs.YtjpgfgajkjhonaaGreatDoor
namespace Go.Proofs.YtjpgfgajkjhonaaGreatDoor
open Go.Vx
set_option maxRecDepth 100000
set_option maxHeartbeats 4000000
variable{keep:Bool}{vs:List V}{h:H}{K:Out->H->Prop}
def c35:C:=.seq (.gz [iS 2 (.bx (.s 0)),iS 3 (.bx (.s 1)),iS 4 (.mv (.k (.d (.bool false))))]) (.seq (.seq (.gz [iF 5 2 0,iL 6 5,iF 7 3 0,iL 8 7,iS 9 (.bin .neq (.s 6) (.s 8)),iM 10 9,iG 11 (.fa (.s 2) 1) 10 false,iG 12 (.ld (.s 11) (some 2)) 10 false,iG 13 (.fa (.s 3) 1) 10 false,iG 14 (.ld (.s 13) (some 2)) 10 false,iG 15 (.eq true true [2,2] (.s 12) (.s 14)) 10 false,iS 16 (.pk (.s 10) (.k (.d (.bool true))) (.s 15)),iM 17 16,iG 18 (.fa (.s 2) 3) 17 false,iG 19 (.ld (.s 18) (some 5)) 17 false,iG 20 (.fa (.s 3) 3) 17 false,iG 21 (.ld (.s 20) (some 5)) 17 false,iG 22 (.eq true true [0,0,2,2,2] (.s 19) (.s 21)) 17 false,iS 23 (.pk (.s 17) (.k (.d (.bool true))) (.s 22)),iM 24 23,iG 25 (.fa (.s 2) 8) 24 false,iG 26 (.ld (.s 25) none) 24 false,iG 27 (.fa (.s 3) 8) 24 false,iG 28 (.ld (.s 27) none) 24 false,iG 29 (.eq true false [1] (.s 26) (.s 28)) 24 false,iS 30 (.pk (.s 24) (.k (.d (.bool true))) (.s 29)),iM 31 30,iG 32 (.fa (.s 2) 9) 31 false,iG 33 (.ld (.s 32) none) 31 false,iG 34 (.fa (.s 3) 9) 31 false,iG 35 (.ld (.s 34) none) 31 false,iG 36 (.eq true false [1] (.s 33) (.s 35)) 31 false,iS 37 (.pk (.s 31) (.k (.d (.bool true))) (.s 36))]) (.cond (.s 37) (.seq (.gz [iS 4 (.mv (.k (.d (.bool false))))]) (.ret)) (.skip))) (.seq (.gz [iF 38 2 10,iD 39 38 7,iF 40 3 10,iD 41 40 7,iS 42 (.cf 74 [.s 39,.s 41]),iM 43 42,iG 44 (.fa (.s 2) 17) 43 true,iG 45 (.ld (.s 44) none) 43 true,iG 46 (.fa (.s 3) 17) 43 true,iG 47 (.ld (.s 46) none) 43 true,iG 48 (.bin .eql (.s 45) (.s 47)) 43 true,iS 49 (.pk (.s 43) (.s 48) (.k (.d (.bool false)))),iM 50 49,iG 51 (.fa (.s 2) 18) 50 true,iG 52 (.ld (.s 51) none) 50 true,iG 53 (.fa (.s 3) 18) 50 true,iG 54 (.ld (.s 53) none) 50 true,iG 55 (.bin .eql (.s 52) (.s 54)) 50 true,iS 56 (.pk (.s 50) (.s 55) (.k (.d (.bool false)))),iM 4 56]) (.ret)))
noncomputable def s35:=sf (N:=35) (n:=57) (c:=c35) (r:=[.s 4]) Tryz.f35
end Go.Proofs.YtjpgfgajkjhonaaGreatDoor
namespace Go.Proofs.YtjpgfgajkjhonaaGreatDoor
open Go.Vx
set_option maxRecDepth 100000
set_option maxHeartbeats 4000000
variable{keep:Bool}{vs:List V}{h:H}{K:Out->H->Prop}
def c8:C:=.seq (.gz [iS 6 (.bx (.s 2)),iS 8 (.mv (.k (.d (.bool false))))]) (.seq (.gz [iS 28 (.cf 9 []),iM 9 28]) (.seq (.seq (.gz [iM 29 9,iS 30 (.un .not (.s 29))]) (.cond (.s 30) (.seq (.gz [iS 8 (.mv (.k (.d (.bool false))))]) (.ret)) (.skip))) (.seq (.gz [iM 31 0,iM 32 1,iD 33 6 6,iS 34 (.cf 10 [.s 31,.s 32,.s 33,.k (.d (.bool false))]),iM 10 34]) (.seq (.seq (.gz [iS 11 (.mv (.k iz))]) (.block 0 (.loop (.seq (.seq (.gz [iM 35 11,iM 36 3,iS 37 (.bin .rem (.s 36) (.k (.d (.int .u8 64)))),iS 38 (.cv .i64 (.s 37)),iS 39 (.bin .lss (.s 35) (.s 38))]) (.cond (.s 39) (.skip) (.exit 0))) (.seq (.block 1 (.seq (.gz [iM 42 10,iC 43 42,iF 44 43 3,iD 45 44 20,iM 46 11,iS 47 (.cf 11 [.s 45,.s 46]),iM 12 47]) (.seq (.seq (.gz [iM 48 12,iS 49 (.bin .geq (.s 48) (.k iz))]) (.cond (.s 49) (.seq (.gz [iM 51 10,iC 52 51,iF 53 52 3,iD 54 53 20,iM 55 12,iS 56 (.cf 33 [.s 54,.s 55]),iM 50 56,iS 57 (.ex (.s 50) 0),iS 58 (.ex (.s 50) 1),iS 59 (.ex (.s 50) 2),iS 13 (.al [sz,sz,sz,sz,sz,sz,.nl 5,.nl 5,.nl 3,.nl 14,iz,iz,iz,sz,iz,iz,sz,sz,sz,.d (.bool false)]),iS 15 (.al [iz,sz,sz,iz,iz,sz,sz,sz,.d (.bool false),.d (.bool false),.d (.bool false),iz,iz,sz,sz,sz,.nl 7,iz,.d (.int .u8 0)]),iN (.st (.s 13) (.s 57) 20),iM 14 58,iN (.st (.s 15) (.s 59) 19)]) (.seq (.zh [(iM 60 10,[]),(iC 61 60,[0]),(iF 62 61 2,[1,0]),(iL 63 62,[2,1,0]),(iM 64 14,[]),(iD 65 15 19,[])] [iS 66 (.cf 14 [.s 63,.s 64,.s 65])]) (.gz [iM 67 10,iD 68 13 20,iC 69 67,iF 70 69 3,iN (.st (.s 70) (.s 68) 20)]))) (.skip))) (.seq (.zh [(iM 71 10,[]),(iC 72 71,[0]),(iF 73 72 2,[1,0]),(iL 74 73,[2,1,0]),(iS 75 (.cf 30 []),[])] [iS 76 (.cf 28 [.s 74,.s 75]),iM 16 76]) (.seq (.gz [iM 77 10,iC 78 77,iF 79 78 3,iF 80 79 2,iF 81 80 0,iD 82 81 2,iS 17 (.al [sz,sz]),iN (.st (.s 17) (.s 82) 2)]) (.seq (.gz [iM 83 10,iC 84 83,iF 85 84 3,iF 86 85 0,iL 87 86,iM 18 87]) (.seq (.zh [(iM 89 10,[]),(iC 90 89,[0]),(iF 91 90 0,[1,0]),(iD 92 91 2,[2,1,0]),(iM 93 10,[]),(iC 94 93,[4]),(iF 95 94 3,[5,4]),(iD 96 95 20,[6,5,4]),(iM 97 10,[]),(iC 98 97,[8]),(iF 99 98 2,[9,8]),(iL 100 99,[10,9,8]),(iM 101 11,[]),(iS 102 (.cf 34 [.s 92,.s 96,.s 100,.s 101]),[3,7,11,12,2,1,0,6,5,4,10,9,8]),(iM 88 102,[13,3,7,11,12,2,1,0,6,5,4,10,9,8]),(iS 103 (.ex (.s 88) 0),[14,13,3,7,11,12,2,1,0,6,5,4,10,9,8]),(iS 104 (.ex (.s 88) 1),[14,13,3,7,11,12,2,1,0,6,5,4,10,9,8]),(iS 19 (.al [sz,sz,sz,sz,sz,sz,.nl 5,.nl 5,.nl 3,.nl 14,iz,iz,iz,sz,iz,iz,sz,sz,sz,.d (.bool false)]),[]),(iS 20 (.al [.nl 20,.nl 7,.nl 6,.nl 2,.d (.bool false)]),[]),(iN (.st (.s 19) (.s 103) 20),[15,17,18,14,13,3,7,11,12,2,1,0,6,5,4,10,9,8])] [iN (.st (.s 20) (.s 104) 5)]) (.seq (.gz [iM 105 10,iD 106 19 20,iC 107 105,iF 108 107 3,iN (.st (.s 108) (.s 106) 20)]) (.seq (.gz [iM 109 10,iC 110 109,iF 111 110 2,iL 112 111,iS 113 (.cf 31 [.s 112]),iM 21 113]) (.seq (.seq (.gz [iS 22 (.mv (.k iz))]) (.block 2 (.loop (.seq (.seq (.gz [iM 114 22,iM 115 21,iS 116 (.ln (.s 115)),iS 117 (.bin .lss (.s 114) (.s 116))]) (.cond (.s 117) (.skip) (.exit 2))) (.seq (.block 3 (.seq (.zh [(iM 121 10,[]),(iC 122 121,[0]),(iF 123 122 2,[1,0]),(iL 124 123,[2,1,0]),(iM 125 21,[]),(iM 126 22,[]),(iS 127 (.ia (.s 125) (.s 126) 1),[4,5]),(iL 128 127,[6,4,5]),(iS 129 (.cf 16 [.s 124,.s 128]),[3,7,2,1,0,6,4,5]),(iM 120 129,[8,3,7,2,1,0,6,4,5]),(iS 130 (.ex (.s 120) 0),[9,8,3,7,2,1,0,6,4,5]),(iS 131 (.ex (.s 120) 1),[9,8,3,7,2,1,0,6,4,5]),(iS 23 (.al [iz,sz,sz,iz,iz,sz,sz,sz,.d (.bool false),.d (.bool false),.d (.bool false),iz,iz,sz,sz,sz,.nl 7,iz,.d (.int .u8 0)]),[]),(iN (.st (.s 23) (.s 130) 19),[10,12,9,8,3,7,2,1,0,6,4,5])] [iM 24 131]) (.seq (.gz [iM 133 16,iM 134 21,iM 135 22,iS 136 (.ia (.s 134) (.s 135) 1),iL 137 136,iS 138 (.cf 16 [.s 133,.s 137]),iM 132 138,iS 139 (.ex (.s 132) 0),iS 140 (.ex (.s 132) 1),iS 25 (.al [iz,sz,sz,iz,iz,sz,sz,sz,.d (.bool false),.d (.bool false),.d (.bool false),iz,iz,sz,sz,sz,.nl 7,iz,.d (.int .u8 0)]),iN (.st (.s 25) (.s 139) 19),iM 26 140]) (.seq (.gz [iM 141 26,iS 142 (.un .not (.s 141)),iM 143 142,iG 144 (.ld (.s 23) (some 19)) 143 false,iG 145 (.ld (.s 25) (some 19)) 143 false,iG 146 (.cf 35 [.s 144,.s 145]) 143 false,iG 147 (.un .not (.s 146)) 143 false,iS 148 (.pk (.s 143) (.k (.d (.bool true))) (.s 147)),iM 149 148,iG 150 (.mv (.s 21)) 149 true,iG 151 (.mv (.s 22)) 149 true,iG 152 (.ia (.s 150) (.s 151) 1) 149 true,iG 153 (.ld (.s 152) none) 149 true,iG 154 (.mv (.s 18)) 149 true,iG 155 (.eq true false [2] (.s 153) (.s 154)) 149 true,iS 156 (.pk (.s 149) (.s 155) (.k (.d (.bool false)))),iM 157 156,iG 158 (.ld (.s 17) (some 2)) 157 true,iG 159 (.fa (.s 23) 1) 157 true,iG 160 (.ld (.s 159) (some 2)) 157 true,iG 161 (.cf 13 [.s 158,.s 160]) 157 true,iG 162 (.un .not (.s 161)) 157 true,iS 163 (.pk (.s 157) (.s 162) (.k (.d (.bool false))))]) (.cond (.s 163) (.seq (.gz [iS 8 (.mv (.k (.d (.bool false))))]) (.ret)) (.skip)))))) (.gz [iM 118 22,iS 119 (.bin .add (.s 118) (.k (.d (.int .i64 1)))),iM 22 119])))))) (.seq (.seq (.gz [iS 27 (.mv (.k iz))]) (.block 4 (.loop (.seq (.seq (.gz [iM 164 27,iF 165 20 1,iL 166 165,iS 167 (.ln (.s 166)),iS 168 (.bin .lss (.s 164) (.s 167))]) (.cond (.s 168) (.skip) (.exit 4))) (.seq (.block 5 (.seq (.zh [(iD 171 17 2,[]),(iF 172 20 1,[]),(iL 173 172,[1]),(iM 174 27,[]),(iS 175 (.ia (.s 173) (.s 174) 7),[2,3,1]),(iF 176 175 0,[4,2,3,1]),(iD 177 176 2,[5,4,2,3,1])] [iS 178 (.cf 13 [.s 171,.s 177]),iS 179 (.un .not (.s 178))]) (.cond (.s 179) (.seq (.gz [iS 8 (.mv (.k (.d (.bool false))))]) (.ret)) (.skip)))) (.gz [iM 169 27,iS 170 (.bin .add (.s 169) (.k (.d (.int .i64 1)))),iM 27 170])))))) (.seq (.gz [iM 180 21,iS 181 (.ln (.s 180)),iM 182 16,iS 183 (.cf 25 [.s 182]),iS 184 (.bin .lss (.s 181) (.s 183))]) (.cond (.s 184) (.seq (.gz [iS 8 (.mv (.k (.d (.bool false))))]) (.ret)) (.skip)))))))))))))) (.gz [iM 40 11,iS 41 (.bin .add (.s 40) (.k (.d (.int .i64 1)))),iM 11 41])))))) (.seq (.gz [iM 185 9,iM 8 185]) (.ret))))))
noncomputable def s8:=sf (N:=8) (n:=186) (c:=c8) (r:=[.s 8]) Tryz.f8
end Go.Proofs.YtjpgfgajkjhonaaGreatDoor
namespace Go.Proofs.YtjpgfgajkjhonaaGreatDoor
open Go.Vx
set_option maxRecDepth 100000
theorem len25{K:Out->H->Prop}(s:b7)(hk:K (.ret (.d (.int .i64 s.th.length))) (jW s)):Sat Tryz.prog 25 [.p 0 0] (jW s) K:=by
 have e:(jV s.th).length=s.th.length:=List.length_map _;rw[<-e]at hk;refine sh0 Tryz.f25 ?_
 repeat' ((conv=>whnf);first|exact zf|refine zm ?_|intro _)
 exact hk
end Go.Proofs.YtjpgfgajkjhonaaGreatDoor
namespace Go.Proofs.YtjpgfgajkjhonaaGreatDoor
open Go.Vx
set_option maxRecDepth 100000
section
variable{mx:Int}{q n:Nat}{t:Th}{s:b7}{now:Int}{b:Option Nat}
theorem look_set{key nm:List UInt8}{o p:Ob}:∀{l:List (List UInt8×Ob)}{i:Nat},bW nm l=some (i,o)->bW key (l.set i (nm,p))=if key=nm then some (i,p)else bW key l
 |[],i,h=>by cases h
 |x::l,i,h=>by
  have h':(if nm=x.1 then some (0,x.2)else(bW nm l).map λx=>(x.1+1,x.2))=some (i,o):=h
  by_cases hk:nm=x.1
  .rw[if_pos hk,Option.some.injEq,Prod.mk.injEq]at h';obtain⟨rfl,_⟩:=h';show(if key=nm then some (0,p)else(bW key l).map λx=>(x.1+1,x.2))=_
   by_cases hn:key=nm
   .rw[if_pos hn,if_pos hn]
   .rw[if_neg hn,if_neg hn];show _=if key=x.1 then some (0,x.2)else _;rw[if_neg (by rw[<-hk];exact hn)]
  .rw[if_neg hk]at h';cases hl:bW nm l with
   |none=>rw[hl]at h';cases h'
   |some y=>
    obtain⟨j,o'⟩:=y;rw[hl]at h';simp only[Option.map_some,Option.some.injEq,Prod.mk.injEq]at h';obtain⟨rfl,rfl⟩:=h';show(if key=x.1 then some (0,x.2)else(bW key (l.set j (nm,p))).map λx=>(x.1+1,x.2))=_;rw[look_set hl];show _=if key=nm then some (j+1,p)else if key=x.1 then some (0,x.2)else(bW key l).map λx=>(x.1+1,x.2)
    by_cases hn:key=nm
    .rw[if_pos hn,if_pos hn,if_neg (by rw[hn];exact hk)];rfl
    .rw[if_neg hn,if_neg hn]
end
end Go.Proofs.YtjpgfgajkjhonaaGreatDoor
namespace Go.Proofs.YtjpgfgajkjhonaaGreatDoor
open Go.Vx
set_option maxRecDepth 100000
section
variable{mx:Int}{q n:Nat}{t:Th}{s:b7}{now:Int}{b:Option Nat}
theorem look_app_inv{key k:List UInt8}{o x:Ob}:∀{l:List (List UInt8×Ob)}{i:Nat},bW key (l++[(k,o)])=some (i,x)->bW key l=some (i,x)\/(x=o/\key=k)
  |[],i,h=>by
    have h':(if key=k then some (0,o)else none)=some (i,x):=h
    by_cases hk:key=k
    · rw[if_pos hk,Option.some.injEq,Prod.mk.injEq]at h'
      exact .inr ⟨h'.2.symm,hk⟩
    · rw[if_neg hk]at h';cases h'
  |p::l,i,h=>by
    have h':(if key=p.1 then some (0,p.2)else(bW key (l++[(k,o)])).map λx=>(x.1+1,x.2))=some (i,x):=h
    show(if key=p.1 then some (0,p.2)else(bW key l).map λx=>(x.1+1,x.2))=some (i,x)\/_
    by_cases hk:key=p.1
    · rw[if_pos hk]at h'⊢;exact .inl h'
    · rw[if_neg hk]at h'⊢
      cases hl:bW key (l++[(k,o)]) with
      |none=>rw[hl]at h';cases h'
      |some y=>
        obtain⟨j,y⟩:=y
        rw[hl]at h'
        simp only[Option.map_some,Option.some.injEq,Prod.mk.injEq]at h'
        obtain⟨rfl,rfl⟩:=h'
        rcases look_app_inv hl with h1|h1
        · rw[h1];exact .inl rfl
        · exact .inr h1
theorem look_addA_inv{key:List UInt8}{kp:List Nat}{o x:Ob}{i:Nat}(h:bW key (j8 s kp o b).th=some (i,x)):bW key s.th=some (i,x)\/(x=o/\key=bm kp):=by
 unfold j8 at h;cases hb:ky o.l&&(bW (bm kp) s.th).isNone with
 |false=>rw[hb]at h;exact .inl h
 |true=>rw[hb]at h;exact look_app_inv h
def Writes(t:Th)(s s':b7):Prop:=∀key i o,bW key s'.th=some (i,o)->key≠t.id->bI t.g.cur o.l=true\/∃j,bW key s.th=some (j,o)
theorem writes_same(t:Th)(s:b7):Writes t s s:=λ_ i _ h _=>.inr ⟨i,h⟩
theorem jT.writes{ma:Int}{e:Fx}{t':Th}{s':b7}(D:jT now mx q n t ma s b e t' s'):Writes t s s'/\∀x,e=.out x->bI t.g.cur x.l=true:=by
 cases D with
 |go g k st on _ _ _=>exact⟨writes_same _ _,λx hx=>by cases hx⟩
 |log x g _ _=>exact⟨writes_same _ _,λx hx=>by cases hx⟩
 |out x h1 _ _ _=>exact⟨writes_same _ _,λy hy=>by cases hy;exact h1⟩
 |set e g j nm p w k st on h1 _ _ hpl _ hfl _ _ _ _ he=>
  refine⟨λkey i o h _=>?_,λx hx=>by rcases he with rfl|⟨_,rfl,_⟩<;>cases hx⟩;have h2:=look_set (key:=key) (p:=w) h1;have h:bW key (s.th.set j (nm,w))=some (i,o):=h;rw[h2]at h
  by_cases hk:key=nm
  .rw[if_pos hk]at h;cases h;exact .inl (by rw[hpl];exact hfl)
  .rw[if_neg hk]at h;exact .inr ⟨i,h⟩
 |make w k h1 _ _ _ _ _=>
  refine⟨λkey i o h _=>?_,λx hx=>by cases hx⟩;rcases look_addA_inv h with h2|⟨rfl,_⟩
  .exact .inr ⟨i,h2⟩
  .exact .inl h1
 |fork l ro k d h1 _ _ _ _ _ _=>
  refine⟨λkey i o h _=>?_,λx hx=>by cases hx⟩;rcases look_addA_inv h with h2|⟨rfl,_⟩
  .exact .inr ⟨i,h2⟩
  .exact .inl h1
 |scope l tk ro k _ _ _ _ _ _ _ _=>exact⟨writes_same _ _,λx hx=>by cases hx⟩
theorem oO.writes{r:Rs}(T:oO now mx q n t s b r):Writes t s r.s/\∀x,r.e=.out x->bI t.g.cur x.l=true:=by
 cases T with
 |idle _=>exact⟨writes_same _ _,λx hx=>by cases hx⟩
 |core g k _ _ _=>exact⟨writes_same _ _,λx hx=>by cases hx⟩
 |M5 k ma e t' s' _ _ _ D=>exact jT.writes (t:={t with c:=k}) D
 |fin g k v ex _ _ _ _=>
  refine⟨?_,λx hx=>by cases hx⟩;show Writes t s (t_ {t with g:=g,c:=k} s v ex).2;unfold t_;split
  .exact writes_same _ _
  .dsimp only;cases hl:bW t.id s.th with
   |none=>exact writes_same _ _
   |some p=>
    obtain⟨j,w⟩:=p;dsimp only;split
    .intro key i o h hk;have h:bW key (s.th.set j (t.id,{w with v:=v,ex:=ex,dn:=true}))=some (i,o):=h;rw[look_set hl,if_neg hk]at h;exact .inr ⟨i,h⟩
    .exact writes_same _ _
end
end Go.Proofs.YtjpgfgajkjhonaaGreatDoor
namespace Go.Proofs.YtjpgfgajkjhonaaGreatDoor
open Go.Vx
set_option maxRecDepth 100000
theorem equal117(q:List Wt):bK Tryz.prog 117 [.d (.sl 7 (q.map eL)),.d (.sl 7 (q.map eL))] (.d (.bool true)):=by
 have hl:(q.map eL).length=q.length:=List.length_map _;refine s117.go (keep:=false) rfl ?_
 repeat' ((conv=>whnf);first|exact zf|refine zm ?_|refine zt ?_|refine zu ?_|intro _)
 conv=>whnf
 refine bM [(0,.d (.sl 7 (q.map eL))),(1,.d (.sl 7 (q.map eL))),(12,.d (.int .i64 (q.map eL).length))] (λi:Nat=>i<=q.length) (λi=>[(13,.d (.int .i64 i))]) (λ_=>[]) (λi=>q.length-i) 0 (Nat.zero_le _) ?_ ?_ ?_ (λi hi=>?_)
 .exact(by repeat' (first|exact trivial|exact rfl|exact Or.inl rfl|refine And.intro ?_ ?_|refine Or.inr ?_))
 .exact(by repeat' (first|exact trivial|exact rfl|exact Or.inl rfl|refine And.intro ?_ ?_|refine Or.inr ?_))
 .exact rfl
 by_cases hlt:i<q.length
 .have tx:decide ((i:Int)<((q.map eL).length:Int))=true:=by simp;omega
  have hr:(q.map eL)[(i:Int).toNat]?=some (eL q[i]):=by rw[show(i:Int).toNat=i by omega,List.getElem?_map,List.getElem?_eq_getElem hlt];rfl
  repeat' ((conv=>whnf);first|exact zf|refine zm ?_|refine(gM tx ?_)|refine⟨_,⟨by omega,hr,rfl⟩,?_⟩|refine zt ?_|refine zu ?_|intro _)
  exact⟨i+1,hlt,(by show q.length-(i+1)<q.length-i;omega),(by repeat' (first|exact trivial|exact rfl|exact Or.inl rfl|refine And.intro ?_ ?_|refine Or.inr ?_)),(by repeat' (first|exact trivial|exact rfl|exact Or.inl rfl|refine And.intro ?_ ?_|refine Or.inr ?_)),rfl⟩
 .have tx:decide ((i:Int)<((q.map eL).length:Int))=false:=by simp;omega
  repeat' ((conv=>whnf);first|exact zf|refine zm ?_|refine(gG tx ?_)|refine zt ?_|refine zu ?_|intro _)
theorem same74(v:Vr):bK Tryz.prog 74 [Bb v,Bb v] (.d (.bool true)):=by
 have h:=equal117 v.q;refine s74.go (keep:=false) rfl ?_
 repeat' ((conv=>whnf);first|exact zf|refine zm ?_|refine zc h ?_|refine zt ?_|refine zu ?_|intro _)
theorem alike35(o:Ob):bK Tryz.prog 35 [gJ o,gJ o] (.d (.bool true)):=by
 have h:=same74 o.va;refine s35.go (keep:=false) rfl ?_
 repeat' ((conv=>whnf);first|exact zf|refine zm ?_|refine zc h ?_|refine zt ?_|refine zu ?_|intro _)
 exact cJ (congrArg (λb=>V.d (D.bool b)) (beq_self_eq_true _))
end Go.Proofs.YtjpgfgajkjhonaaGreatDoor
namespace Go.Proofs.YtjpgfgajkjhonaaGreatDoor
open Go.Vx
set_option maxRecDepth 100000
theorem equalW{K:Out->H->Prop}(a b:List Wt)(hk:∀r,K (.ret (.d (.bool r))) []):Sat Tryz.prog 117 [.d (.sl 7 (a.map eL)),.d (.sl 7 (b.map eL))] [] K:=by
 have la:(a.map eL).length=a.length:=List.length_map _;have lb:(b.map eL).length=b.length:=List.length_map _;refine s117.go (keep:=false) rfl ?_
 by_cases hl:a.length=b.length
 .have tl:(((a.map eL).length:Int) != ((b.map eL).length:Int))=false:=by rw[la,lb,hl];simp
  repeat' ((conv=>whnf);first|exact zf|refine zm ?_|refine(gG tl ?_)|refine zt ?_|refine zu ?_|intro _)
  conv=>whnf
  refine bM [(0,.d (.sl 7 (a.map eL))),(1,.d (.sl 7 (b.map eL))),(12,.d (.int .i64 (a.map eL).length))] (λi:Nat=>i<=a.length) (λi=>[(13,.d (.int .i64 i))]) (λ_=>[]) (λi=>a.length-i) 0 (Nat.zero_le _) ?_ ?_ ?_ (λi hi=>?_)
  .exact(by repeat' (first|exact trivial|exact rfl|exact Or.inl rfl|refine And.intro ?_ ?_|refine Or.inr ?_))
  .exact(by repeat' (first|exact trivial|exact rfl|exact Or.inl rfl|refine And.intro ?_ ?_|refine Or.inr ?_))
  .exact rfl
  by_cases hlt:i<a.length
  .have tx:decide ((i:Int)<((a.map eL).length:Int))=true:=by simp;omega
   have hb:i<b.length:=by omega
   have hra:(a.map eL)[(i:Int).toNat]?=some (eL a[i]):=by rw[show(i:Int).toNat=i by omega,List.getElem?_map,List.getElem?_eq_getElem hlt];rfl
   have hrb:(b.map eL)[(i:Int).toNat]?=some (eL b[i]):=by rw[show(i:Int).toNat=i by omega,List.getElem?_map,List.getElem?_eq_getElem hb];rfl
   repeat' ((conv=>whnf);first|exact zf|refine zm ?_|refine(gM tx ?_)|refine⟨_,⟨by omega,hra,rfl⟩,?_⟩|refine⟨_,⟨by omega,hrb,rfl⟩,?_⟩|refine(aW (λ_=>?_) (λ_=>?_))|intro _)
   all_goals first
    |exact hk _
    |exact⟨i+1,hlt,(by show a.length-(i+1)<a.length-i;omega),(by repeat' (first|exact trivial|exact rfl|exact Or.inl rfl|refine And.intro ?_ ?_|refine Or.inr ?_)),(by repeat' (first|exact trivial|exact rfl|exact Or.inl rfl|refine And.intro ?_ ?_|refine Or.inr ?_)),rfl⟩
  .have tx:decide ((i:Int)<((a.map eL).length:Int))=false:=by simp;omega
   repeat' ((conv=>whnf);first|exact zf|refine zm ?_|refine(gG tx ?_)|refine zt ?_|refine zu ?_|intro _)
   exact hk _
 .have tl:(((a.map eL).length:Int) != ((b.map eL).length:Int))=true:=by rw[la,lb];simp;omega
  repeat' ((conv=>whnf);first|exact zf|refine zm ?_|refine(gM tl ?_)|refine zt ?_|refine zu ?_|intro _)
  exact hk _
theorem sameW{K:Out->H->Prop}(v w:Vr)(hk:∀r,K (.ret (.d (.bool r))) []):Sat Tryz.prog 74 [Bb v,Bb w] [] K:=by
 have h:=λ{K:Out->H->Prop}=>equalW (K:=K) v.q w.q;refine s74.go (keep:=false) rfl ?_
 repeat' ((conv=>whnf);first|exact zf|refine zm ?_|refine(h (λr=>?_))|refine aW (λhb=>?_) (λhb=>?_)|intro _)
 all_goals exact hk _
theorem alikeW{K:Out->H->Prop}(o p:Ob)(hk:∀r,K (.ret (.d (.bool r))) []):Sat Tryz.prog 35 [gJ o,gJ p] [] K:=by
 have h:=λ{K:Out->H->Prop}=>sameW (K:=K) o.va p.va;refine s35.go (keep:=false) rfl ?_
 repeat' ((conv=>whnf);first|exact zf|refine zm ?_|refine(h (λr=>?_))|refine aW (λhb=>?_) (λhb=>?_)|intro _)
 all_goals exact hk _
end Go.Proofs.YtjpgfgajkjhonaaGreatDoor
namespace Go.Proofs.YtjpgfgajkjhonaaGreatDoor
open Go.Vx
set_option maxRecDepth 100000
theorem getO_of{s:b7}{key:List UInt8}(h:key∈names s):∃j o,bW key s.th=some (j,o)/\gk s key=o/\gu s key=true:=by
 cases hl:bW key s.th with
 |none=>exact absurd h (nk hl)
 |some p=>
  obtain⟨j,o⟩:=p;exact⟨j,o,rfl,by unfold gk;rw[hl];rfl,by unfold gu;rw[hl];rfl⟩
theorem phi_pos{mx:Int}{n:Nat}{t:Th}(h:gN mx n t):0<=uh t:=by
 obtain⟨p,hp⟩:=h.pa;have h1:=yN λx hx=>by
  obtain⟨p,hp⟩:=(h.sc x hx).pa;exact hp.r0
 have h2:=hp.r0;unfold uh;omega
structure WIx(q n m:Nat)(t:Th)(s:b7):Prop where
  th:gN 255 n t
  so:fy 255 q n s
  own:Own t
  co:qJ s
  phx:uh t<=15
  nm:(names s).length<=m
theorem WIx.strip{q n m:Nat}{t:Th}{s:b7}(h:WIx q n m t s){nm':kA}(hn:nm'.map strip=s.nm.map strip):WIx q n m t ⟨s.th,nm'⟩:=
 ⟨h.th,h.so.strip hn,h.own,h.co.strip hn,h.phx,h.nm⟩
theorem made_len{t t':Th}{s s':b7}{g:Int}{m:Nat}(h:Made t t' s s' g)(hg:0<=g)(hp:uh t<=15)(h0:0<=uh t')(hm:(names s).length<=m):uh t'<=15/\(names s').length<=m+15/\∃l,names s'=names s++l:=by
 obtain⟨l,h1,h2,_⟩:=h.ex;refine⟨by omega,?_,l,h1⟩;rw[h1,List.length_append];omega
theorem WIx.leave{q n m:Nat}{t:Th}{s:b7}(h:WIx q n m t s)(now:Int)(b:Option Nat):WIx (q+1) (n+1) (m+15) (dA t s now b).1 (dA t s now b).2:=by
 obtain⟨k1,k2⟩:=jt (now:=now) h.th h.so (by decide) b;obtain⟨o1,o2⟩:=Ap (s:=s) h.th h.own now b;obtain⟨a1,a2,_⟩:=made_len o2 (Int.le_refl _) h.phx (phi_pos k1) h.nm;exact⟨k1,k2,o1,EO h.th h.co now b,a1,a2⟩
theorem oO.AR{now mx:Int}{q n:Nat}{t:Th}{s:b7}{b:Option Nat}{r:Rs}(T:oO now mx q n t s b r):∀x,r.e=.out x->cL x.l:=by
 cases T with
 |idle|core|fin=>exact λx h=>by cases h
 |M5 k ma e t' s' _ _ _ D=>
  cases D with
  |out x _ _ h=>exact λy hy=>by cases hy;exact h
  |fork=>exact λy hy=>by cases hy
  |set e g i nm o p k st on _ _ _ _ _ _ _ _ _ _ he=>exact λy hy=>by rcases he with rfl|⟨_,rfl,_⟩<;>cases hy
  |go|log|make|scope=>exact λy hy=>by cases hy
theorem WIx.tick{q n m:Nat}{t:Th}{s:b7}{now:Int}{im:Im}(h:WIx q n m t s)(hP:pY im)(hn:n<40000000)(b:Option Nat) :
  WIx (q+1) (n+2) (m+15) (FP im t s now b).t (FP im t s now b).s/\Writes t s (FP im t s now b).s/\(∀x,(FP im t s now b).e=.out x->bI t.g.cur x.l=true/\cL x.l)/\∃l,names (FP im t s now b).s=names s++l:=by
 have T:=JT (now:=now) hP h.th h.so (by decide) (by decide) (by omega) b;obtain⟨k1,k2⟩:=T.keep h.th h.so (by decide);obtain⟨o1,o2,o3⟩:=T.made h.th h.own;obtain⟨w1,w2⟩:=T.writes;have hs:=T.AR;have hg:0<=jQ (FP im t s now b).e:=by
  generalize(FP im t s now b).e=E at o3;cases E with
  |fork x=>exact(o3 x rfl).1
  |no|out|log|KZ=>exact Int.le_refl _
 obtain⟨a1,a2,a3⟩:=made_len o2 hg h.phx (phi_pos k1) h.nm;exact⟨⟨k1,⟨Nat.le_succ_of_le k2.nm,λp hp=>⟨Nat.le_succ_of_le (k2.ns p hp).1,(k2.ns p hp).2⟩,k2.th⟩,o1,T.WB h.th h.co,a1,a2⟩,w1,λx hx=>⟨w2 x hx,hs x hx⟩,a3⟩
theorem do34R{K:Out->H->Prop}(im:Im)(t:Th)(s:b7)(now:Int)(h:t.st=0->Rw im t s now)(hk:∀b R E,R=FP im t s now b->E=R.e.ef R.d->K (.ret (.tu [ep R.t,re E])) (jW R.s)) :
 Sat Tryz.prog 34 [x4 im,ep t,.p 0 0,.d (.int .i64 now)] (jW s) K:=Nz im t s now h λb=>hk b _ _ rfl rfl
theorem out_of{e:Fx}{d:Bool}{P:Ev->Prop}(h:∀x,e=.out x->P x):∀x∈(e.ef d).out,P x:=by
 intro y hy;cases e with
 |out x=>rw[List.mem_singleton.1 hy];exact h x rfl
 |no|fork|log|KZ=>cases hy
theorem out_le{e:Fx}{d:Bool}:(e.ef d).out.length<=1:=by cases e<;>first|exact Nat.le_refl 1|exact Nat.zero_le 1
theorem wi_begin{q:Nat}{x:FT}(hx:yT x){s:b7}(hb:D2 255 q 10 s):WIx q 10 100 (oN x) s:=
 have hr:=GM hx hb
 ⟨hr.th,hr.so,hr.own,hb.co,by
  have h1:=hr.sum;have hr2:x.ro.tmod 16=x.ro % 16:=Int.tmod_eq_emod_of_nonneg hx.ro.1;have h2:(oN x).ro=x.ro.tmod 16:=rfl;omega,by
  have h0:=yV _ _ hb.co.nd (λy hy=>by
   obtain⟨p,hp,rfl⟩:=List.mem_map.1 hy;exact hb.nm p hp)
  have h08:iI.length=8:=rfl;omega⟩
@[irreducible] def Hold(p:Prop):Prop:=p
theorem hold{p:Prop}(h:Hold p):p:=by unfold Hold at h;exact h
theorem unhold{p:Prop}(h:p):Hold p:=by unfold Hold;exact h
def b8:C:=match c8 with
 |.seq _ (.seq _ (.seq _ (.seq _ (.seq (.seq _ (.block _ (.loop b))) _))))=>b
 |_=>.skip
end Go.Proofs.YtjpgfgajkjhonaaGreatDoor
namespace Go.Proofs.YtjpgfgajkjhonaaGreatDoor
open Go.Vx
set_option maxRecDepth 100000
set_option maxHeartbeats 40000000 in
theorem iterN{K:Ex->T->H->Prop}{q i:Nat}{im:Im}{x:FT}{t:Th}{s:b7}{st:Int}(hP:pY im)(hE:WIx (q+10+2*i) (10+3*i) (100+30*i) t s)(hlt:i<(st % 64).toNat)(hst:0<=st/\st<=255)(hq:q<70000000)(hs:t.sc[jD (i:Int) t.sc]?=none) :
  fl ([(11,.d (.int .i64 i))]++[(3,.d (.int .u8 st)),(9,.d (.bool true)),(10,.p 1 0)]) λt0=>wx (Sat Tryz.prog) ow 0 b8 t0 (PO im x t s) λe t' h'=>match e with
   |.p7=>fl (Tm h') λl=>Tw l t' h' λt' h'=>∃y:Nat×Th×b7,(y.1<=(st % 64).toNat/\WIx (q+10+2*y.1) (10+3*y.1) (100+30*y.1) y.2.1 y.2.2)/\(st % 64).toNat-y.1<(st % 64).toNat-i/\lD t' ([(11,.d (.int .i64 y.1))]++[(3,.d (.int .u8 st)),(9,.d (.bool true)),(10,.p 1 0)])/\lE h' (PO im x y.2.1 y.2.2)/\yb 0 ([(11,.d (.int .i64 y.1))]++[(3,.d (.int .u8 st)),(9,.d (.bool true)),(10,.p 1 0)]) (PO im x y.2.1 y.2.2)=true
   |.ext i=>K (.ext i) t' h'
   |.ret=>K .ret t' h'
   |.fg v=>K (.fg v) t' h':=by
 have hm:st.tmod 64=st % 64:=Int.tmod_eq_emod_of_nonneg hst.1;have tx:decide ((i:Int)<st.tmod 64)=true:=by rw[hm];simp;omega
 have h11:=UP t (i:Int);unfold Ej at h11;have hnl:¬jD (i:Int) t.sc<t.sc.length:=λhlt=>by rw[List.getElem?_eq_getElem hlt]at hs;cases hs
 rw[if_neg hnl]at h11;have hlv:dA t s (i:Int) none=(t,s):=by unfold dA;rw[hs]
 have hW1:=hE.leave (i:Int) none;rw[hlv]at hW1;have hW1:WIx (q+10+2*i+1) (10+3*i+1) (100+30*i+15) t s:=hW1;have h28:=λ{K:Out->H->Prop}=>MC (K:=K) s hW1.co hW1.so (by omega) Ky
 repeat' ((conv=>whnf);first|exact zf|refine zm ?_|refine(gM tx ?_)|refine zc h11 ?_|refine(gG (by decide) ?_)|refine zc Hl ?_|refine(.inr ?_:(∃_,_)\/_)|refine(h28 (λnm1 r hst1 hr=>hold ?_))|refine And.intro ?_ ?_|intro _)
 all_goals
  have hr:r.th=s.th:=by rw[hr,K6]
  have hW2:=hW1.strip hst1;have h34:=λ{K:Out->H->Prop}=>do34R (K:=K) im t ⟨s.th,nm1⟩ (i:Int) (λ_=>hW2.th.T hP hW2.so (by decide) ⟨by omega,by omega⟩ (by omega) (by omega));refine unhold ?_
  repeat' ((conv=>whnf);first|exact zf|refine(dG (dG ?_))|refine zm ?_|refine(.inr ?_:(∃_,_)\/_)|refine(h34 (λb' R E hR hE2=>?_))|refine And.intro ?_ ?_|intro _)
 all_goals
  obtain⟨hW3,w1,w2,ln,w3⟩:=hW2.tick (now:=(i:Int)) hP (by omega) b';rw[<-hR]at hW3 w1 w2 w3;have w3:names R.s=names s++ln:=w3;have hco:=hW3.co;obtain⟨ks,k1,k2⟩:=yZ R.s.th hco.gd;have hks:ks.length=(names R.s).length:=by
   have:=congrArg List.length k1;rw[List.length_map,List.length_map]at this;unfold names;rw[List.length_map];exact this.symm
  have hN:=hW3.nm;have h31:=λ{K:Out->H->Prop}=>Ld (K:=K) R.s ks k1 k2 hco.nd (by omega)
  repeat' ((conv=>whnf);first|exact zf|refine zm ?_|refine(.inr ?_:(∃_,_)\/_)|refine(h31 (λl hl=>?_))|intro _)
 all_goals
  have hlr:(cW (l.map bm)).length=l.length:=by rw[gr,List.length_map]
  conv=>whnf
 all_goals try
  refine bM [(3,.d (.int .u8 st)),(9,.d (.bool true)),(10,.p 1 0),(11,.d (.int .i64 i)),(16,.p 5 0),(17,.p 8 0),(18,.d (.str t.id)),(20,.p 10 0),(21,.os 11)] (λk:Nat=>k<=l.length) (λk=>[(22,.d (.int .i64 k))]) (λ_=>PO im x R.t R.s++[.cells [.mp 6,.mp 7],.dm (jV r.th),.ms 1 (kM r.nm) none none,.cells [.d (.str t.g.cur.s),.d (.str t.g.cur.i)],.no,.cells ((xQ E).map .d),.rows 1 (cW (l.map bm))]) (λk=>l.length-k) 0 (Nat.zero_le _) ?_ ?_ ?_ (λk hk=>?_)
  .repeat' (first|exact trivial|exact rfl|exact Or.inl rfl|refine And.intro ?_ ?_|refine Or.inr ?_)
  .repeat' (first|exact trivial|exact rfl|exact Or.inl rfl|refine And.intro ?_ ?_|refine Or.inr ?_)
  .exact(by kernel_rfl)
 all_goals try
  refine bM [(3,.d (.int .u8 st)),(9,.d (.bool true)),(10,.p 1 0),(11,.d (.int .i64 i)),(16,.p 5 0),(17,.p 8 0),(18,.d (.str t.id)),(20,.p 9 0),(21,.os 11)] (λk:Nat=>k<=l.length) (λk=>[(22,.d (.int .i64 k))]) (λ_=>PO im x R.t R.s++[.cells [.mp 6,.mp 7],.dm (jV r.th),.ms 1 (kM r.nm) none none,.cells [.d (.str t.g.cur.s),.d (.str t.g.cur.i)],.cells ((xQ E).map .d),.no,.rows 1 (cW (l.map bm))]) (λk=>l.length-k) 0 (Nat.zero_le _) ?_ ?_ ?_ (λk hk=>?_)
  .repeat' (first|exact trivial|exact rfl|exact Or.inl rfl|refine And.intro ?_ ?_|refine Or.inr ?_)
  .repeat' (first|exact trivial|exact rfl|exact Or.inl rfl|refine And.intro ?_ ?_|refine Or.inr ?_)
  .exact(by kernel_rfl)
 all_goals
  by_cases hkl:k<l.length
  .have tk:decide ((k:Int)<((cW (l.map bm)).length:Int))=true:=by rw[hlr];simp;omega
   have hrow:(cW (l.map bm))[(k:Int).toNat]?=some [D.str (bm l[k])]:=by rw[show(k:Int).toNat=k by omega];unfold cW;rw[List.getElem?_map,List.getElem?_map,List.getElem?_eq_getElem hkl];rfl
   have hin:bm l[k]∈names R.s:=by
    show _∈R.s.th.map (·.1);rw[k1];exact List.mem_map.2 ⟨_,hl.mem_iff.1 (List.getElem_mem hkl),rfl⟩
   obtain⟨j,o,o1,o2,o3⟩:=getO_of hin;have hgA:=λ{K:Out->H->Prop}=>pj (K:=K) R.s (bm l[k]) (Qv hW3.so (by omega) _);rw[o2,o3]at hgA;have hgC:Sat Tryz.prog 16 [.p 0 0,.d (.str (bm l[k]))] (jW R.s) λout h=>out=.ret (.tu [gJ o,.d (.bool true)])/\h=jW R.s:=hgA ⟨rfl,rfl⟩;have hgB:=λ{K:Out->H->Prop}=>pj (K:=K) r (bm l[k]) (by
    have:=Qv hW2.so (by omega) (bm l[k]);unfold gk at this⊢;rw[hr];exact this)
   obtain⟨y,hy,hy2⟩:=i_ o1;have hsm:=(hW3.so.th y hy).l;rw[hy2]at hsm;have hfl:=jc t.g.cur o.l hW1.th.g.1 hsm;have hal:=λ{K:Out->H->Prop}=>alikeW (K:=K) o (gk r (bm l[k]));have hals:=alike35 o;have hcase:(!(bm l[k]==t.id&&true))=false\/(bI t.g.cur o.l=true/\(!(bm l[k]==t.id&&true))=true)\/(gu r (bm l[k])=true/\gk r (bm l[k])=o):=by
    by_cases hid:bm l[k]=t.id
    .exact .inl (by rw[hid];simp)
    .have hne:(!(bm l[k]==t.id&&true))=true:=by simpa using hid
     rcases w1 _ j o o1 hid with h1|⟨j2x,h1⟩
     .exact .inr (.inl ⟨h1,hne⟩)
     .have h1:bW (bm l[k]) r.th=some (j2x,o):=by rw[hr];exact h1
      exact .inr (.inr ⟨by unfold gu;rw[h1];rfl,by unfold gk;rw[h1];rfl⟩)
   rcases hcase with tnx|⟨hF,tnx⟩|⟨hO,hG⟩
   .cases hO:gu r (bm l[k])
    all_goals
     rw[hO]at hgB
     repeat' ((conv=>whnf);first|exact zf|refine(bh (bu ?_):eO _ (eO (kZ _ _ _ _ 16 _ _ _ _ _ _ _) _))|refine zm ?_|refine(gM tk ?_)|refine⟨_,hrow,?_⟩|refine⟨_,_,hgC,?_⟩|refine(.inr ?_:(∃_,_)\/_)|refine(hgB ?_)|refine(hal (λb=>?_))|refine(gG tnx ?_)|refine(aW (λ_=>?_) (λ_=>?_))|refine(.inl ⟨by unfold eK;omega,?_⟩)|refine And.intro ?_ ?_|intro _)
    all_goals exact⟨k+1,hkl,(by show l.length-(k+1)<l.length-k;omega),(by repeat' (first|exact trivial|exact rfl|exact Or.inl rfl|refine And.intro ?_ ?_|refine Or.inr ?_)),(by repeat' (first|exact trivial|exact rfl|exact Or.inl rfl|refine And.intro ?_ ?_|refine Or.inr ?_)),rfl⟩
   .rw[hF]at hfl;cases hO:gu r (bm l[k])
    all_goals
     rw[hO]at hgB
     repeat' ((conv=>whnf);first|exact zf|refine(bh (bu ?_):eO _ (eO (kZ _ _ _ _ 16 _ _ _ _ _ _ _) _))|refine zm ?_|refine(gM tk ?_)|refine⟨_,hrow,?_⟩|refine⟨_,_,hgC,?_⟩|refine(.inr ?_:(∃_,_)\/_)|refine(hgB ?_)|refine(hal (λb=>?_))|refine(gM tnx ?_)|refine zc hfl ?_|refine(aW (λ_=>?_) (λ_=>?_))|refine(.inl ⟨by unfold eK;omega,?_⟩)|refine And.intro ?_ ?_|intro _)
    all_goals exact⟨k+1,hkl,(by show l.length-(k+1)<l.length-k;omega),(by repeat' (first|exact trivial|exact rfl|exact Or.inl rfl|refine And.intro ?_ ?_|refine Or.inr ?_)),(by repeat' (first|exact trivial|exact rfl|exact Or.inl rfl|refine And.intro ?_ ?_|refine Or.inr ?_)),rfl⟩
   .rw[hO,hG]at hgB
    repeat' ((conv=>whnf);first|exact zf|refine(bh (bu ?_):eO _ (eO (kZ _ _ _ _ 16 _ _ _ _ _ _ _) _))|refine zm ?_|refine(gM tk ?_)|refine⟨_,hrow,?_⟩|refine⟨_,_,hgC,?_⟩|refine(.inr ?_:(∃_,_)\/_)|refine(hgB ?_)|refine zc hals ?_|refine(.inl ⟨by unfold eK;omega,?_⟩)|refine And.intro ?_ ?_|intro _)
    all_goals exact⟨k+1,hkl,(by show l.length-(k+1)<l.length-k;omega),(by repeat' (first|exact trivial|exact rfl|exact Or.inl rfl|refine And.intro ?_ ?_|refine Or.inr ?_)),(by repeat' (first|exact trivial|exact rfl|exact Or.inl rfl|refine And.intro ?_ ?_|refine Or.inr ?_)),rfl⟩
  .have tk:decide ((k:Int)<((cW (l.map bm)).length:Int))=false:=by rw[hlr];simp;omega
   repeat' ((conv=>whnf);first|exact zf|refine zm ?_|refine(gG tk ?_)|intro _)
   conv=>whnf
   all_goals try
    refine bM [(3,.d (.int .u8 st)),(9,.d (.bool true)),(10,.p 1 0),(11,.d (.int .i64 i)),(16,.p 5 0),(17,.p 8 0),(20,.p 10 0),(21,.os 11)] (λm:Nat=>m<=E.out.length) (λm=>[(27,.d (.int .i64 m))]) (λ_=>PO im x R.t R.s++[.cells [.mp 6,.mp 7],.dm (jV r.th),.ms 1 (kM r.nm) none none,.cells [.d (.str t.g.cur.s),.d (.str t.g.cur.i)],.no,.cells ((xQ E).map .d),.rows 1 (cW (l.map bm))]) (λm=>E.out.length-m) 0 (Nat.zero_le _) ?_ ?_ ?_ (λm hm2=>?_)
    .repeat' (first|exact trivial|exact rfl|exact Or.inl rfl|refine And.intro ?_ ?_|refine Or.inr ?_)
    .repeat' (first|exact trivial|exact rfl|exact Or.inl rfl|refine And.intro ?_ ?_|refine Or.inr ?_)
    .exact(by kernel_rfl)
   all_goals try
    refine bM [(3,.d (.int .u8 st)),(9,.d (.bool true)),(10,.p 1 0),(11,.d (.int .i64 i)),(16,.p 5 0),(17,.p 8 0),(20,.p 9 0),(21,.os 11)] (λm:Nat=>m<=E.out.length) (λm=>[(27,.d (.int .i64 m))]) (λ_=>PO im x R.t R.s++[.cells [.mp 6,.mp 7],.dm (jV r.th),.ms 1 (kM r.nm) none none,.cells [.d (.str t.g.cur.s),.d (.str t.g.cur.i)],.cells ((xQ E).map .d),.no,.rows 1 (cW (l.map bm))]) (λm=>E.out.length-m) 0 (Nat.zero_le _) ?_ ?_ ?_ (λm hm2=>?_)
    .repeat' (first|exact trivial|exact rfl|exact Or.inl rfl|refine And.intro ?_ ?_|refine Or.inr ?_)
    .repeat' (first|exact trivial|exact rfl|exact Or.inl rfl|refine And.intro ?_ ?_|refine Or.inr ?_)
    .exact(by kernel_rfl)
   have hol:(E.out.map Nx).length=E.out.length:=List.length_map _;have gO:=out_of (d:=R.d) w2;have gl:=out_le (e:=R.e) (d:=R.d);rw[<-hE2]at gO gl
   by_cases hmo:m<E.out.length
   .have tf:decide ((m:Int)<((E.out.map Nx).length:Int))=true:=by simp;omega
    have hrf:(E.out.map Nx)[(m:Int).toNat]?=some (Nx E.out[m]):=by rw[show(m:Int).toNat=m by omega,List.getElem?_map,List.getElem?_eq_getElem hmo];rfl
    obtain⟨g1,g2⟩:=gO _ (List.getElem_mem hmo);have hfl:=jc t.g.cur E.out[m].l hW1.th.g.1 g2;rw[g1]at hfl
    repeat' ((conv=>whnf);first|exact zf|refine zm ?_|refine(gM tf ?_)|refine⟨_,⟨by omega,hrf,rfl⟩,?_⟩|refine zc hfl ?_|refine(.inl ⟨by unfold eK;omega,?_⟩)|intro _)
    exact⟨m+1,hmo,(by show E.out.length-(m+1)<E.out.length-m;omega),(by repeat' (first|exact trivial|exact rfl|exact Or.inl rfl|refine And.intro ?_ ?_|refine Or.inr ?_)),(by repeat' (first|exact trivial|exact rfl|exact Or.inl rfl|refine And.intro ?_ ?_|refine Or.inr ?_)),rfl⟩
   .have tf:decide ((m:Int)<((E.out.map Nx).length:Int))=false:=by simp;omega
    have h25:=λ{K:Out->H->Prop}=>len25 (K:=K) r;have tl:decide (((cW (l.map bm)).length:Int)<(r.th.length:Int))=false:=by
     have e1:=congrArg List.length w3;have e2:=hl.length_eq;rw[List.length_append]at e1;unfold names at e1 hks;rw[List.length_map,List.length_map]at e1;rw[List.length_map]at hks;rw[hlr,hr];simp;omega
    repeat' ((conv=>whnf);first|exact zf|refine zm ?_|refine(gG tf ?_)|refine(.inr ?_:(∃_,_)\/_)|refine(h25 ?_)|refine(gG tl ?_)|intro _)
    refine⟨(i+1,R.t,R.s),⟨hlt,?_⟩,(by show(st % 64).toNat-(i+1)<(st % 64).toNat-i;omega),(by repeat' (first|exact trivial|exact rfl|exact Or.inl rfl|refine And.intro ?_ ?_|refine Or.inr ?_)),(by repeat' (first|exact trivial|exact rfl|exact Or.inl rfl|refine And.intro ?_ ?_|refine Or.inr ?_)),rfl⟩;show WIx (q+10+2*(i+1)) (10+3*(i+1)) (100+30*(i+1)) R.t R.s;rw[show q+10+2*(i+1)=q+10+2*i+1+1 by omega,show 10+3*(i+1)=10+3*i+1+2 by omega,show 100+30*(i+1)=100+30*i+15+15 by omega];exact hW3
end Go.Proofs.YtjpgfgajkjhonaaGreatDoor
namespace Go.Proofs.YtjpgfgajkjhonaaGreatDoor
open Go.Vx
set_option maxRecDepth 100000
set_option maxHeartbeats 40000000 in
theorem iterS{K:Ex->T->H->Prop}{q i:Nat}{im:Im}{x:FT}{t:Th}{s:b7}{st:Int}(hP:pY im)(hE:WIx (q+10+2*i) (10+3*i) (100+30*i) t s)(hlt:i<(st % 64).toNat)(hst:0<=st/\st<=255)(hq:q<70000000){sc:Sc}(hs:t.sc[jD (i:Int) t.sc]?=some sc) :
  fl ([(11,.d (.int .i64 i))]++[(3,.d (.int .u8 st)),(9,.d (.bool true)),(10,.p 1 0)]) λt0=>wx (Sat Tryz.prog) ow 0 b8 t0 (PO im x t s) λe t' h'=>match e with
   |.p7=>fl (Tm h') λl=>Tw l t' h' λt' h'=>∃y:Nat×Th×b7,(y.1<=(st % 64).toNat/\WIx (q+10+2*y.1) (10+3*y.1) (100+30*y.1) y.2.1 y.2.2)/\(st % 64).toNat-y.1<(st % 64).toNat-i/\lD t' ([(11,.d (.int .i64 y.1))]++[(3,.d (.int .u8 st)),(9,.d (.bool true)),(10,.p 1 0)])/\lE h' (PO im x y.2.1 y.2.2)/\yb 0 ([(11,.d (.int .i64 y.1))]++[(3,.d (.int .u8 st)),(9,.d (.bool true)),(10,.p 1 0)]) (PO im x y.2.1 y.2.2)=true
   |.ext i=>K (.ext i) t' h'
   |.ret=>K .ret t' h'
   |.fg v=>K (.fg v) t' h':=by
 have hm:st.tmod 64=st % 64:=Int.tmod_eq_emod_of_nonneg hst.1;have tx:decide ((i:Int)<st.tmod 64)=true:=by rw[hm];simp;omega
 have h11:=UP t (i:Int);unfold Ej at h11;have hnl:=(List.getElem?_eq_some_iff.1 hs).1;rw[if_pos hnl]at h11;have hm2:=(hE.th.sc sc (List.mem_of_getElem? hs)).Ul;have h33:=Ls t (jD (i:Int) t.sc) sc hs hE.th.g.1 hm2.l (by have:=hE.th.sl;omega) (by have:=hE.th.co.st;omega);rw[hm2.nm]at h33;have h14:=λ{K:Out->H->Prop}=>Bd (K:=K) s (LF sc) (qW t (jD (i:Int) t.sc) sc) ⟨hm2.g,⟨by have:=hE.so.nm;omega,λp hp=>⟨by have:=(hE.so.ns p hp).1;omega,(hE.so.ns p hp).2⟩⟩,hm2.l,(show(3:Int)<=3 by decide),(show(3:Int)<=7 by decide),(show(0:Nat)<_ by decide)⟩;have hge:decide ((0:Int)<=(jD (i:Int) t.sc:Int))=true:=by simp
 have hlv:∀b,dA t s (i:Int) b=(wy t (jD (i:Int) t.sc) sc,j8 s (LF sc) (qW t (jD (i:Int) t.sc) sc) b):=λb=>by unfold dA;rw[hs]
 have hW1:=λb=>hE.leave (i:Int) b;have hW1:∀b,WIx (q+10+2*i+1) (10+3*i+1) (100+30*i+15) (wy t (jD (i:Int) t.sc) sc) (j8 s (LF sc) (qW t (jD (i:Int) t.sc) sc) b):=λb=>by
  have:=hE.leave (i:Int) b;rw[hlv]at this;exact this
 have h28:=λ{K:Out->H->Prop}(b:Option Nat)=>MC (K:=K) (j8 s (LF sc) (qW t (jD (i:Int) t.sc) sc) b) (hW1 b).co (hW1 b).so (by omega) Ky;clear hlv;generalize jD (i:Int) t.sc=d at h11 h33 h14 hge hW1 h28;obtain⟨t1,ht1⟩:∃t1,t1=wy t d sc:=⟨_,rfl⟩
 obtain⟨s1,hs1⟩:∃s1:Option Nat->b7,s1=λb=>j8 s (LF sc) (qW t d sc) b:=⟨_,rfl⟩
 obtain⟨o1,ho1⟩:∃o1,o1=qW t d sc:=⟨_,rfl⟩
 have h33:bK Tryz.prog 33 [ep t,.d (.int .i64 d)] (.tu [ep t1,.d (.str (bm (LF sc))),gJ o1]):=by rw[ht1,ho1];exact h33
 have h14:∀{K:Out->H->Prop},(∀(b:Option Nat)(n:Int),K (.ret (.d (.int .i64 n))) (jW (s1 b)))->Sat Tryz.prog 14 [.p 0 0,.d (.str (bm (LF sc))),gJ o1] (jW s) K:=by rw[hs1,ho1];exact h14
 have hW1:∀b,WIx (q+10+2*i+1) (10+3*i+1) (100+30*i+15) t1 (s1 b):=by rw[hs1,ht1];exact hW1
 have h28:=λ{K:Out->H->Prop}(b:Option Nat)=>MC (K:=K) (s1 b) (hW1 b).co (hW1 b).so (by omega) Ky;clear ht1 hs1 ho1
 repeat' ((conv=>whnf);first|exact zf|refine zm ?_|refine(gM tx ?_)|refine zc h11 ?_|refine(gM hge ?_)|refine zc h33 ?_|refine(.inr ?_:(∃_,_)\/_)|refine(h14 (λb n=>?_))|refine zc Hl ?_|refine(h28 b (λnm1 r hst1 hr=>hold ?_))|refine And.intro ?_ ?_|intro _)
 all_goals
  have hr:r.th=(s1 b).th:=by rw[hr,K6]
  have hW2:=(hW1 b).strip hst1;have h34:=λ{K:Out->H->Prop}=>do34R (K:=K) im t1 ⟨(s1 b).th,nm1⟩ (i:Int) (λ_=>hW2.th.T hP hW2.so (by decide) ⟨by omega,by omega⟩ (by omega) (by omega));refine unhold ?_
  repeat' ((conv=>whnf);first|exact zf|refine(dG (dG ?_))|refine zm ?_|refine(.inr ?_:(∃_,_)\/_)|refine(h34 (λb' R E hR hE2=>?_))|refine And.intro ?_ ?_|intro _)
 all_goals
  obtain⟨hW3,w1,w2,ln,w3⟩:=hW2.tick (now:=(i:Int)) hP (by omega) b';rw[<-hR]at hW3 w1 w2 w3;have w3:names R.s=names (s1 b)++ln:=w3;have hco:=hW3.co;obtain⟨ks,k1,k2⟩:=yZ R.s.th hco.gd;have hks:ks.length=(names R.s).length:=by
   have:=congrArg List.length k1;rw[List.length_map,List.length_map]at this;unfold names;rw[List.length_map];exact this.symm
  have hN:=hW3.nm;have h31:=λ{K:Out->H->Prop}=>Ld (K:=K) R.s ks k1 k2 hco.nd (by omega)
  repeat' ((conv=>whnf);first|exact zf|refine zm ?_|refine(.inr ?_:(∃_,_)\/_)|refine(h31 (λl hl=>?_))|intro _)
 all_goals
  have hlr:(cW (l.map bm)).length=l.length:=by rw[gr,List.length_map]
  conv=>whnf
 all_goals try
  refine bM [(3,.d (.int .u8 st)),(9,.d (.bool true)),(10,.p 1 0),(11,.d (.int .i64 i)),(16,.p 7 0),(17,.p 10 0),(18,.d (.str t1.id)),(20,.p 12 0),(21,.os 13)] (λk:Nat=>k<=l.length) (λk=>[(22,.d (.int .i64 k))]) (λ_=>PO im x R.t R.s++[.no,.no]++[.cells [.mp 8,.mp 9],.dm (jV r.th),.ms 1 (kM r.nm) none none,.cells [.d (.str t1.g.cur.s),.d (.str t1.g.cur.i)],.no,.cells ((xQ E).map .d),.rows 1 (cW (l.map bm))]) (λk=>l.length-k) 0 (Nat.zero_le _) ?_ ?_ ?_ (λk hk=>?_)
  .repeat' (first|exact trivial|exact rfl|exact Or.inl rfl|refine And.intro ?_ ?_|refine Or.inr ?_)
  .repeat' (first|exact trivial|exact rfl|exact Or.inl rfl|refine And.intro ?_ ?_|refine Or.inr ?_)
  .exact(by kernel_rfl)
 all_goals try
  refine bM [(3,.d (.int .u8 st)),(9,.d (.bool true)),(10,.p 1 0),(11,.d (.int .i64 i)),(16,.p 7 0),(17,.p 10 0),(18,.d (.str t1.id)),(20,.p 11 0),(21,.os 13)] (λk:Nat=>k<=l.length) (λk=>[(22,.d (.int .i64 k))]) (λ_=>PO im x R.t R.s++[.no,.no]++[.cells [.mp 8,.mp 9],.dm (jV r.th),.ms 1 (kM r.nm) none none,.cells [.d (.str t1.g.cur.s),.d (.str t1.g.cur.i)],.cells ((xQ E).map .d),.no,.rows 1 (cW (l.map bm))]) (λk=>l.length-k) 0 (Nat.zero_le _) ?_ ?_ ?_ (λk hk=>?_)
  .repeat' (first|exact trivial|exact rfl|exact Or.inl rfl|refine And.intro ?_ ?_|refine Or.inr ?_)
  .repeat' (first|exact trivial|exact rfl|exact Or.inl rfl|refine And.intro ?_ ?_|refine Or.inr ?_)
  .exact(by kernel_rfl)
 all_goals
  by_cases hkl:k<l.length
  .have tk:decide ((k:Int)<((cW (l.map bm)).length:Int))=true:=by rw[hlr];simp;omega
   have hrow:(cW (l.map bm))[(k:Int).toNat]?=some [D.str (bm l[k])]:=by rw[show(k:Int).toNat=k by omega];unfold cW;rw[List.getElem?_map,List.getElem?_map,List.getElem?_eq_getElem hkl];rfl
   have hin:bm l[k]∈names R.s:=by
    show _∈R.s.th.map (·.1);rw[k1];exact List.mem_map.2 ⟨_,hl.mem_iff.1 (List.getElem_mem hkl),rfl⟩
   obtain⟨j,o,o1,o2,o3⟩:=getO_of hin;have hgA:=λ{K:Out->H->Prop}=>pj (K:=K) R.s (bm l[k]) (Qv hW3.so (by omega) _);rw[o2,o3]at hgA;have hgC:Sat Tryz.prog 16 [.p 0 0,.d (.str (bm l[k]))] (jW R.s) λout h=>out=.ret (.tu [gJ o,.d (.bool true)])/\h=jW R.s:=hgA ⟨rfl,rfl⟩;have hgB:=λ{K:Out->H->Prop}=>pj (K:=K) r (bm l[k]) (by
    have:=Qv hW2.so (by omega) (bm l[k]);unfold gk at this⊢;rw[hr];exact this)
   obtain⟨y,hy,hy2⟩:=i_ o1;have hsm:=(hW3.so.th y hy).l;rw[hy2]at hsm;have hfl:=jc t1.g.cur o.l (hW1 b).th.g.1 hsm;have hal:=λ{K:Out->H->Prop}=>alikeW (K:=K) o (gk r (bm l[k]));have hals:=alike35 o;have hcase:(!(bm l[k]==t1.id&&true))=false\/(bI t1.g.cur o.l=true/\(!(bm l[k]==t1.id&&true))=true)\/(gu r (bm l[k])=true/\gk r (bm l[k])=o):=by
    by_cases hid:bm l[k]=t1.id
    .exact .inl (by rw[hid];simp)
    .have hne:(!(bm l[k]==t1.id&&true))=true:=by simpa using hid
     rcases w1 _ j o o1 hid with h1|⟨j2x,h1⟩
     .exact .inr (.inl ⟨h1,hne⟩)
     .have h1:bW (bm l[k]) r.th=some (j2x,o):=by rw[hr];exact h1
      exact .inr (.inr ⟨by unfold gu;rw[h1];rfl,by unfold gk;rw[h1];rfl⟩)
   rcases hcase with tnx|⟨hF,tnx⟩|⟨hO,hG⟩
   .cases hO:gu r (bm l[k])
    all_goals
     rw[hO]at hgB
     repeat' ((conv=>whnf);first|exact zf|refine(bh (bu ?_):eO _ (eO (kZ _ _ _ _ 16 _ _ _ _ _ _ _) _))|refine zm ?_|refine(gM tk ?_)|refine⟨_,hrow,?_⟩|refine⟨_,_,hgC,?_⟩|refine(.inr ?_:(∃_,_)\/_)|refine(hgB ?_)|refine(hal (λb=>?_))|refine(gG tnx ?_)|refine(aW (λ_=>?_) (λ_=>?_))|refine(.inl ⟨by unfold eK;omega,?_⟩)|refine And.intro ?_ ?_|intro _)
    all_goals exact⟨k+1,hkl,(by show l.length-(k+1)<l.length-k;omega),(by repeat' (first|exact trivial|exact rfl|exact Or.inl rfl|refine And.intro ?_ ?_|refine Or.inr ?_)),(by repeat' (first|exact trivial|exact rfl|exact Or.inl rfl|refine And.intro ?_ ?_|refine Or.inr ?_)),rfl⟩
   .rw[hF]at hfl;cases hO:gu r (bm l[k])
    all_goals
     rw[hO]at hgB
     repeat' ((conv=>whnf);first|exact zf|refine(bh (bu ?_):eO _ (eO (kZ _ _ _ _ 16 _ _ _ _ _ _ _) _))|refine zm ?_|refine(gM tk ?_)|refine⟨_,hrow,?_⟩|refine⟨_,_,hgC,?_⟩|refine(.inr ?_:(∃_,_)\/_)|refine(hgB ?_)|refine(hal (λb=>?_))|refine(gM tnx ?_)|refine zc hfl ?_|refine(aW (λ_=>?_) (λ_=>?_))|refine(.inl ⟨by unfold eK;omega,?_⟩)|refine And.intro ?_ ?_|intro _)
    all_goals exact⟨k+1,hkl,(by show l.length-(k+1)<l.length-k;omega),(by repeat' (first|exact trivial|exact rfl|exact Or.inl rfl|refine And.intro ?_ ?_|refine Or.inr ?_)),(by repeat' (first|exact trivial|exact rfl|exact Or.inl rfl|refine And.intro ?_ ?_|refine Or.inr ?_)),rfl⟩
   .rw[hO,hG]at hgB
    repeat' ((conv=>whnf);first|exact zf|refine(bh (bu ?_):eO _ (eO (kZ _ _ _ _ 16 _ _ _ _ _ _ _) _))|refine zm ?_|refine(gM tk ?_)|refine⟨_,hrow,?_⟩|refine⟨_,_,hgC,?_⟩|refine(.inr ?_:(∃_,_)\/_)|refine(hgB ?_)|refine zc hals ?_|refine(.inl ⟨by unfold eK;omega,?_⟩)|refine And.intro ?_ ?_|intro _)
    all_goals exact⟨k+1,hkl,(by show l.length-(k+1)<l.length-k;omega),(by repeat' (first|exact trivial|exact rfl|exact Or.inl rfl|refine And.intro ?_ ?_|refine Or.inr ?_)),(by repeat' (first|exact trivial|exact rfl|exact Or.inl rfl|refine And.intro ?_ ?_|refine Or.inr ?_)),rfl⟩
  .have tk:decide ((k:Int)<((cW (l.map bm)).length:Int))=false:=by rw[hlr];simp;omega
   repeat' ((conv=>whnf);first|exact zf|refine zm ?_|refine(gG tk ?_)|intro _)
   conv=>whnf
   all_goals try
    refine bM [(3,.d (.int .u8 st)),(9,.d (.bool true)),(10,.p 1 0),(11,.d (.int .i64 i)),(16,.p 7 0),(17,.p 10 0),(20,.p 12 0),(21,.os 13)] (λm:Nat=>m<=E.out.length) (λm=>[(27,.d (.int .i64 m))]) (λ_=>PO im x R.t R.s++[.no,.no]++[.cells [.mp 8,.mp 9],.dm (jV r.th),.ms 1 (kM r.nm) none none,.cells [.d (.str t1.g.cur.s),.d (.str t1.g.cur.i)],.no,.cells ((xQ E).map .d),.rows 1 (cW (l.map bm))]) (λm=>E.out.length-m) 0 (Nat.zero_le _) ?_ ?_ ?_ (λm hm2=>?_)
    .repeat' (first|exact trivial|exact rfl|exact Or.inl rfl|refine And.intro ?_ ?_|refine Or.inr ?_)
    .repeat' (first|exact trivial|exact rfl|exact Or.inl rfl|refine And.intro ?_ ?_|refine Or.inr ?_)
    .exact(by kernel_rfl)
   all_goals try
    refine bM [(3,.d (.int .u8 st)),(9,.d (.bool true)),(10,.p 1 0),(11,.d (.int .i64 i)),(16,.p 7 0),(17,.p 10 0),(20,.p 11 0),(21,.os 13)] (λm:Nat=>m<=E.out.length) (λm=>[(27,.d (.int .i64 m))]) (λ_=>PO im x R.t R.s++[.no,.no]++[.cells [.mp 8,.mp 9],.dm (jV r.th),.ms 1 (kM r.nm) none none,.cells [.d (.str t1.g.cur.s),.d (.str t1.g.cur.i)],.cells ((xQ E).map .d),.no,.rows 1 (cW (l.map bm))]) (λm=>E.out.length-m) 0 (Nat.zero_le _) ?_ ?_ ?_ (λm hm2=>?_)
    .repeat' (first|exact trivial|exact rfl|exact Or.inl rfl|refine And.intro ?_ ?_|refine Or.inr ?_)
    .repeat' (first|exact trivial|exact rfl|exact Or.inl rfl|refine And.intro ?_ ?_|refine Or.inr ?_)
    .exact(by kernel_rfl)
   have hol:(E.out.map Nx).length=E.out.length:=List.length_map _;have gO:=out_of (d:=R.d) w2;have gl:=out_le (e:=R.e) (d:=R.d);rw[<-hE2]at gO gl
   by_cases hmo:m<E.out.length
   .have tf:decide ((m:Int)<((E.out.map Nx).length:Int))=true:=by simp;omega
    have hrf:(E.out.map Nx)[(m:Int).toNat]?=some (Nx E.out[m]):=by rw[show(m:Int).toNat=m by omega,List.getElem?_map,List.getElem?_eq_getElem hmo];rfl
    obtain⟨g1,g2⟩:=gO _ (List.getElem_mem hmo);have hfl:=jc t1.g.cur E.out[m].l (hW1 b).th.g.1 g2;rw[g1]at hfl
    repeat' ((conv=>whnf);first|exact zf|refine zm ?_|refine(gM tf ?_)|refine⟨_,⟨by omega,hrf,rfl⟩,?_⟩|refine zc hfl ?_|refine(.inl ⟨by unfold eK;omega,?_⟩)|intro _)
    exact⟨m+1,hmo,(by show E.out.length-(m+1)<E.out.length-m;omega),(by repeat' (first|exact trivial|exact rfl|exact Or.inl rfl|refine And.intro ?_ ?_|refine Or.inr ?_)),(by repeat' (first|exact trivial|exact rfl|exact Or.inl rfl|refine And.intro ?_ ?_|refine Or.inr ?_)),rfl⟩
   .have tf:decide ((m:Int)<((E.out.map Nx).length:Int))=false:=by simp;omega
    have h25:=λ{K:Out->H->Prop}=>len25 (K:=K) r;have tl:decide (((cW (l.map bm)).length:Int)<(r.th.length:Int))=false:=by
     have e1:=congrArg List.length w3;have e2:=hl.length_eq;rw[List.length_append]at e1;unfold names at e1 hks;rw[List.length_map,List.length_map]at e1;rw[List.length_map]at hks;rw[hlr,hr];simp;omega
    repeat' ((conv=>whnf);first|exact zf|refine zm ?_|refine(gG tf ?_)|refine(.inr ?_:(∃_,_)\/_)|refine(h25 ?_)|refine(gG tl ?_)|intro _)
    refine⟨(i+1,R.t,R.s),⟨hlt,?_⟩,(by show(st % 64).toNat-(i+1)<(st % 64).toNat-i;omega),(by repeat' (first|exact trivial|exact rfl|exact Or.inl rfl|refine And.intro ?_ ?_|refine Or.inr ?_)),(by repeat' (first|exact trivial|exact rfl|exact Or.inl rfl|refine And.intro ?_ ?_|refine Or.inr ?_)),rfl⟩;show WIx (q+10+2*(i+1)) (10+3*(i+1)) (100+30*(i+1)) R.t R.s;rw[show q+10+2*(i+1)=q+10+2*i+1+1 by omega,show 10+3*(i+1)=10+3*i+1+2 by omega,show 100+30*(i+1)=100+30*i+15+15 by omega];exact hW3
end Go.Proofs.YtjpgfgajkjhonaaGreatDoor
