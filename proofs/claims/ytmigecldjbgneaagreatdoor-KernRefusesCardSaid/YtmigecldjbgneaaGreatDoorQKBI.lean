/- Lemmas. Conditions: none. -/
import Derived.Test.YtmigecldjbgneaaGreatDoorQKBH
set_option maxHeartbeats 8000000
namespace Go.Proofs.YtmigecldjbgneaaGreatDoor
open Go.Vx
set_option maxRecDepth 100000
def a1:Lb:=⟨[1],[]⟩
def Bn:Lb:=⟨[0],[]⟩
def Y0:List Op:=[⟨1,3⟩,⟨1,0⟩,⟨41,0⟩,⟨2,0⟩,⟨18,0⟩]
def gE(sc:Bool)(m:Int):Cf:=⟨⟨[sh kW,sh a1,num 2,num 9],[⟨1,0,(bif sc then[⟨2,0⟩,⟨1,2⟩,⟨1,3⟩,⟨1,1⟩,⟨40,1⟩,⟨4,0⟩]else[⟨2,0⟩,⟨30,0⟩,⟨4,0⟩,⟨1,0⟩,⟨42,0⟩])++Y0⟩,⟨1,0,[⟨2,0⟩,⟨30,0⟩,⟨18,0⟩]⟩]⟩,[⟨a1,5⟩],[⟨0,kW,Bn,m,4,0,0⟩]⟩
theorem J4:Z0 6 [] (lO ⟨[0],[]⟩):=by
 refine sh0 Tryz.f6 ?_
 repeat' ((conv=>whnf);first|exact zf|refine zm ?_|refine zB ?_ ?_|intro _)
theorem bsn_2{h:H}{r:List (List D)}{f:H->Prop}{q:Prop}(hp:fl (h++[.rows 2 ([.int .i64 2,.int .i64 0]::r)]) f):Pn (fl (h++[.rows 2 ([.int .i64 2,.int .i64 0]::r)]) f) q:=qi hp
theorem GZ(sc:Bool)(m:Int):Z0 10 [.d (.bool sc),.d (.int .u8 m)] (yF (gE sc m)):=by
 have h1:=J4;cases sc<;>refine sh0 Tryz.f10 ?_
 .skip
  repeat' ((conv=>whnf);first|exact zf|refine(bsn_2 ?_)|refine zm ?_|refine zc h1 ?_|refine zB ?_ ?_|intro _)
 .skip
  repeat' ((conv=>whnf);first|exact zf|refine(bsn_2 ?_)|refine zm ?_|refine zc h1 ?_|refine zB ?_ ?_|intro _)
def px(l:List Int)(i:Nat):Int:=l[i]?.getD 0
theorem oQ{l:List Int}(hl:jE l)(i:Nat):0<=px l i/\px l i<=255:=by
 unfold px;cases h:l[i]? with
 |none=>exact⟨eT _,by decide⟩
 |some x=>exact hl x (aG h)
theorem Po(l:List Int)(hl:jE l)(i:Nat)(z:Int)(hz:z=i):Z0 21 [.d (.sl 1 (dE l)),.d (.int .i64 z)] (.d (.int .i64 (px l i))):=by
 subst hz;have hlen:=gg l;refine sh0 Tryz.f21 ?_
 repeat' ((conv=>whnf);first|exact zf|refine zm ?_|refine zB ?_ ?_|intro _)
 refine aU (λhlt=>?_) (λhge=>?_)
 .have hlt:i<l.length:=by have:=θ hlt;omega
  obtain⟨x,hx⟩:∃x,l[i]?=some x:=⟨_,aA hlt⟩
  have hb:=hl x (aG hx);have e:px l i=x:=by unfold px;rw[hx];rfl
  rw[e]
  repeat' ((conv=>whnf);first|exact zf|refine zm ?_|refine zB ?_ ?_|intro _)
  refine⟨[D.int .u8 x],⟨by omega,by rw[pW];simp[dE,hx],rfl⟩,?_⟩
  repeat' ((conv=>whnf);first|exact zf|refine zm ?_|refine zi0 ?_|refine zB ?_ ?_|intro _)
 .have hge:l.length<=i:=by have:=ι hge;omega
  have e:px l i=0:=by unfold px;rw[cu hge];rfl
  rw[e]
  repeat' ((conv=>whnf);first|exact zf|refine zm ?_|refine zB ?_ ?_|intro _)
def B9(n:Int):Lb:=lb (lY[n.toNat]?.getD ⟨[],[]⟩)
def wg:List Int:=[0,0,1,2,4,5,1,3]
def yc:List Int:=[7,7,3,1]
def Dw(l:List Int)(i:Nat):Bx:=⟨B9 ((px l (2*i)).tmod 8),(px l (2*i+1)).tmod 4⟩
def jg(l:List Int)(no:Bool)(i:Nat):Bo:=
  ⟨(px l (6 * i + 1)).tmod 3, B9 (wg[((px l (6 * i)).tmod 8).toNat]?.getD 0), dS (B9 (wg[((px l (6 * i)).tmod 8).toNat]?.getD 0)) (B9 (yc[((px l (6 * i + 2)).tmod 4).toNat]?.getD 0)),
   bif no then 0 else((px l (6*i+2)).tdiv 4).tmod 4,(px l (6*i+3)).tmod 12,(px l (6*i+4)).tmod 3-1,(px l (6*i+5)).tmod 4⟩
def s_(im:Im)(bs ts:List Int)(no:Bool):Cf:=⟨im,[Dw bs 0,Dw bs 1],[jg ts no 0,jg ts no 1,jg ts no 2]⟩
def Pv(L:List (List Int))(bs ts:List Int):V:=.ag [.d (.sl 1 (L.map λl=>[D.sl 1 (dE l)])),.d (.sl 1 (dE bs)),.d (.sl 1 (dE ts))]
def WE(L:List (List Int))(bs ts:List Int):B:=.cells [.d (.sl 1 (L.map λl=>[D.sl 1 (dE l)])),.d (.sl 1 (dE bs)),.d (.sl 1 (dE ts))]
def WC:B:=.cells [.nl 5,.nl 3,.nl 3,.nl 9]
def WD(im:Im)(a b:V):B:=.cells [.d (.sl 5 (im.cs.map b9)),.d (.sl 3 (im.fs.map bc)),a,b]
def Yl(L:List (List Int))(bs ts:List Int)(im:Im):Nat->H
 |0=>[WE L bs ts,WC,WD im (.nl 3) (.nl 9)]
 |j+1=>[WE L bs ts,WC,WD im (.os 3) (.nl 9),.rows 3 (((List.range (j+1)).map (Dw bs)).map cN)]
def Yk(L:List (List Int))(bs ts:List Int)(im:Im)(no:Bool):Nat->H
 |0=>[WE L bs ts,WC,WD im (.os 3) (.nl 9),.rows 3 ([Dw bs 0,Dw bs 1].map cN)]
 |j+1=>[WE L bs ts,WC,WD im (.os 3) (.os 6),.rows 3 ([Dw bs 0,Dw bs 1].map cN),.no,.no,.rows 9 (((List.range (j+1)).map (jg ts no)).map cW)]
def Te(c:Cf)(a b:Nat):V:=.ag [.d (.sl 5 (c.im.cs.map b9)),.d (.sl 3 (c.im.fs.map bc)),.os a,.os b]
theorem xd(n:Int)(h:0<=n/\n<8):(lY.map Qc)[n.toNat]?=some [.str (B9 n).s,.str (B9 n).i]:=by
 obtain⟨m,rfl⟩:=Int.eq_ofNat_of_zero_le h.1;have:m<8:=by omega
 match m,this with
 |0,_|1,_|2,_|3,_|4,_|5,_|6,_|7,_=>rfl
theorem Gd(n:Int)(h:0<=n/\n<8):(wg.map λx=>[D.int .i64 x])[n.toNat]?=some [.int .i64 (wg[n.toNat]?.getD 0)]/\0<=wg[n.toNat]?.getD 0/\wg[n.toNat]?.getD 0<8:=by
 obtain⟨m,rfl⟩:=Int.eq_ofNat_of_zero_le h.1;have:m<8:=by omega
 match m,this with
 |0,_|1,_|2,_|3,_|4,_|5,_|6,_|7,_=>exact⟨rfl,by decide,by decide⟩
theorem Ge(n:Int)(h:0<=n/\n<4):(yc.map λx=>[D.int .i64 x])[n.toNat]?=some [.int .i64 (yc[n.toNat]?.getD 0)]/\0<=yc[n.toNat]?.getD 0/\yc[n.toNat]?.getD 0<8:=by
 obtain⟨m,rfl⟩:=Int.eq_ofNat_of_zero_le h.1;have:m<4:=by omega
 match m,this with
 |0,_|1,_|2,_|3,_=>exact⟨rfl,by decide,by decide⟩
theorem uM(n:Int):cC (B9 n):=by
 unfold B9;cases h:lY[n.toNat]? with
 |none=>exact⟨aY _,aY _⟩
 |some l=>
  have:lY.all (λl=>decide (l.s.length<=2)&&decide (l.i.length<=2))=true:=zx0
  have:=aP.1 this l (aG h);simp at this;exact⟨aX this.1 (by decide),aX this.2 (by decide)⟩
theorem NW{K:KT}(L:List (List Int))(bs ts:List Int)(no:Bool)(hL:∀l∈L,jE l)(hb:jE bs)(ht:jE ts)(hk:∀im,de im->K (.ret (Te (s_ im bs ts no) 0 1)) [.rows 3 ((s_ im bs ts no).bx.map cN),.rows 9 ((s_ im bs ts no).bo.map cW)]):Z1 5 [Pv L bs ts,.d (.bool no)] [] K:=by
 have h0:=zb;refine si0 Tryz.f5 ?_;have h1:=λ{K:KT}=>Ra (K:=K) L hL
 repeat' ((conv=>whnf);first|exact zf|refine zm ?_|refine(h1 (λim hi=>?_))|refine zB ?_ ?_|intro _)
 conv=>whnf
 refine bA [(1,.d (.bool no)),(2,.p 0 0),(4,.p 1 0),(5,.p 2 0)] (λj:Nat=>j<=2) (λj=>[(6,.d (.int .i64 j))]) (Yl L bs ts im) (λj=>2-j) 0 (aY _) ?_ ?_ ?_ (λj hj=>?_)
 .exact zzz
 .exact zzz
 .exact rfl
 by_cases hlt:j<2
 .have hlt':decide ((j:Int)<2)=true:=by simp;omega
  have a1:=Po bs hb (2*j) (2*(j:Int)) (by omega);have a2:=Po bs hb (2*j+1) (2*(j:Int)+1) (by omega);have a3:=vU (oQ hb (2*j)) 8 (by decide);have a4:=xd _ a3;have a5:=vU (oQ hb (2*j+1)) 4 (by decide)
  match j,hlt with
  |0,_=>
   repeat' ((conv=>whnf);first|exact zf|refine zm ?_|refine(bf hlt' ?_)|refine zc h0 ?_|refine zc a1 ?_|refine zc a2 ?_|refine⟨_,⟨a3.1,a4,rfl⟩,?_⟩|refine zB ?_ ?_|intro _)
   exact⟨1,by omega,by omega,zzz,zzz,rfl⟩
  |1,_=>
   repeat' ((conv=>whnf);first|exact zf|refine zm ?_|refine(bf hlt' ?_)|refine zc h0 ?_|refine zc a1 ?_|refine zc a2 ?_|refine⟨_,⟨a3.1,a4,rfl⟩,?_⟩|refine zB ?_ ?_|intro _)
   exact⟨2,by omega,by omega,zzz,zzz,rfl⟩
 .have e2:j=2:=by have:j<=2:=hj;omega
  subst e2;clear hlt hj h1
  repeat' ((conv=>whnf);first|exact zf|refine zm ?_|refine zB ?_ ?_|intro _)
  conv=>whnf
  refine bA [(1,.d (.bool no)),(2,.p 0 0),(4,.p 1 0),(5,.p 2 0)] (λi:Nat=>i<=3) (λi=>[(7,.d (.int .i64 i))]) (Yk L bs ts im no) (λi=>3-i) 0 (aY _) ?_ ?_ ?_ (λi hi3=>?_)
  .exact zzz
  .exact zzz
  .exact rfl
  by_cases hlt:i<3
  .have hlt':decide ((i:Int)<3)=true:=by simp;omega
   have a0:=Po ts ht (6*i) (6*(i:Int)) (by omega);have a1:=Po ts ht (6*i+1) (6*(i:Int)+1) (by omega);have a2:=Po ts ht (6*i+2) (6*(i:Int)+2) (by omega);have a3:=Po ts ht (6*i+3) (6*(i:Int)+3) (by omega);have a4:=Po ts ht (6*i+4) (6*(i:Int)+4) (by omega);have a5:=Po ts ht (6*i+5) (6*(i:Int)+5) (by omega);have b0:=vU (oQ ht (6*i)) 8 (by decide);have b2:=vU (oQ ht (6*i+2)) 4 (by decide);have b4:=vU (oQ ht (6*i+4)) 3 (by decide);have b6:0<=((px ts (6*i+2)).tdiv 4).tmod 4/\((px ts (6*i+2)).tdiv 4).tmod 4<4:=by
    have:=oQ ht (6*i+2);rw[Int.tdiv_eq_ediv_of_nonneg this.1];exact vU ⟨by omega,by omega⟩ 4 (by decide)
   have b7:dB .i64 ((px ts (6*i+2)).tdiv 4):=by
    have:=oQ ht (6*i+2);rw[Int.tdiv_eq_ediv_of_nonneg this.1];unfold dB;omega
   obtain⟨t1,t2,t3⟩:=Gd _ b0;obtain⟨u1,u2,u3⟩:=Ge _ b2;have c1:=xd _ ⟨t2,t3⟩;have c2:=xd _ ⟨u2,u3⟩;have j1:=uT (B9 (wg[((px ts (6*i)).tmod 8).toNat]?.getD 0)) (B9 (yc[((px ts (6*i+2)).tmod 4).toNat]?.getD 0)) (uM _) (uM _)
   match i,hlt with
   |0,_=>
    cases no
    all_goals
     repeat' ((conv=>whnf);first|exact zf|refine zm ?_|refine(bf hlt' ?_)|refine zc h0 ?_|refine zc a0 ?_|refine zc a1 ?_|refine zc a2 ?_|refine zc a3 ?_|refine zc a4 ?_|refine zc a5 ?_|refine zc j1 ?_|refine(.inl ⟨b7,?_⟩)|refine⟨_,⟨b0.1,t1,rfl⟩,?_⟩|refine⟨_,⟨b2.1,u1,rfl⟩,?_⟩|refine⟨_,⟨t2,c1,rfl⟩,?_⟩|refine⟨_,⟨u2,c2,rfl⟩,?_⟩|refine zB ?_ ?_|intro _)
     exact⟨1,by omega,by omega,zzz,zzz,rfl⟩
   |1,_=>
    cases no
    all_goals
     repeat' ((conv=>whnf);first|exact zf|refine zm ?_|refine(bf hlt' ?_)|refine zc h0 ?_|refine zc a0 ?_|refine zc a1 ?_|refine zc a2 ?_|refine zc a3 ?_|refine zc a4 ?_|refine zc a5 ?_|refine zc j1 ?_|refine(.inl ⟨b7,?_⟩)|refine⟨_,⟨b0.1,t1,rfl⟩,?_⟩|refine⟨_,⟨b2.1,u1,rfl⟩,?_⟩|refine⟨_,⟨t2,c1,rfl⟩,?_⟩|refine⟨_,⟨u2,c2,rfl⟩,?_⟩|refine zB ?_ ?_|intro _)
     exact⟨2,by omega,by omega,zzz,zzz,rfl⟩
   |2,_=>
    cases no
    all_goals
     repeat' ((conv=>whnf);first|exact zf|refine zm ?_|refine(bf hlt' ?_)|refine zc h0 ?_|refine zc a0 ?_|refine zc a1 ?_|refine zc a2 ?_|refine zc a3 ?_|refine zc a4 ?_|refine zc a5 ?_|refine zc j1 ?_|refine(.inl ⟨b7,?_⟩)|refine⟨_,⟨b0.1,t1,rfl⟩,?_⟩|refine⟨_,⟨b2.1,u1,rfl⟩,?_⟩|refine⟨_,⟨t2,c1,rfl⟩,?_⟩|refine⟨_,⟨u2,c2,rfl⟩,?_⟩|refine zB ?_ ?_|intro _)
     exact⟨3,by omega,by omega,zzz,zzz,rfl⟩
  .have e2:i=3:=by have:i<=3:=hi3;omega
   subst e2
   repeat' ((conv=>whnf);first|exact zf|refine zm ?_|refine zB ?_ ?_|intro _)
   exact hk im hi
def ir:List Bx->Int->Option Int
 |[],_=>none
 |b::r,i=>bif pN b.l then ir r (i+1)else some i
def gj(c:Cf):List Bo->Int->Int×Int
 |[],_=>(0,0)
 |b::r,i=>bif eH c b==0 then gj c r (i+1)else(i,eH c b)
def wW(c:Cf)(e:Int):Int×Int:=
 bif e != 0 then(0,e) else
 bif decide ((8:Int)<c.bx.length)||(((c.bo.length:Int)==0)||decide ((8:Int)<c.bo.length))then(0,3) else
 match ir c.bx 0 with
 |some i=>(i,1)
 |none=>gj c c.bo 0
structure yu(c:Cf):Prop where
  bx:∀b∈c.bx,cC b.l
  bo:∀b∈c.bo,cC b.l/\cC b.c
  n1:c.bx.length<1000000
  n2:c.bo.length<1000000
set_option maxRecDepth 100000 in
theorem CL (c:Cf) (a p e:Int) (hv:Z0 28 [sC c.im] (.tu [.d (.int .i64 a),.d (.int .i64 p),.d (.int .i64 e)])) (hs:yu c):Z0 9 [yF c] (.tu [.d (.int .i64 (wW c e).1),.d (.int .i64 (wW c e).2)]):=by
  have l1:(c.bx.map cN).length=c.bx.length:=aI _
  have l2:(c.bo.map cW).length=c.bo.length:=aI _
  have n1:=hs.n1
  have n2:=hs.n2
  generalize hR:wW c e=R
  unfold wW at hR
  cases he:e != 0 with
  |true=>
    rw[he]at hR
    subst hR
    refine sh0 Tryz.f9 ?_
    repeat' ((conv=>whnf);first|exact zf|refine zm ?_|refine zc hv ?_|refine(bf he ?_)|refine zB ?_ ?_|intro _)
  |false=>
    rw[he,ε]at hR
    cases hb:decide ((8:Int)<c.bx.length)||(((c.bo.length:Int)==0)||decide ((8:Int)<c.bo.length)) with
    |true=>
      rw[hb]at hR
      subst hR
      refine sh0 Tryz.f9 ?_
      cases b1:decide ((8:Int)<c.bx.length) with
      |true=>
        repeat' ((conv=>whnf);first|exact zf|refine zm ?_|refine zc hv ?_|refine(bB he ?_)|refine zB ?_ ?_|refine zt ?_|refine zu ?_|intro _)
      |false=>
        cases b2:(c.bo.length:Int)==0 with
        |true=>
          repeat' ((conv=>whnf);first|exact zf|refine zm ?_|refine zc hv ?_|refine(bB he ?_)|refine zB ?_ ?_|refine zt ?_|refine zu ?_|intro _)
        |false=>
          rw[b1,b2]at hb
          repeat' ((conv=>whnf);first|exact zf|refine zm ?_|refine zc hv ?_|refine(bB he ?_)|refine zB ?_ ?_|refine zt ?_|refine zu ?_|intro _)
    |false=>
      rw[hb,ε]at hR
      simp only[iU,decide_eq_false_iff_not]at hb
      obtain⟨b1,b2,b3⟩:=hb
      refine sh0 Tryz.f9 ?_
      repeat' ((conv=>whnf);first|exact zf|refine zm ?_|refine zc hv ?_|refine(bB he ?_)|refine zB ?_ ?_|refine zt ?_|refine zu ?_|intro _)
      conv=>whnf
      refine bA [(1,.p 0 0),(40,.d (.int .i64 (c.bx.map cN).length)),(39,.d (.sl 3 (c.bx.map cN)))] (λi:Nat=>i<=c.bx.length/\(match ir (c.bx.drop i) i with|some i=>(i,1)|none=>gj c c.bo 0)=R) (λi=>[(41,.d (.int .i64 i))]) (λ_=>[.cells [.d (.sl 5 (c.im.cs.map b9)),.d (.sl 3 (c.im.fs.map bc)),.d (.sl 3 (c.bx.map cN)),.d (.sl 9 (c.bo.map cW))]]) (λi=>c.bx.length-i) 0 ⟨aY _,by simpa using hR⟩ ?_ ?_ ?_ (λi ⟨hi,he⟩=>?_)
      · exact zzz
      · exact zzz
      · exact rfl
      repeat' ((conv=>whnf);first|exact zf|refine zm ?_|refine zB ?_ ?_|intro _)
      refine aU (λhlt=>?_) (λhge=>?_)
      · have hlt:i<c.bx.length:=by rw[<-l1];simpa using hlt
        obtain⟨b,hf⟩:∃b,c.bx[i]?=some b:=⟨_,aA hlt⟩
        have hdr:c.bx.drop i=b::c.bx.drop (i+1):=by
          rw[bC hlt]
          rw[aA hlt]at hf
          cases hf
          rfl
        have hrow:(c.bx.map cN)[i]?=some (cN b):=by rw[aB,hf];rfl
        have h1:=i_ b.l (hs.bx b (aG hf))
        rw[hdr]at he
        simp only[ir]at he
        cases hok:pN b.l with
        |true=>
          rw[hok,δ]at he
          rw[hok]at h1
          repeat' ((conv=>whnf);first|exact zf|refine zm ?_|refine⟨cN b,⟨by omega,hrow,rfl⟩,?_⟩|refine zc h1 ?_|refine zi0 ?_|refine zB ?_ ?_|intro _)
          refine⟨i+1,⟨hlt,by simpa using he⟩,aN hlt (aQ i),zzz,zzz,rfl⟩
        |false=>
          rw[hok,ε]at he
          rw[hok]at h1
          simp only at he
          subst he
          repeat' ((conv=>whnf);first|exact zf|refine zm ?_|refine⟨cN b,⟨by omega,hrow,rfl⟩,?_⟩|refine zc h1 ?_|refine zB ?_ ?_|intro _)
      · have hge:i=c.bx.length:=by
          have:¬i<c.bx.length:=by rw[<-l1];simpa using hge
          omega
        rw[hge,du]at he
        simp only[ir]at he
        clear hR
        repeat' ((conv=>whnf);first|exact zf|refine zm ?_|refine zB ?_ ?_|intro _)
        conv=>whnf
        refine bA [(1,.p 0 0),(54,.d (.int .i64 (c.bo.map cW).length)),(53,.d (.sl 9 (c.bo.map cW)))] (λi:Nat=>i<=c.bo.length/\gj c (c.bo.drop i) i=R) (λi=>[(55,.d (.int .i64 i))]) (λ_=>[.cells [.d (.sl 5 (c.im.cs.map b9)),.d (.sl 3 (c.im.fs.map bc)),.d (.sl 3 (c.bx.map cN)),.d (.sl 9 (c.bo.map cW))]]) (λi=>c.bo.length-i) 0 ⟨aY _,by simpa using he⟩ ?_ ?_ ?_ (λk ⟨hk,hE⟩=>?_)
        · exact zzz
        · exact zzz
        · exact rfl
        repeat' ((conv=>whnf);first|exact zf|refine zm ?_|refine zB ?_ ?_|intro _)
        refine aU (λhlt=>?_) (λhge=>?_)
        · have hlt:k<c.bo.length:=by rw[<-l2];simpa using hlt
          obtain⟨b,hf⟩:∃b,c.bo[k]?=some b:=⟨_,aA hlt⟩
          have hdr:c.bo.drop k=b::c.bo.drop (k+1):=by
            rw[bC hlt]
            rw[aA hlt]at hf
            cases hf
            rfl
          have hrow:(c.bo.map cW)[k]?=some (cW b):=by rw[aB,hf];rfl
          have h1:=Ff c b (hs.bo b (aG hf)).1 (hs.bo b (aG hf)).2
          rw[hdr]at hE
          simp only[gj]at hE
          cases hz:eH c b==0 with
          |true=>
            rw[hz,δ]at hE
            have hz':(eH c b != 0)=false:=by simp only[bne,hz,qC]
            repeat' ((conv=>whnf);first|exact zf|refine zm ?_|refine⟨cW b,⟨by omega,hrow,rfl⟩,?_⟩|refine zc h1 ?_|refine(bB hz' ?_)|refine zi0 ?_|refine zB ?_ ?_|intro _)
            refine⟨k+1,⟨hlt,by simpa using hE⟩,aN hlt (aQ k),zzz,zzz,rfl⟩
          |false=>
            rw[hz,ε]at hE
            have hz':(eH c b != 0)=true:=by simp only[bne,hz,Bool.not_false]
            subst hE
            repeat' ((conv=>whnf);first|exact zf|refine zm ?_|refine⟨cW b,⟨by omega,hrow,rfl⟩,?_⟩|refine zc h1 ?_|refine(bf hz' ?_)|refine zB ?_ ?_|intro _)
        · have hge:k=c.bo.length:=by
            have:¬k<c.bo.length:=by rw[<-l2];simpa using hge
            omega
          rw[hge,du]at hE
          simp only[gj]at hE
          subst hE
          repeat' ((conv=>whnf);first|exact zf|refine zm ?_|refine zB ?_ ?_|intro _)
theorem Fp{nm:my}{l:Lb}{kp:List Nat}{b:Option Nat}{n:Nat}(hn:nm.length<=n)(h:∀p∈nm,p.2.2.length<=n/\∀x∈p.2.2,dr x)(hk:dr kp):(CU nm l kp b).length<=n+1/\∀p∈CU nm l kp b,p.2.2.length<=n+1/\∀x∈p.2.2,dr x:=by
 unfold CU;split
 .rename_i i _;refine⟨by rw[oT];omega,λp hp=>?_⟩;obtain⟨j,hj⟩:=ao.1 hp;rw[ly]at hj;cases hq:nm[j]? with
  |none=>rw[hq]at hj;split at hj<;>cases hj
  |some q=>
   obtain⟨h1,h2⟩:=h q (aG hq);rw[hq]at hj;split at hj
   .cases hj;refine⟨?_,λx hx=>?_⟩
    .have:=q6 q.2.2 kp;show(mN q.2.2 kp).length<=n+1;omega
    .rcases oF.1 hx with rfl|hx
     .exact hk
     .exact h2 x hx
   .cases hj;exact⟨cU h1,h2⟩
 .refine⟨by rw[aM,List.length_singleton];omega,λp hp=>?_⟩;rcases aT.1 hp with hp|hp
  .exact⟨by have:=(h p hp).1;omega,(h p hp).2⟩
  .rw[aF.1 hp];exact⟨by simp,λx hx=>by rw[aF.1 hx];exact hk⟩
def Nd(b:Bx):Ob:={fo with k:=3,l:=b.l,v:=num b.v}
inductive sD(c:Cf):Nat->br->Prop
  |z:sD c 0 ⟨[],[]⟩
  |s {n:Nat} {s:br} {x:Bx} (b:Option Nat):sD c n s->c.bx[n]?=some x->sD c (n+1) (lr s [n] (Nd x) b)
theorem sD.oG{c:Cf}{n:Nat}{s:br}(h:sD c n s)(hn:n<=8):s.nm.length<=n/\∀p∈s.nm,p.2.2.length<=n/\∀x∈p.2.2,dr x:=by
 induction h with
 |z=>exact⟨aL _,λp hp=>by cases hp⟩
 |s b h hx ih=>
  rename_i n s x;obtain⟨h1,h2⟩:=ih (by omega);unfold lr;cases pN (Nd x).l&&(bw (b8 [n]) s.th).isNone
  .exact⟨by rw[ε];omega,λp hp=>⟨by have:=(h2 p hp).1;omega,(h2 p hp).2⟩⟩
  .exact Fp h1 h2 ⟨by simp,by simp,λx hx=>by rw[aF.1 hx];omega⟩
theorem sD.gs{c:Cf}{n:Nat}{s:br}(h:sD c n s)(hn:n<=8):mj s:=
 ⟨by have:=(h.oG hn).1;omega,λp hp=>⟨by have:=((h.oG hn).2 p hp).1;omega,((h.oG hn).2 p hp).2⟩⟩
def U8:Bo:=⟨0,kW,kW,0,0,0,0⟩
def Ey(c:Cf)(s:br):Kn:=⟨c.im,0,[],[],s,[],[]⟩
def iY(c:Cf)(s:br):Nat->Kn
 |0=>Ey c s
 |n+1=>gX (iY c s n) [c.bx.length+n] (fA c (c.bo[n]?.getD U8) (b8 [c.bx.length+n]))
def Yc(k:Kn):H:=[.cells [.d (.sl 5 (k.im.cs.map b9)),.d (.sl 3 (k.im.fs.map bc)),.d (.int .i64 k.now),.mp 1,.nl 1,.p 2 0,.nl 9,.nl 8],.dm (k_ k.th),.cells [.mp 3,.mp 4],.dm (iW k.s.th),.ms 1 (ik k.s.nm) none none]
def Yd(k:Kn):H:=[FE k 1 5 2 6 7,.dm (k_ k.th),.cells [.mp 3,.mp 4],.dm (iW k.s.th),.ms 1 (ik k.s.nm) none none,GB false k.ord,.rows 9 (k.fa.map fm),.rows 8 (k.le.map jT)]
theorem wM{K:KT}(c:Cf)(s:br)(id:List Nat)(t:Th)(hid:t.id=b8 id)(hg:dr id)(hk:K (.ret (.tu [])) (Yd (gX (Ey c s) id t))):Z1 26 [.p 0 0,eW t] (Yc (Ey c s)) K:=by
 have h1:=qj [] id (λx hx=>by cases hx) hg (by decide);have h2:=sk ([].map b8) (b8 id) (mV [] id) (aL 0) (by decide);rw[show(([]:List (List Nat)).map b8).take (mV [] id)++b8 id::(([]:List (List Nat)).map b8).drop (mV [] id)=(mN [] id).map b8 by simp[mN,show mV [] id=0 from rfl]]at h2;rw[<-hid]at h1 h2;unfold gX at hk;have hb:uv [] id=false:=rfl;rw[show(Ey c s).ord=[]from rfl,hb]at hk;rw[hb]at h1;have h3:=λ{K:KT}=>zE (K:=K) false {Ey c s with ord:=mN [] id} t;refine .inl (qo.own 0 4 rfl rfl (qo.own 0 6 rfl rfl (qo.own 0 7 rfl rfl (Sat.fn ?_ (by decide)))))
 change Z1 26 [.p 0 0,eW t] [FE (Ey c s) 1 5 2 6 7,.dm [],.cells [.mp 3,.mp 4],.dm (iW s.th),.ms 1 (ik s.nm) none none,.rows 1 (cM (([]:List (List Nat)).map b8)),.rows 9 [],.rows 8 []] K
 refine Sat.tell (by decide) [0,1,2,3,4,8,6,7] (o:=.ret (.tu [])) (x:=[FE (Ey c s) 1 8 2 6 7,.dm (k_ (rG [] t)),.cells [.mp 3,.mp 4],.dm (iW s.th),.ms 1 (ik s.nm) none none,.no,.rows 9 [],.rows 8 [],GB false (mN [] id)]) ?_ rfl hk;refine sh0 Tryz.f26 ?_
 repeat' ((conv=>whnf);first|exact zf|refine(a8 (a8 ?_))|refine(qi ?_)|refine da _ _ [52,10000000] ?_ rfl|refine a8 (a8 ?_)|refine zm ?_|refine(.inl ⟨_,h1,rfl,?_⟩)|refine Sat.eqs (h2) ?_|refine zr0 ?_|refine(h3 ?_)|refine zB ?_ ?_|intro _)
theorem H_(c:Cf)(a p e:Int)(hv:Z0 28 [sC c.im] (.tu [.d (.int .i64 a),.d (.int .i64 p),.d (.int .i64 e)]))(hs:yu c)(h:(wW c e).2≠0):Z0 8 [yF c] (.tu [.d .np,.d (.int .i64 (wW c e).1),.d (.int .i64 (wW c e).2)]):=by
 have h1:=CL c a p e hv hs;have hb:((wW c e).2 != 0)=true:=by simp[h]
 generalize wW c e=r at h1 hb;refine sh0 Tryz.f8 ?_
 repeat' ((conv=>whnf);first|exact zf|refine zm ?_|refine zc h1 ?_|refine(bf hb ?_)|refine zB ?_ ?_|intro _)
theorem uw{c:Cf}:∀{l:List Bx}{i:Int},ir l i=none->∀b∈l,pN b.l=true
 |[],_,_,b,hb=>by cases hb
 |x::l,i,h,b,hb=>by
  unfold ir at h;cases hx:pN x.l with
  |false=>rw[hx]at h;cases h
  |true=>
   rw[hx,δ]at h;rcases ah.1 hb with rfl|hb
   .exact hx
   .exact uw (c:=c) h b hb
theorem ux{c:Cf}:∀{l:List Bo}{i:Int},(gj c l i).2=0->∀b∈l,eH c b=0
 |[],_,_,b,hb=>by cases hb
 |x::l,i,h,b,hb=>by
  unfold gj at h;cases hx:eH c x==0 with
  |false=>rw[hx,ε]at h;simp[show eH c x=0 from h]at hx
  |true=>
   rw[hx,δ]at h;rcases ah.1 hb with rfl|hb
   .simpa using hx
   .exact ux h b hb
structure RM(c:Cf):Prop where
  n8:c.bx.length<=8
  m1:1<=c.bo.length
  m8:c.bo.length<=8
  bx:∀b∈c.bx,pN b.l=true
  bo:∀b∈c.bo,eH c b=0
theorem K4{c:Cf}{e:Int}(h:(wW c e).2=0):RM c/\wW c e=(0,0):=by
 have h0:=h;unfold wW at h⊢;cases he:e != 0 with
 |true=>rw[he,δ]at h;simp[show e=0 from h]at he
 |false=>
  rw[he,ε]at h;rw[ε];cases hb:decide ((8:Int)<c.bx.length)||(((c.bo.length:Int)==0)||decide ((8:Int)<c.bo.length)) with
  |true=>rw[hb,δ]at h;cases h
  |false=>
   rw[hb,ε]at h;rw[ε];simp only[iU,decide_eq_false_iff_not,beq_eq_false_iff_ne]at hb;cases hx:ir c.bx 0 with
   |some i=>rw[hx]at h;cases h
   |none=>
    rw[hx]at h;have h2:=ux h;refine⟨⟨by omega,by omega,by omega,uw (c:=c) hx,h2⟩,?_⟩;have:∀(l:List Bo)(i:Int),(∀b∈l,eH c b=0)->gj c l i=(0,0):=by
     intro l
     induction l with
     |nil=>intro i _;rfl
     |cons b l ih=>
      intro i hl;unfold gj;rw[hl b (.head _)];exact ih _ λx hx=>hl x (.tail _ hx)
    exact this _ _ h2
end Go.Proofs.YtmigecldjbgneaaGreatDoor