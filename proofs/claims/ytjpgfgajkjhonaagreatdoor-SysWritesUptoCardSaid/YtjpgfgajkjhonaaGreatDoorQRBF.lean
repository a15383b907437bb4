/- Lemmas. Conditions: none. -/
import Derived.Test.YtjpgfgajkjhonaaGreatDoorQRBE
set_option maxHeartbeats 4000000
namespace Go.Proofs.YtjpgfgajkjhonaaGreatDoor
open Go.Vx
set_option maxRecDepth 100000
structure Wd where
  s:List UInt8
  i:List UInt8
def uk:List Wd:=[⟨[],[]⟩,⟨[1],[]⟩,⟨[2],[]⟩,⟨[1,2],[]⟩,⟨[3],[]⟩,⟨[],[1]⟩,⟨[1],[1]⟩,⟨[0],[]⟩]
def Sa(l:Wd):List D:=[.str l.s,.str l.i]
def Rx(l:Wd):Va:=⟨2,0,[],l.s,l.i⟩
def p6:List Int:=[0,1,2,3,4,5,9,14]
def Mb:List Va:=p6.map num++uk.map Rx
theorem HU:Z0 17 [] (.d (.sl 2 (uk.map Sa))):=by
 refine sh0 Tryz.f17 ?_
 exact zj0
inductive nQ:List Op->Nat->Prop
  |nil:nQ [] 0
  |snoc {c p:List Op} {k:Nat} (h:nQ c k) (hp:Part c.length p):nQ (c++p) (k+1)
def Jy(c:List Op):Prop:=∃(p:List Op)(k:Nat)(n:Int),nQ p k/\1<=k/\k<=12/\0<=n/\n<8/\c=p++[⟨2,n⟩,⟨18,0⟩]
def qj(f:Fn):Prop:=f.args=1/\f.vars=7/\Jy f.code
def x7(im:Im):Prop:=im.cs=Mb/\im.fs.length=3/\∀f∈im.fs,qj f
def g1(i:Nat):H:=
 match i with
 |0=>[.cells [.nl 5,.nl 3],.cells [.nl 5,.nl 3]]
 |i+1=>[.cells [.nl 5,.nl 3],.cells [.os 2,.nl 3],.rows 5 (((p6.take (i+1)).map num).map cE)]
theorem Part.len{b:Int}{p:List Op}(h:Part b p):p.length<=12:=by
 obtain⟨d,hd,h⟩:=h;have:=hd.len;rcases h with rfl|rfl|⟨_,rfl⟩|⟨_,rfl⟩<;>simp<;>omega
def cB:B:=.rows 5 (Mb.map cE)
def g3(i:Nat)(fs:List Fn):H:=
 match i with
 |0=>[.cells [.nl 5,.nl 3],.cells [.os 2,.nl 3],cB]
 |_+1=>[.cells [.nl 5,.nl 3],.cells [.os 2,.os 5],cB,.no,.no,.rows 3 (fs.map dc)]
theorem JE(fs:List Fn)(f:Fn){r:List (List D)}(h:r=fs.map dc++[dc f]):B.rows 3 r=B.rows 3 ((fs++[f]).map dc):=by
 rw[h,bZ];rfl
def XD(l:List Int)(k:Nat)(a:Int)(c:List Op):H:=
 match k with
 |0=>[.cells [.nl 5,.nl 3],.cells [.os 2,.nl 3],cB,.cells [.d (.sl 1 (d_ l)),.d (.int .i64 0),.nl 2]]
 |_+1=>[.cells [.nl 5,.nl 3],.cells [.os 2,.nl 3],cB,.cells [.d (.sl 1 (d_ l)),.d (.int .i64 a),.os 4],.rows 2 (c.map dO)]
def XC(fs:List Fn)(l:List Int)(k:Nat)(a:Int)(c:List Op):H:=
 match k with
 |0=>[.cells [.nl 5,.nl 3],.cells [.os 2,.os 5],cB,.no,.no,.rows 3 (fs.map dc),.cells [.d (.sl 1 (d_ l)),.d (.int .i64 0),.nl 2]]
 |_+1=>[.cells [.nl 5,.nl 3],.cells [.os 2,.os 5],cB,.no,.no,.rows 3 (fs.map dc),.cells [.d (.sl 1 (d_ l)),.d (.int .i64 a),.os 7],.rows 2 (c.map dO)]
def PI(q:Nat×Int×List Op):Prop:=nQ q.2.2 q.1/\q.1<=12/\0<=q.2.1/\q.2.1<=20*q.1/\q.2.2.length<=12*q.1
theorem PI.step{k:Nat}{a a':Int}{c c':List Op}(h:PI (k,a,c))(hk:k<12)(hc:∃p,Part c.length p/\c'=c++p)(ha:a<=a'/\a'<=a+20):PI (k+1,a',c'):=by
 obtain⟨h1,h2,h3,h4,h5⟩:=h;obtain⟨p,hp,rfl⟩:=hc;have hpl:=hp.len;simp only at h1 h2 h3 h4 h5;exact⟨.snoc h1 hp,hk,by simp only;omega,by simp only;omega,by simp only[aK];omega⟩
theorem PI.nF{k:Nat}{a:Int}{c:List Op}(h:PI (k+1,a,c)){n:Int}(hn:0<=n/\n<8):qj ⟨1,7,c++[⟨2,n⟩]++[⟨18,0⟩]⟩:=
 ⟨rfl,rfl,c,k+1,n,h.1,Nat.le_add_left 1 k,h.2.1,hn.1,hn.2,by rw[bN];rfl⟩
theorem Qa {K : Out → H → Prop} (L : List (List Int)) (hL : ∀ l ∈ L, pE l) (hk : ∀ im, x7 im → K (.ret (x4 im)) []) : Z1 38 [.d (.sl 1 (L.map fun l => [D.sl 1 (d_ l)]))] [] K := by
  generalize hrows:(L.map λl=>[D.sl 1 (d_ l)])=rowsL
  refine sh0 Tryz.f38 ?_
  repeat' ((conv=>whnf);first|exact zf|refine zm ?_|intro _)
  conv=>whnf
  refine bM [(0,.d (.sl 1 rowsL)),(2,.p 0 0),(3,.p 1 0),(12,.d (.sl 1 (p6.map λx=>[D.int .i64 x]))),(13,.d (.int .i64 8))] (λi:Nat=>i<=8) (λi=>[(14,.d (.int .i64 i))]) g1 (λi=>8-i) 0 (ae _) ?_ ?_ ?_ (λi hi=>?_)
  · exact zzz
  · exact⟨aU rfl,aU rfl,trivial⟩
  · exact zx0
  have hn8:∀i:Nat,i<8->∃x,p6[i]?=some x/\(p6.map λx=>[D.int .i64 x])[i]?=some [D.int .i64 x]:=λi hi=>⟨p6[i]'hi,aA hi,by rw[aB,aA (show i<p6.length from hi)];rfl⟩
  rcases i with _|i
  · skip
    repeat' ((conv=>whnf);first|exact zf|refine zm ?_|intro _)
    refine⟨[.int .i64 0],⟨by omega,rfl,rfl⟩,?_⟩
    repeat' ((conv=>whnf);first|exact zf|refine zm ?_|refine zi0 ?_|intro _)
    exact⟨1,by omega,by omega,zzz,⟨aU rfl,aU rfl,aU rfl,trivial⟩,rfl⟩
  · have hi:i+1<=8:=hi
    have jb:(((p6.take (i+1)).map num).map cE).length=i+1:=by simp only[aH,bC];exact mG hi
    repeat' ((conv=>whnf);first|exact zf|refine zm ?_|intro _)
    refine aW (λhlt=>?_) (λhge=>?_)
    · have hlt:i+1<8:=by have:=θ hlt;omega
      obtain⟨x,hx,hrow⟩:=hn8 (i+1) hlt
      have hs:((p6.take (i+2)).map num).map cE=((p6.take (i+1)).map num).map cE++[cE (num x)]:=by
        rw[bc,hx]
        simp only[Option.toList,bZ,cG,kC]
      repeat' ((conv=>whnf);first|exact zf|refine zm ?_|intro _)
      refine⟨[.int .i64 x],⟨by omega,by rw[show((i+1:Nat):Int).toNat=i+1 by omega];exact hrow,rfl⟩,?_⟩
      repeat' ((conv=>whnf);first|exact zf|refine zm ?_|refine zi0 ?_|intro _)
      exact⟨i+2,by omega,by omega,zzz,⟨aU rfl,aU rfl,aU (κ (B.rows 5) hs.symm),trivial⟩,rfl⟩
    · have hge:i=7:=by have:=ι hge;omega
      subst hge
      repeat' ((conv=>whnf);first|exact zf|refine zm ?_|intro _)
      conv=>whnf
      refine bM [(0,.d (.sl 1 rowsL)),(2,.p 0 0),(3,.p 1 0)] (λj:Nat=>j<=8) (λj=>[(6,.d (.int .i64 j))]) (λj=>[.cells [.nl 5,.nl 3],.cells [.os 2,.nl 3],.rows 5 ((p6.map num++(uk.take j).map Rx).map cE)]) (λj=>8-j) 0 (ae _) ?_ ?_ ?_ (λj hj=>?_)
      · exact zzz
      · exact⟨aU rfl,aU rfl,aU rfl,trivial⟩
      · exact zx0
      have hcl2:((p6.map num++(uk.take j).map Rx).map cE).length=8+j:=by
        simp only[aH,aK,bC]
        rw[mG (show j<=uk.length from hj)]
        rfl
      repeat' ((conv=>whnf);first|exact zf|refine zm ?_|intro _)
      refine aW (λhlt=>?_) (λhge=>?_)
      · have hlt:j<8:=by have:=θ hlt;omega
        obtain⟨x,hx⟩:∃x,uk[j]?=some x:=⟨uk[j]'hlt,aA hlt⟩
        have hs:(p6.map num++(uk.take (j+1)).map Rx).map cE=(p6.map num++(uk.take j).map Rx).map cE++[cE (Rx x)]:=by
          rw[bc,hx]
          simp only[Option.toList,bZ,cG,kC,bN]
        repeat' ((conv=>whnf);first|exact zf|refine zm ?_|refine zc HU ?_|intro _)
        refine⟨Sa x,⟨by omega,by simp[hx],rfl⟩,?_⟩
        repeat' ((conv=>whnf);first|exact zf|refine zm ?_|refine zi0 ?_|intro _)
        exact⟨j+1,by omega,by omega,zzz,⟨aU rfl,aU rfl,aU (κ (B.rows 5) hs.symm),trivial⟩,rfl⟩
      · have hge:j=8:=by have:=ι hge;omega
        subst hge
        repeat' ((conv=>whnf);first|exact zf|refine zm ?_|intro _)
        conv=>whnf
        refine bM [(0,.d (.sl 1 rowsL)),(2,.p 0 0),(3,.p 1 0)] (λp:Nat×List Fn=>p.1<=3/\p.2.length=p.1/\∀f∈p.2,qj f) (λp=>[(7,.d (.int .i64 p.1))]) (λp=>g3 p.1 p.2) (λp=>3-p.1) (0,[]) ⟨ae _,rfl,λ_ h=>nomatch h⟩ ?_ ?_ ?_ (λp hp=>?_)
        · exact zzz
        · exact⟨aU rfl,aU rfl,aU rfl,trivial⟩
        · exact zx0
        obtain⟨i,fs⟩:=p
        obtain⟨hi3,hfl,hfs⟩:=hp
        have hi3:i<=3:=hi3
        have hfl:fs.length=i:=hfl
        have hfs:∀f∈fs,qj f:=hfs
        have hrl:rowsL.length=L.length:=by rw[<-hrows,aH]
        have hget:∀k,k<L.length->∃l,pE l/\rowsL[k]?=some [D.sl 1 (d_ l)]:=λk hk=>⟨L[k],hL _ (cP hk),by rw[<-hrows,aB,aA hk];rfl⟩
        rcases i with _|i
        · skip
          repeat' ((conv=>whnf);first|exact zf|refine zm ?_|intro _)
          refine aW (λhin=>?_) (λhout=>?_)
          · have hin:0<L.length:=by have:=θ hin;omega
            obtain⟨l,hl,hrow⟩:=hget 0 hin
            repeat' ((conv=>whnf);first|exact zf|refine zm ?_|intro _)
            refine⟨[D.sl 1 (d_ l)],⟨by omega,hrow,rfl⟩,?_⟩
            repeat' ((conv=>whnf);first|exact zf|refine zm ?_|refine zi0 ?_|intro _)
            conv=>whnf
            refine bM [(0,.d (.sl 1 rowsL)),(2,.p 0 0),(3,.p 1 0),(7,.d (.int .i64 0)),(8,.p 3 0),(9,.d (.int .i64 (1)))] PI (λq=>[(10,.d (.int .i64 q.1))]) (λq=>XD (l) q.1 q.2.1 q.2.2) (λq=>12-q.1) (0,0,[]) ⟨.nil,by decide,by decide,by decide,by decide⟩ ?_ ?_ ?_ (λq hq=>?_)
            · exact zzz
            · exact⟨aU rfl,aU rfl,aU rfl,aU rfl,trivial⟩
            · exact zx0
            obtain⟨k,a,c⟩:=q
            obtain⟨q1,q2,q3,q4,q5⟩:=hq
            have hul:=ic (l)
            have htd:0<=((d_ (l)).length:Int).tdiv 6:=Int.tdiv_nonneg (by omega) (by decide)
            rcases k with _|k
            · skip
              repeat' ((conv=>whnf);first|exact zf|refine zm ?_|refine zi0 ?_|intro _)
              refine aW (λhb=>?_) (λhb=>absurd (ι hb) (by omega))
              repeat' ((conv=>whnf);first|exact zf|refine zm ?_|refine zr0 ?_|refine(Sat.own (by decide) 0 2 rfl rfl ?_)|refine(mq (l) 0 [] _ hl ⟨by omega,by omega⟩ (by decide) ⟨by decide,by decide⟩ (λa' c' hc' ha'=>?_))|intro _)
              repeat' ((conv=>whnf);first|exact zf|refine zm ?_|refine zi0 ?_|intro _)
              exact⟨(1,a',c'),PI.step (k:=0) (a:=0) (c:=[]) ⟨.nil,by decide,by decide,by decide,by decide⟩ (by decide) hc' ha',(by show(12-1:Nat)<12-0;decide),zzz,⟨aU rfl,aU rfl,aU rfl,aU rfl,aU rfl,trivial⟩,rfl⟩
            · have q3:0<=a:=q3
              have q4:a<=20*((k+1:Nat):Int):=q4
              have q5:c.length<=12*(k+1):=q5
              have q2:k+1<=12:=q2
              have q1:nQ c (k+1):=q1
              have hcl2:(c.map dO).length=c.length:=by simp
              repeat' ((conv=>whnf);first|exact zf|refine(iy [4] ?_)|refine zm ?_|refine zi0 ?_|refine zr0 ?_|refine(mq (l) a c _ hl ⟨by omega,by omega⟩ (by omega) ⟨by decide,by decide⟩ (λa' c' hc' ha'=>?_))|refine(lv (l) _ _ hl ⟨by omega,by omega⟩ (λn hn=>?_))|refine(jS (l) _ _ _ _ (by(try simp only[aK,aX,ah]);omega) ?_)|refine aW (λhb=>?_) (λhb=>?_)|intro _)
              · have hk12:k+2<=12:=by have:=θ (by assumption:decide (((k+1:Nat):Int)<12)=true);omega
                exact⟨(k+2,a',c'),PI.step ⟨q1,q2,q3,q4,q5⟩ (by omega) hc' ha',(by show 12-(k+2)<12-(k+1);omega),zzz,⟨aU rfl,aU rfl,aU rfl,aU rfl,aU rfl,trivial⟩,rfl⟩
              all_goals
                exact⟨(1,[⟨1,7,c++[(⟨2,n.tmod 8⟩:Op)]++[(⟨18,0⟩:Op)]⟩]),⟨(by show(1:Nat)<=3;decide),rfl,λf hf=>by rw[aL.1 hf];exact PI.nF ⟨q1,q2,q3,q4,q5⟩ ⟨by omega,by omega⟩⟩,(by show(3-1:Nat)<3-0;decide),zzz,⟨aU rfl,aU rfl,aU rfl,aU rfl,trivial⟩,rfl⟩
          · skip
            repeat' ((conv=>whnf);first|exact zf|refine zm ?_|refine zi0 ?_|intro _)
            conv=>whnf
            obtain⟨l,hl,hl0⟩:∃l:List Int,pE l/\d_ l=[]:=⟨[],(λ_ h=>nomatch h),rfl⟩
            refine bM [(0,.d (.sl 1 rowsL)),(2,.p 0 0),(3,.p 1 0),(7,.d (.int .i64 0)),(8,.p 3 0),(9,.d (.int .i64 (1)))] PI (λq=>[(10,.d (.int .i64 q.1))]) (λq=>XD (l) q.1 q.2.1 q.2.2) (λq=>12-q.1) (0,0,[]) ⟨.nil,by decide,by decide,by decide,by decide⟩ ?_ ?_ ?_ (λq hq=>?_)
            · exact zzz
            · exact⟨aU rfl,aU rfl,aU rfl,.inr ⟨(by rw[hl0];exact rfl),fN rfl,fN rfl,trivial⟩,trivial⟩
            · exact zx0
            obtain⟨k,a,c⟩:=q
            obtain⟨q1,q2,q3,q4,q5⟩:=hq
            have hul:=ic (l)
            have htd:0<=((d_ (l)).length:Int).tdiv 6:=Int.tdiv_nonneg (by omega) (by decide)
            rcases k with _|k
            · skip
              repeat' ((conv=>whnf);first|exact zf|refine zm ?_|refine zi0 ?_|intro _)
              refine aW (λhb=>?_) (λhb=>absurd (ι hb) (by omega))
              repeat' ((conv=>whnf);first|exact zf|refine zm ?_|refine zr0 ?_|refine(Sat.own (by decide) 0 2 rfl rfl ?_)|refine(mq (l) 0 [] _ hl ⟨by omega,by omega⟩ (by decide) ⟨by decide,by decide⟩ (λa' c' hc' ha'=>?_))|intro _)
              repeat' ((conv=>whnf);first|exact zf|refine zm ?_|refine zi0 ?_|intro _)
              exact⟨(1,a',c'),PI.step (k:=0) (a:=0) (c:=[]) ⟨.nil,by decide,by decide,by decide,by decide⟩ (by decide) hc' ha',(by show(12-1:Nat)<12-0;decide),zzz,⟨aU rfl,aU rfl,aU rfl,aU rfl,aU rfl,trivial⟩,rfl⟩
            · have q3:0<=a:=q3
              have q4:a<=20*((k+1:Nat):Int):=q4
              have q5:c.length<=12*(k+1):=q5
              have q2:k+1<=12:=q2
              have q1:nQ c (k+1):=q1
              have hcl2:(c.map dO).length=c.length:=by simp
              repeat' ((conv=>whnf);first|exact zf|refine(iy [4] ?_)|refine zm ?_|refine zi0 ?_|refine zr0 ?_|refine(mq (l) a c _ hl ⟨by omega,by omega⟩ (by omega) ⟨by decide,by decide⟩ (λa' c' hc' ha'=>?_))|refine(lv (l) _ _ hl ⟨by omega,by omega⟩ (λn hn=>?_))|refine(jS (l) _ _ _ _ (by(try simp only[aK,aX,ah]);omega) ?_)|refine aW (λhb=>?_) (λhb=>?_)|intro _)
              · have hk12:k+2<=12:=by have:=θ (by assumption:decide (((k+1:Nat):Int)<12)=true);omega
                exact⟨(k+2,a',c'),PI.step ⟨q1,q2,q3,q4,q5⟩ (by omega) hc' ha',(by show 12-(k+2)<12-(k+1);omega),zzz,⟨aU rfl,aU rfl,aU rfl,aU rfl,aU rfl,trivial⟩,rfl⟩
              all_goals
                exact⟨(1,[⟨1,7,c++[(⟨2,n.tmod 8⟩:Op)]++[(⟨18,0⟩:Op)]⟩]),⟨(by show(1:Nat)<=3;decide),rfl,λf hf=>by rw[aL.1 hf];exact PI.nF ⟨q1,q2,q3,q4,q5⟩ ⟨by omega,by omega⟩⟩,(by show(3-1:Nat)<3-0;decide),zzz,⟨aU rfl,aU rfl,aU rfl,aU rfl,trivial⟩,rfl⟩
        · have hfl3:(fs.map dc).length=i+1:=by rw[aH,hfl]
          repeat' ((conv=>whnf);first|exact zf|refine zm ?_|intro _)
          refine aW (λhlt=>?_) (λhge=>?_)
          · have hlt:i+1<3:=by have:=θ hlt;omega
            have hab:0<=(((i+1:Nat):Int)+1).tmod 3/\(((i+1:Nat):Int)+1).tmod 3<3:=by
              rw[aw (by omega)]
              omega
            repeat' ((conv=>whnf);first|exact zf|refine zm ?_|intro _)
            refine aW (λhin=>?_) (λhout=>?_)
            · have hin:i+1<L.length:=by have:=θ hin;omega
              obtain⟨l,hl,hrow⟩:=hget (i+1) hin
              repeat' ((conv=>whnf);first|exact zf|refine zm ?_|intro _)
              refine⟨[D.sl 1 (d_ l)],⟨by omega,by rw[show((i+1:Nat):Int).toNat=i+1 by omega];exact hrow,rfl⟩,?_⟩
              repeat' ((conv=>whnf);first|exact zf|refine zm ?_|refine zi0 ?_|intro _)
              conv=>whnf
              refine bM [(0,.d (.sl 1 rowsL)),(2,.p 0 0),(3,.p 1 0),(7,.d (.int .i64 ((i+1:Nat):Int))),(8,.p 6 0),(9,.d (.int .i64 ((((i+1:Nat):Int)+1).tmod 3)))] PI (λq=>[(10,.d (.int .i64 q.1))]) (λq=>XC fs (l) q.1 q.2.1 q.2.2) (λq=>12-q.1) (0,0,[]) ⟨.nil,by decide,by decide,by decide,by decide⟩ ?_ ?_ ?_ (λq hq=>?_)
              · exact zzz
              · exact⟨aU rfl,aU rfl,aU rfl,aU rfl,aU rfl,trivial⟩
              · exact zx0
              obtain⟨k,a,c⟩:=q
              obtain⟨q1,q2,q3,q4,q5⟩:=hq
              have hul:=ic (l)
              have htd:0<=((d_ (l)).length:Int).tdiv 6:=Int.tdiv_nonneg (by omega) (by decide)
              rcases k with _|k
              · skip
                repeat' ((conv=>whnf);first|exact zf|refine zm ?_|refine zi0 ?_|intro _)
                refine aW (λhb=>?_) (λhb=>absurd (ι hb) (by omega))
                repeat' ((conv=>whnf);first|exact zf|refine zm ?_|refine zr0 ?_|refine(Sat.own (by decide) 0 2 rfl rfl ?_)|refine(mq (l) 0 [] _ hl ⟨by omega,by omega⟩ (by decide) hab (λa' c' hc' ha'=>?_))|intro _)
                repeat' ((conv=>whnf);first|exact zf|refine zm ?_|refine zi0 ?_|intro _)
                exact⟨(1,a',c'),PI.step (k:=0) (a:=0) (c:=[]) ⟨.nil,by decide,by decide,by decide,by decide⟩ (by decide) hc' ha',(by show(12-1:Nat)<12-0;decide),zzz,⟨aU rfl,aU rfl,aU rfl,aU rfl,aU rfl,aU rfl,trivial⟩,rfl⟩
              · have q3:0<=a:=q3
                have q4:a<=20*((k+1:Nat):Int):=q4
                have q5:c.length<=12*(k+1):=q5
                have q2:k+1<=12:=q2
                have q1:nQ c (k+1):=q1
                have hcl2:(c.map dO).length=c.length:=by simp
                repeat' ((conv=>whnf);first|exact zf|refine(iy [7] ?_)|refine zm ?_|refine zi0 ?_|refine zr0 ?_|refine(mq (l) a c _ hl ⟨by omega,by omega⟩ (by omega) hab (λa' c' hc' ha'=>?_))|refine(lv (l) _ _ hl ⟨by omega,by omega⟩ (λn hn=>?_))|refine(jS (l) _ _ _ _ (by(try simp only[aK,aX,ah]);omega) ?_)|refine aW (λhb=>?_) (λhb=>?_)|intro _)
                · have hk12:k+2<=12:=by have:=θ (by assumption:decide (((k+1:Nat):Int)<12)=true);omega
                  exact⟨(k+2,a',c'),PI.step ⟨q1,q2,q3,q4,q5⟩ (by omega) hc' ha',(by show 12-(k+2)<12-(k+1);omega),zzz,⟨aU rfl,aU rfl,aU rfl,aU rfl,aU rfl,aU rfl,trivial⟩,rfl⟩
                all_goals
                  exact⟨(i+2,fs++[⟨1,7,c++[(⟨2,n.tmod 8⟩:Op)]++[(⟨18,0⟩:Op)]⟩]),⟨(by show i+2<=3;omega),(by simp only[aK,aX,ah];omega),λf hf=>(aR.1 hf).elim (hfs f) λhf=>by rw[aL.1 hf];exact PI.nF ⟨q1,q2,q3,q4,q5⟩ ⟨by omega,by omega⟩⟩,(by show 3-(i+2)<3-(i+1);omega),zzz,⟨aU rfl,aU rfl,aU rfl,aU (JE fs ⟨1,7,c++[(⟨2,n.tmod 8⟩:Op)]++[(⟨18,0⟩:Op)]⟩ rfl),trivial⟩,rfl⟩
            · skip
              repeat' ((conv=>whnf);first|exact zf|refine zm ?_|refine zi0 ?_|intro _)
              conv=>whnf
              obtain⟨l,hl,hl0⟩:∃l:List Int,pE l/\d_ l=[]:=⟨[],(λ_ h=>nomatch h),rfl⟩
              refine bM [(0,.d (.sl 1 rowsL)),(2,.p 0 0),(3,.p 1 0),(7,.d (.int .i64 ((i+1:Nat):Int))),(8,.p 6 0),(9,.d (.int .i64 ((((i+1:Nat):Int)+1).tmod 3)))] PI (λq=>[(10,.d (.int .i64 q.1))]) (λq=>XC fs (l) q.1 q.2.1 q.2.2) (λq=>12-q.1) (0,0,[]) ⟨.nil,by decide,by decide,by decide,by decide⟩ ?_ ?_ ?_ (λq hq=>?_)
              · exact zzz
              · exact⟨aU rfl,aU rfl,aU rfl,aU rfl,.inr ⟨(by rw[hl0];exact rfl),fN rfl,fN rfl,trivial⟩,trivial⟩
              · exact zx0
              obtain⟨k,a,c⟩:=q
              obtain⟨q1,q2,q3,q4,q5⟩:=hq
              have hul:=ic (l)
              have htd:0<=((d_ (l)).length:Int).tdiv 6:=Int.tdiv_nonneg (by omega) (by decide)
              rcases k with _|k
              · skip
                repeat' ((conv=>whnf);first|exact zf|refine zm ?_|refine zi0 ?_|intro _)
                refine aW (λhb=>?_) (λhb=>absurd (ι hb) (by omega))
                repeat' ((conv=>whnf);first|exact zf|refine zm ?_|refine zr0 ?_|refine(Sat.own (by decide) 0 2 rfl rfl ?_)|refine(mq (l) 0 [] _ hl ⟨by omega,by omega⟩ (by decide) hab (λa' c' hc' ha'=>?_))|intro _)
                repeat' ((conv=>whnf);first|exact zf|refine zm ?_|refine zi0 ?_|intro _)
                exact⟨(1,a',c'),PI.step (k:=0) (a:=0) (c:=[]) ⟨.nil,by decide,by decide,by decide,by decide⟩ (by decide) hc' ha',(by show(12-1:Nat)<12-0;decide),zzz,⟨aU rfl,aU rfl,aU rfl,aU rfl,aU rfl,aU rfl,trivial⟩,rfl⟩
              · have q3:0<=a:=q3
                have q4:a<=20*((k+1:Nat):Int):=q4
                have q5:c.length<=12*(k+1):=q5
                have q2:k+1<=12:=q2
                have q1:nQ c (k+1):=q1
                have hcl2:(c.map dO).length=c.length:=by simp
                repeat' ((conv=>whnf);first|exact zf|refine(iy [7] ?_)|refine zm ?_|refine zi0 ?_|refine zr0 ?_|refine(mq (l) a c _ hl ⟨by omega,by omega⟩ (by omega) hab (λa' c' hc' ha'=>?_))|refine(lv (l) _ _ hl ⟨by omega,by omega⟩ (λn hn=>?_))|refine(jS (l) _ _ _ _ (by(try simp only[aK,aX,ah]);omega) ?_)|refine aW (λhb=>?_) (λhb=>?_)|intro _)
                · have hk12:k+2<=12:=by have:=θ (by assumption:decide (((k+1:Nat):Int)<12)=true);omega
                  exact⟨(k+2,a',c'),PI.step ⟨q1,q2,q3,q4,q5⟩ (by omega) hc' ha',(by show 12-(k+2)<12-(k+1);omega),zzz,⟨aU rfl,aU rfl,aU rfl,aU rfl,aU rfl,aU rfl,trivial⟩,rfl⟩
                all_goals
                  exact⟨(i+2,fs++[⟨1,7,c++[(⟨2,n.tmod 8⟩:Op)]++[(⟨18,0⟩:Op)]⟩]),⟨(by show i+2<=3;omega),(by simp only[aK,aX,ah];omega),λf hf=>(aR.1 hf).elim (hfs f) λhf=>by rw[aL.1 hf];exact PI.nF ⟨q1,q2,q3,q4,q5⟩ ⟨by omega,by omega⟩⟩,(by show 3-(i+2)<3-(i+1);omega),zzz,⟨aU rfl,aU rfl,aU rfl,aU (JE fs ⟨1,7,c++[(⟨2,n.tmod 8⟩:Op)]++[(⟨18,0⟩:Op)]⟩ rfl),trivial⟩,rfl⟩
          · have hge:i=2:=by have:=ι hge;omega
            subst hge
            repeat' ((conv=>whnf);first|exact zf|refine zm ?_|intro _)
            exact hk ⟨Mb,fs⟩ ⟨rfl,hfl,hfs⟩
def zU(s:b7)(kp:List Nat)(o:Ob)(b:Option Nat):b7:=bif decide (3<=o.k)&&decide (o.k<=7)then j8 s kp o b else s
theorem Ra{K:KT}(s:b7)(kp:List Nat)(o:Ob)(hn:ee kp)(hs:lQ s)(hl:cL o.l)(hq:o.va.q.length<100000000)(hk:∀b n,K (.ret (.d (.int .i64 n))) (jW (zU s kp o b))) :
  Z1 14 [.p 0 0,.d (.str (bm kp)),gJ o] (jW s) K:=by
 unfold zU at hk
 by_cases h:3<=o.k/\o.k<=7
 .rw[show(decide (3<=o.k)&&decide (o.k<=7))=true by simp[h.1,h.2]]at hk;exact Bd s kp o ⟨hn,hs,hl,h.1,h.2,hq⟩ hk
 .rw[show(decide (3<=o.k)&&decide (o.k<=7))=false by rw[Bool.and_eq_false_iff,decide_eq_false_iff_not,decide_eq_false_iff_not];omega]at hk;exact DV s kp o hn hl (.inl (by omega)) (hk none 1)
def jM(p:Int×Ob):List D:=.int .u8 p.1::fD p.2
structure vQ(mx:Int)(q:Nat)(p:Int×Ob):Prop where
  i:0<=p.1/\p.1<=255
  o:kL mx q p.2
def tK(o:Ob):Ob:={o with l:=wG o.l}
theorem nY(l:Lb):(wG l).s.length<=4/\(wG l).i.length<=4:=⟨List.length_take_le _ _,List.length_take_le _ _⟩
theorem HG{mx:Int}{q:Nat}{o:Ob}(h:kL mx q o):kL mx q (tK o):=
 ⟨And.intro (aV (nY o.l).1 (by decide)) (aV (nY o.l).2 (by decide)),h.v,h.w,h.qs,h.ql,h.m⟩
def q_:List (List Nat):=[[0],[1],[0,0],[0,1],[2],[10],[1,0],[0,0,0]]
theorem JU(n:Nat)(h:n<10):Lib.decDigits n=[UInt8.ofNat (48+n)]:=by
 unfold Lib.decDigits;rw[dif_pos h]
theorem UR:Lib.decDigits 10=[49,48]:=by
 unfold Lib.decDigits;rw[dif_neg (by decide),JU _ (by decide)];rfl
theorem qT:iI=q_.map bm:=by
 unfold q_;simp only[cG,kC,bm,pN,o4,List.flatMap_nil,cV,UR,JU 0 (by decide),JU 1 (by decide),JU 2 (by decide)];rfl
theorem EJ{i:Int}(h:0<=i/\i<8):∃kp,kp∈q_/\ee kp/\iI[i.toNat]?=some (bm kp):=by
 have hl:i.toNat<q_.length:=by show i.toNat<8;omega
 have hg:∀k∈q_,ee k:=by
  have:∀k∈q_,k≠[]/\k.length<=24/\∀n∈k,n<100:=by decide
  exact this
 exact⟨q_[i.toNat],cP hl,hg _ (cP hl),by rw[qT,aB,aA hl];rfl⟩
structure D2(mx:Int)(q n:Nat)(s:b7):Prop where
  so:fy mx q n s
  co:qJ s
  nm:∀p∈s.th,p.1∈iI
theorem D2.zU{mx:Int}{q n:Nat}{s:b7}(h:D2 mx q n s){kp:List Nat}{o:Ob}(hk:kp∈q_)(hg:ee kp)(ho:kL mx q o)(b:Option Nat):D2 mx (q+1) (n+1) (zU s kp o b):=by
 have hz:D2 mx (q+1) (n+1) s:=⟨h.so.mono,h.co,h.nm⟩
 unfold Go.Proofs.YtjpgfgajkjhonaaGreatDoor.zU;cases decide (3<=o.k)&&decide (o.k<=7) with
 |false=>exact hz
 |true=>
  refine⟨h.so.add hg ho.mono b,h.co.add hg b,λp hp=>?_⟩;have hp:p∈(j8 s kp o b).th:=hp;unfold j8 at hp;cases hb:ky o.l&&(bW (bm kp) s.th).isNone with
  |false=>rw[hb]at hp;exact h.nm p hp
  |true=>
   rw[hb]at hp;rcases aR.1 hp with h1|h1
   .exact h.nm p h1
   .rw[aL.1 h1,qT];exact bJ.2 ⟨kp,hk,rfl⟩
theorem D2.gs{mx:Int}{q n:Nat}{s:b7}(h:D2 mx q n s)(hn:n<1000):lQ s:=
 ⟨by have:=h.so.nm;omega,λp hp=>⟨by have:=(h.so.ns p hp).1;omega,(h.so.ns p hp).2⟩⟩
theorem Mx(mx:Int)(q:Nat):D2 mx q 0 ⟨[],[]⟩:=⟨⟨aM _,λp hp=>(by cases hp),λp hp=>(by cases hp)⟩,Md,λp hp=>by cases hp⟩
theorem R0{K:KT}(mx:Int)(q:Nat)(l:List (Int×Ob))(hl:∀p∈l,vQ mx q p)(hq:q<90000000)(hk:∀s r,D2 mx (q+10) 10 s->K (.ret (.tu [.p 0 0,.p 3 0])) (jW s++NX r)) :
  Z1 37 [.d (.sl 20 (l.map jM))] [] K:=by
 have hlen:(l.map jM).length=l.length:=aH _;refine sh0 Tryz.f37 ?_
 repeat' ((conv=>whnf);first|exact zf|refine zm ?_|refine(Ng ?_)|intro _)
 conv=>whnf
 refine bM [(0,.d (.sl 20 (l.map jM))),(4,.p 0 0),(5,.p 3 0)] (λp:Nat×b7×List (List UInt8×Ob)=>(p.1<=l.length/\p.1<=10)/\D2 mx (q+p.1) p.1 p.2.1/\Tc p.2.2/\p.2.2.length<=p.1) (λp=>[(6,.d (.int .i64 p.1))]) (λp=>[.cells [.mp 1,.mp 2],.dm (jV p.2.1.th),.ms 1 (kM p.2.1.nm) none none,.cells [.d (.sl 20 (p.2.2.map mj))]]) (λp=>l.length-p.1) (0,⟨[],[]⟩,[]) ⟨⟨ae _,ae _⟩,Mx _ _,(λp hp=>by cases hp),ae _⟩ ?_ ?_ ?_ (λp hp=>?_)
 .exact zzz
 .exact⟨aU rfl,aU rfl,aU rfl,.inr ⟨(show FL (.nl 20) (.d (.sl 20 []))from rfl),trivial⟩,trivial⟩
 .exact zx0
 obtain⟨i,s,r⟩:=p;obtain⟨⟨i1,i2⟩,hs,hr,hrl⟩:=hp;dsimp only at i1 i2 hs hr hrl⊢
 by_cases hlt:i<l.length/\i<10
 .have tx:decide ((i:Int)<((l.map jM).length:Int))=true:=by simp;omega
  have ty:decide ((i:Int)<10)=true:=by simp;omega
  have hlt:=hlt.1;have hg:(l.map jM)[(i:Int).toNat]?=some (.int .u8 l[i].1::fD l[i].2):=by rw[show(i:Int).toNat=i by omega,aB,aA hlt];rfl
  have ht:=hl _ (cP hlt);have h76:=Kw l[i].2.l;have hid:l[i].1.tmod 8=l[i].1 % 8:=aw ht.i.1;obtain⟨kp,hkp,hkg,hnm⟩:=EJ (i:=l[i].1.tmod 8) (by have:=ht.i;omega);have rn:(iI.map λs=>[D.str s])[(l[i].1.tmod 8).toNat]?=some [.str (bm kp)]:=by rw[aB,hnm];rfl
  have ho:=HG ht.o;have hql:(tK l[i].2).va.q.length<100000000:=by have:=ho.ql;omega
  have h14:=λ{K:KT}=>Ra (K:=K) s kp (tK l[i].2) hkg (hs.gs (by omega)) ho.l hql;have h79:=Pw (tK l[i].2) hql;have h78:=λ{K:KT}=>U6 (K:=K) r (bm kp) (tK l[i].2) hr (by rw[qT];exact bJ.2 ⟨kp,hkp,rfl⟩) (aV (nY _).1 (by decide)) (aV (nY _).2 (by decide)) (by omega);have hz:=λb=>hs.zU hkp hkg ⟨ho.l,ho.v,ho.w,ho.qs,aV ho.ql (Nat.le_add_right _ _),ho.m⟩ b
  repeat' ((conv=>whnf);first|exact zf|refine zm ?_|refine(gM tx ?_)|refine(gM ty ?_)|refine⟨_,⟨by omega,hg,rfl⟩,?_⟩|refine zc h76 ?_|refine zc CX ?_|refine⟨_,⟨by omega,rn,rfl⟩,?_⟩|refine zr0 ?_|refine(h14 (λb n=>?_))|refine zc h79 ?_|refine(h78 (λe=>?_) (λr' hr' hl'=>?_))|refine zi0 ?_|intro _)
  .exact⟨(i+1,zU s kp (tK l[i].2) b,r),⟨⟨hlt,(by show i+1<=10;omega)⟩,hz b,hr,(by show r.length<=i+1;omega)⟩,(by show l.length-(i+1)<l.length-i;omega),zzz,zzz,rfl⟩
  .exact⟨(i+1,zU s kp (tK l[i].2) b,r'),⟨⟨hlt,(by show i+1<=10;omega)⟩,hz b,hr',(by show r'.length<=i+1;omega)⟩,(by show l.length-(i+1)<l.length-i;omega),zzz,zzz,rfl⟩
 .have fin:D2 mx (q+10) 10 s:=by
   obtain⟨d,hd⟩:∃d,i+d=10:=⟨10-i,by omega⟩
   have key:∀d q i,D2 mx q i s->D2 mx (q+d) (i+d) s:=by
    intro d
    induction d with
    |zero=>intro q i h;exact h
    |succ d ih=>intro q i h;exact ih (q+1) (i+1) ⟨h.so.mono,h.co,h.nm⟩ |> λh=>by rw[jI,jI,Nat.add_comm 1 d]at h;exact h
   have h1:=key d _ _ hs;rw[jI,hd]at h1;exact h1
  by_cases h1:i<l.length
  .have tx:decide ((i:Int)<((l.map jM).length:Int))=true:=by simp;omega
   have ty:decide ((i:Int)<10)=false:=by simp;omega
   repeat' ((conv=>whnf);first|exact zf|refine zm ?_|refine(gM tx ?_)|refine(gG ty ?_)|intro _)
   exact hk s r fin
  .have tx:decide ((i:Int)<((l.map jM).length:Int))=false:=by simp;omega
   repeat' ((conv=>whnf);first|exact zf|refine zm ?_|refine(gG tx ?_)|intro _)
   exact hk s r fin
structure FT where
  l:Int
  c:Int
  mz:Int
  fn:Int
  ar:Int
  ro:Int
def p_(x:FT):List V:=[.d (.int .u8 x.l),.d (.int .u8 x.c),.d (.int .u8 x.mz),.d (.int .u8 x.fn),.d (.int .u8 x.ar),.d (.int .u8 x.ro)]
structure yT(x:FT):Prop where
  l:0<=x.l/\x.l<=255
  c:0<=x.c/\x.c<=255
  mz:0<=x.mz/\x.mz<=255
  fn:0<=x.fn/\x.fn<=255
  ar:0<=x.ar/\x.ar<=255
  ro:0<=x.ro/\x.ro<=255
def oN(x:FT):Th:=Jn x.l x.c x.mz x.fn x.ar x.ro
def Tg(b:Bool)(x:FT):FT:=bif b then{x with mz:=0}else x
theorem Qi{K:KT}(mx:Int)(q:Nat)(f:List (List Int))(hf:∀l∈f,pE l)(l:List (Int×Ob))(hl:∀p∈l,vQ mx q p)(hq:q<90000000)(x:FT)(hx:yT x)(b:Bool)
  (hk:∀im s,x7 im->D2 mx (q+10) 10 s->K (.ret (.p 0 0)) (zr im (oN (Tg b x)) s)) :
  Z1 10 [.d (.sl 1 (f.map λl=>[D.sl 1 (d_ l)])),.d (.sl 20 (l.map jM)),.ag (p_ x),.d (.bool b)] [] K:=by
 have h37:=λ{K:KT}=>R0 (K:=K) mx q l hl hq;have h38:=λ{K:KT}=>Qa (K:=K) f hf;have h39:=λim=>DN x.l x.c x.mz x.fn x.ar x.ro im hx.l hx.c hx.mz hx.fn hx.ar hx.ro;have h39':=λim=>DN x.l x.c 0 x.fn x.ar x.ro im hx.l hx.c ⟨by decide,by decide⟩ hx.fn hx.ar hx.ro;cases b with
 |false=>
  refine sh0 Tryz.f10 ?_
  repeat' ((conv=>whnf);first|exact zf|refine zm ?_|refine(h37 (λs r hs=>?_))|refine(h38 (λim hi=>?_))|refine zc (h39 im) ?_|intro _)
  all_goals exact hk im s hi hs
 |true=>
  refine sh0 Tryz.f10 ?_
  repeat' ((conv=>whnf);first|exact zf|refine zm ?_|refine(h37 (λs r hs=>?_))|refine(h38 (λim hi=>?_))|refine zc (h39' im) ?_|intro _)
  all_goals exact hk im s hi hs
end Go.Proofs.YtjpgfgajkjhonaaGreatDoor