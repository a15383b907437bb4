/- Lemmas. Conditions: none. -/
import Derived.Test.YtjpgfgajkjhonaaGreatDoorQHBG
set_option maxHeartbeats 4000000
namespace Go.Proofs.YtjpgfgajkjhonaaGreatDoor
open Go.Vx
set_option maxRecDepth 100000
structure WJ where
  s:List UInt8
  i:List UInt8
def vA:List WJ:=[⟨[],[]⟩,⟨[1],[]⟩,⟨[2],[]⟩,⟨[1,2],[]⟩,⟨[3],[]⟩,⟨[],[1]⟩,⟨[1],[1]⟩,⟨[0],[]⟩]
def SP (l:WJ):List D:=[.str l.s,.str l.i]
def Rh (l:WJ):Va:=⟨2,0,[],l.s,l.i⟩
def ph:List Int:=[0,1,2,3,4,5,9,14]
def M9:List Va:=ph.map num++vA.map Rh
theorem Hh:Z0 17 [] (.d (.sl 2 (vA.map SP))):=by
 refine sh0 Tryz.f17 ?_
 exact zj0
inductive nY:List Op→Nat→Prop
  |nil:nY [] 0
  |snoc {c p:List Op} {k:Nat} (h:nY c k) (hp:Part c.length p):nY (c++p) (k+1)
def KR (c:List Op):Prop:=∃(p:List Op) (k:Nat) (n:Int),nY p k∧1≤k∧k≤12∧0≤n∧n<8∧c=p ++ [⟨2,n⟩,⟨18,0⟩]
def rE (f:Fn):Prop:=f.args=1∧f.vars=7∧KR f.code
def xp (im:Im):Prop:=im.cs=M9∧im.fs.length=3∧∀f∈im.fs,rE f
def g1 (i:Nat):H:=
 match i with
 |0=>[.cells [.nl 5,.nl 3],.cells [.nl 5,.nl 3]]
 |i+1=>[.cells [.nl 5,.nl 3],.cells [.os 2,.nl 3],.rows 5 (((ph.take (i+1)).map num).map cK)]
theorem Part.len {b:Int} {p:List Op} (h:Part b p):p.length≤12:=by
 obtain ⟨d,hd,h⟩:=h;have:=hd.len;rcases h with rfl | rfl | ⟨_,rfl⟩ | ⟨_,rfl⟩<;>simp<;>omega
def cB:B:=.rows 5 (M9.map cK)
def g3 (i:Nat) (fs:List Fn):H:=
 match i with
 |0=>[.cells [.nl 5,.nl 3],.cells [.os 2,.nl 3],cB]
 |_+1=>[.cells [.nl 5,.nl 3],.cells [.os 2,.os 5],cB,.no,.no,.rows 3 (fs.map dw)]
theorem JX (fs:List Fn) (f:Fn) {r:List (List D)} (h:r=fs.map dw ++ [dw f]):B.rows 3 r=B.rows 3 ((fs ++ [f]).map dw):=by
 rw [h,bY];rfl
def W7 (l:List Int) (k:Nat) (a:Int) (c:List Op):H:=
 match k with
 |0=>[.cells [.nl 5,.nl 3],.cells [.os 2,.nl 3],cB,.cells [.d (.sl 1 (eJ l)),.d (.int .i64 0),.nl 2]]
 |_+1=>[.cells [.nl 5,.nl 3],.cells [.os 2,.nl 3],cB,.cells [.d (.sl 1 (eJ l)),.d (.int .i64 a),.os 4],.rows 2 (c.map dZ)]
def W6 (fs:List Fn) (l:List Int) (k:Nat) (a:Int) (c:List Op):H:=
 match k with
 |0=>[.cells [.nl 5,.nl 3],.cells [.os 2,.os 5],cB,.no,.no,.rows 3 (fs.map dw),.cells [.d (.sl 1 (eJ l)),.d (.int .i64 0),.nl 2]]
 |_+1=>[.cells [.nl 5,.nl 3],.cells [.os 2,.os 5],cB,.no,.no,.rows 3 (fs.map dw),.cells [.d (.sl 1 (eJ l)),.d (.int .i64 a),.os 7],.rows 2 (c.map dZ)]
def PI (q:Nat×Int×List Op):Prop:=nY q.2.2 q.1∧q.1≤12∧0≤q.2.1∧q.2.1≤20*q.1∧q.2.2.length≤12*q.1
theorem PI.step {k:Nat} {a a':Int} {c c':List Op} (h:PI (k,a,c)) (hk:k<12) (hc:∃p,Part c.length p∧c'=c++p) (ha:a≤a'∧a'≤a+20):PI (k+1,a',c'):=by
 obtain ⟨h1,h2,h3,h4,h5⟩:=h;obtain ⟨p,hp,rfl⟩:=hc;have hpl:=hp.len;simp only at h1 h2 h3 h4 h5;exact ⟨.snoc h1 hp,hk,by simp only;omega,by simp only;omega,by simp only [aL];omega⟩
theorem PI.nP {k:Nat} {a:Int} {c:List Op} (h:PI (k+1,a,c)) {n:Int} (hn:0≤n∧n<8):rE ⟨1,7,c ++ [⟨2,n⟩] ++ [⟨18,0⟩]⟩:=
 ⟨rfl,rfl,c,k+1,n,h.1,Nat.le_add_left 1 k,h.2.1,hn.1,hn.2,by rw [bO];rfl⟩
theorem Q4 {K : Out → H → Prop} (L : List (List Int)) (hL : ∀ l ∈ L, pM l) (hk : ∀ im, xp im → K (.ret (xm im)) []) : Z1 38 [.d (.sl 1 (L.map fun l => [D.sl 1 (eJ l)]))] [] K := by
  generalize hrows:(L.map λl=>[D.sl 1 (eJ l)])=rowsL
  refine sh0 Tryz.f38 ?_
  repeat' ((conv=>whnf);first | exact zf | refine zm ?_ | intro _)
  conv=>whnf
  refine bN [(0,.d (.sl 1 rowsL)),(2,.p 0 0),(3,.p 1 0),(12,.d (.sl 1 (ph.map λx=>[D.int .i64 x]))),(13,.d (.int .i64 8))] (λi:Nat=>i≤8) (λi=>[(14,.d (.int .i64 i))]) g1 (λi=>8 - i) 0 (ah _) ?_ ?_ ?_ (λi hi=>?_)
  · exact zzz
  · exact ⟨aU rfl,aU rfl,trivial⟩
  · exact zx0
  have hn8:∀i:Nat,i<8→∃x,ph[i]? = some x∧(ph.map λx=>[D.int .i64 x])[i]? = some [D.int .i64 x]:=λi hi=>⟨ph[i]'hi,aB hi,by rw [aC,aB (show i<ph.length from hi)];rfl⟩
  rcases i with _ | i
  · skip
    repeat' ((conv=>whnf);first | exact zf | refine zm ?_ | intro _)
    refine ⟨[.int .i64 0],⟨by omega,rfl,rfl⟩,?_⟩
    repeat' ((conv=>whnf);first | exact zf | refine zm ?_ | refine zi0 ?_ | intro _)
    exact ⟨1,by omega,by omega,zzz,⟨aU rfl,aU rfl,aU rfl,trivial⟩,rfl⟩
  · have hi:i+1≤8:=hi
    have ib:(((ph.take (i+1)).map num).map cK).length=i+1:=by simp only [aI,af];exact fW hi
    repeat' ((conv=>whnf);first | exact zf | refine zm ?_ | intro _)
    refine aX (λhlt=>?_) (λhge=>?_)
    · have hlt:i+1<8:=by have:=θ hlt;omega
      obtain ⟨x,hx,hrow⟩:=hn8 (i+1) hlt
      have hs:((ph.take (i+2)).map num).map cK=((ph.take (i+1)).map num).map cK ++ [cK (num x)]:=by
        rw [bu,hx]
        simp only [Option.toList,bY,cH,kS]
      repeat' ((conv=>whnf);first | exact zf | refine zm ?_ | intro _)
      refine ⟨[.int .i64 x],⟨by omega,by rw [show ((i+1:Nat):Int).toNat=i+1 by omega];exact hrow,rfl⟩,?_⟩
      repeat' ((conv=>whnf);first | exact zf | refine zm ?_ | refine zi0 ?_ | intro _)
      exact ⟨i+2,by omega,by omega,zzz,⟨aU rfl,aU rfl,aU (κ (B.rows 5) hs.symm),trivial⟩,rfl⟩
    · have hge:i=7:=by have:=ι hge;omega
      subst hge
      repeat' ((conv=>whnf);first | exact zf | refine zm ?_ | intro _)
      conv=>whnf
      refine bN [(0,.d (.sl 1 rowsL)),(2,.p 0 0),(3,.p 1 0)] (λj:Nat=>j≤8) (λj=>[(6,.d (.int .i64 j))]) (λj=>[.cells [.nl 5,.nl 3],.cells [.os 2,.nl 3],.rows 5 ((ph.map num++(vA.take j).map Rh).map cK)]) (λj=>8 - j) 0 (ah _) ?_ ?_ ?_ (λj hj=>?_)
      · exact zzz
      · exact ⟨aU rfl,aU rfl,aU rfl,trivial⟩
      · exact zx0
      have hcl2:((ph.map num++(vA.take j).map Rh).map cK).length=8+j:=by
        simp only [aI,aL,af]
        rw [fW (show j≤vA.length from hj)]
        rfl
      repeat' ((conv=>whnf);first | exact zf | refine zm ?_ | intro _)
      refine aX (λhlt=>?_) (λhge=>?_)
      · have hlt:j<8:=by have:=θ hlt;omega
        obtain ⟨x,hx⟩:∃x,vA[j]? = some x:=⟨vA[j]'hlt,aB hlt⟩
        have hs:(ph.map num++(vA.take (j+1)).map Rh).map cK=(ph.map num++(vA.take j).map Rh).map cK ++ [cK (Rh x)]:=by
          rw [bu,hx]
          simp only [Option.toList,bY,cH,kS,bO]
        repeat' ((conv=>whnf);first | exact zf | refine zm ?_ | refine zc Hh ?_ | intro _)
        refine ⟨SP x,⟨by omega,by simp [hx],rfl⟩,?_⟩
        repeat' ((conv=>whnf);first | exact zf | refine zm ?_ | refine zi0 ?_ | intro _)
        exact ⟨j+1,by omega,by omega,zzz,⟨aU rfl,aU rfl,aU (κ (B.rows 5) hs.symm),trivial⟩,rfl⟩
      · have hge:j=8:=by have:=ι hge;omega
        subst hge
        repeat' ((conv=>whnf);first | exact zf | refine zm ?_ | intro _)
        conv=>whnf
        refine bN [(0,.d (.sl 1 rowsL)),(2,.p 0 0),(3,.p 1 0)] (λp:Nat×List Fn=>p.1≤3∧p.2.length=p.1∧∀f∈p.2,rE f) (λp=>[(7,.d (.int .i64 p.1))]) (λp=>g3 p.1 p.2) (λp=>3 - p.1) (0,[]) ⟨ah _,rfl,λ_ h=>nomatch h⟩ ?_ ?_ ?_ (λp hp=>?_)
        · exact zzz
        · exact ⟨aU rfl,aU rfl,aU rfl,trivial⟩
        · exact zx0
        obtain ⟨i,fs⟩:=p
        obtain ⟨hi3,hfl,hfs⟩:=hp
        have hi3:i≤3:=hi3
        have hfl:fs.length=i:=hfl
        have hfs:∀f∈fs,rE f:=hfs
        have hrl:rowsL.length=L.length:=by rw [←hrows,aI]
        have hget:∀k,k<L.length→∃l,pM l∧rowsL[k]? = some [D.sl 1 (eJ l)]:=λk hk=>⟨L[k],hL _ (cL hk),by rw [←hrows,aC,aB hk];rfl⟩
        rcases i with _ | i
        · skip
          repeat' ((conv=>whnf);first | exact zf | refine zm ?_ | intro _)
          refine aX (λhin=>?_) (λhout=>?_)
          · have hin:0<L.length:=by have:=θ hin;omega
            obtain ⟨l,hl,hrow⟩:=hget 0 hin
            repeat' ((conv=>whnf);first | exact zf | refine zm ?_ | intro _)
            refine ⟨[D.sl 1 (eJ l)],⟨by omega,hrow,rfl⟩,?_⟩
            repeat' ((conv=>whnf);first | exact zf | refine zm ?_ | refine zi0 ?_ | intro _)
            conv=>whnf
            refine bN [(0,.d (.sl 1 rowsL)),(2,.p 0 0),(3,.p 1 0),(7,.d (.int .i64 0)),(8,.p 3 0),(9,.d (.int .i64 (1)))] PI (λq=>[(10,.d (.int .i64 q.1))]) (λq=>W7 (l) q.1 q.2.1 q.2.2) (λq=>12 - q.1) (0,0,[]) ⟨.nil,by decide,by decide,by decide,by decide⟩ ?_ ?_ ?_ (λq hq=>?_)
            · exact zzz
            · exact ⟨aU rfl,aU rfl,aU rfl,aU rfl,trivial⟩
            · exact zx0
            obtain ⟨k,a,c⟩:=q
            obtain ⟨q1,q2,q3,q4,q5⟩:=hq
            have hul:=jA (l)
            have htd:0≤((eJ (l)).length:Int).tdiv 6:=Int.tdiv_nonneg (by omega) (by decide)
            rcases k with _ | k
            · skip
              repeat' ((conv=>whnf);first | exact zf | refine zm ?_ | refine zi0 ?_ | intro _)
              refine aX (λhb=>?_) (λhb=>absurd (ι hb) (by omega))
              repeat' ((conv=>whnf);first | exact zf | refine zm ?_ | refine zr0 ?_ | refine (Sat.own (by decide) 0 2 rfl rfl ?_) | refine (nH (l) 0 [] _ hl ⟨by omega,by omega⟩ (by decide) ⟨by decide,by decide⟩ (λa' c' hc' ha'=>?_)) | intro _)
              repeat' ((conv=>whnf);first | exact zf | refine zm ?_ | refine zi0 ?_ | intro _)
              exact ⟨(1,a',c'),PI.step (k:=0) (a:=0) (c:=[]) ⟨.nil,by decide,by decide,by decide,by decide⟩ (by decide) hc' ha',(by show (12 - 1:Nat)<12 - 0;decide),zzz,⟨aU rfl,aU rfl,aU rfl,aU rfl,aU rfl,trivial⟩,rfl⟩
            · have q3:0≤a:=q3
              have q4:a≤20*((k+1:Nat):Int):=q4
              have q5:c.length≤12*(k+1):=q5
              have q2:k+1≤12:=q2
              have q1:nY c (k+1):=q1
              have hcl2:(c.map dZ).length=c.length:=by simp
              repeat' ((conv=>whnf);first | exact zf | refine (jM [4] ?_) | refine zm ?_ | refine zi0 ?_ | refine zr0 ?_ | refine (nH (l) a c _ hl ⟨by omega,by omega⟩ (by omega) ⟨by decide,by decide⟩ (λa' c' hc' ha'=>?_)) | refine (mE (l) _ _ hl ⟨by omega,by omega⟩ (λn hn=>?_)) | refine (j3 (l) _ _ _ _ (by (try simp only [aL,aV,ak]);omega) ?_) | refine aX (λhb=>?_) (λhb=>?_) | intro _)
              · have hk12:k+2≤12:=by have:=θ (by assumption:decide (((k+1:Nat):Int)<12)=true);omega
                exact ⟨(k+2,a',c'),PI.step ⟨q1,q2,q3,q4,q5⟩ (by omega) hc' ha',(by show 12 - (k+2)<12 - (k+1);omega),zzz,⟨aU rfl,aU rfl,aU rfl,aU rfl,aU rfl,trivial⟩,rfl⟩
              all_goals
                exact ⟨(1,[⟨1,7,c ++ [(⟨2,n.tmod 8⟩:Op)] ++ [(⟨18,0⟩:Op)]⟩]),⟨(by show (1:Nat)≤3;decide),rfl,λf hf=>by rw [aM.1 hf];exact PI.nP ⟨q1,q2,q3,q4,q5⟩ ⟨by omega,by omega⟩⟩,(by show (3 - 1:Nat)<3 - 0;decide),zzz,⟨aU rfl,aU rfl,aU rfl,aU rfl,trivial⟩,rfl⟩
          · skip
            repeat' ((conv=>whnf);first | exact zf | refine zm ?_ | refine zi0 ?_ | intro _)
            conv=>whnf
            obtain ⟨l,hl,hl0⟩:∃l:List Int,pM l∧eJ l = []:=⟨[],(λ_ h=>nomatch h),rfl⟩
            refine bN [(0,.d (.sl 1 rowsL)),(2,.p 0 0),(3,.p 1 0),(7,.d (.int .i64 0)),(8,.p 3 0),(9,.d (.int .i64 (1)))] PI (λq=>[(10,.d (.int .i64 q.1))]) (λq=>W7 (l) q.1 q.2.1 q.2.2) (λq=>12 - q.1) (0,0,[]) ⟨.nil,by decide,by decide,by decide,by decide⟩ ?_ ?_ ?_ (λq hq=>?_)
            · exact zzz
            · exact ⟨aU rfl,aU rfl,aU rfl,.inr ⟨(by rw [hl0];exact rfl),iH rfl,iH rfl,trivial⟩,trivial⟩
            · exact zx0
            obtain ⟨k,a,c⟩:=q
            obtain ⟨q1,q2,q3,q4,q5⟩:=hq
            have hul:=jA (l)
            have htd:0≤((eJ (l)).length:Int).tdiv 6:=Int.tdiv_nonneg (by omega) (by decide)
            rcases k with _ | k
            · skip
              repeat' ((conv=>whnf);first | exact zf | refine zm ?_ | refine zi0 ?_ | intro _)
              refine aX (λhb=>?_) (λhb=>absurd (ι hb) (by omega))
              repeat' ((conv=>whnf);first | exact zf | refine zm ?_ | refine zr0 ?_ | refine (Sat.own (by decide) 0 2 rfl rfl ?_) | refine (nH (l) 0 [] _ hl ⟨by omega,by omega⟩ (by decide) ⟨by decide,by decide⟩ (λa' c' hc' ha'=>?_)) | intro _)
              repeat' ((conv=>whnf);first | exact zf | refine zm ?_ | refine zi0 ?_ | intro _)
              exact ⟨(1,a',c'),PI.step (k:=0) (a:=0) (c:=[]) ⟨.nil,by decide,by decide,by decide,by decide⟩ (by decide) hc' ha',(by show (12 - 1:Nat)<12 - 0;decide),zzz,⟨aU rfl,aU rfl,aU rfl,aU rfl,aU rfl,trivial⟩,rfl⟩
            · have q3:0≤a:=q3
              have q4:a≤20*((k+1:Nat):Int):=q4
              have q5:c.length≤12*(k+1):=q5
              have q2:k+1≤12:=q2
              have q1:nY c (k+1):=q1
              have hcl2:(c.map dZ).length=c.length:=by simp
              repeat' ((conv=>whnf);first | exact zf | refine (jM [4] ?_) | refine zm ?_ | refine zi0 ?_ | refine zr0 ?_ | refine (nH (l) a c _ hl ⟨by omega,by omega⟩ (by omega) ⟨by decide,by decide⟩ (λa' c' hc' ha'=>?_)) | refine (mE (l) _ _ hl ⟨by omega,by omega⟩ (λn hn=>?_)) | refine (j3 (l) _ _ _ _ (by (try simp only [aL,aV,ak]);omega) ?_) | refine aX (λhb=>?_) (λhb=>?_) | intro _)
              · have hk12:k+2≤12:=by have:=θ (by assumption:decide (((k+1:Nat):Int)<12)=true);omega
                exact ⟨(k+2,a',c'),PI.step ⟨q1,q2,q3,q4,q5⟩ (by omega) hc' ha',(by show 12 - (k+2)<12 - (k+1);omega),zzz,⟨aU rfl,aU rfl,aU rfl,aU rfl,aU rfl,trivial⟩,rfl⟩
              all_goals
                exact ⟨(1,[⟨1,7,c ++ [(⟨2,n.tmod 8⟩:Op)] ++ [(⟨18,0⟩:Op)]⟩]),⟨(by show (1:Nat)≤3;decide),rfl,λf hf=>by rw [aM.1 hf];exact PI.nP ⟨q1,q2,q3,q4,q5⟩ ⟨by omega,by omega⟩⟩,(by show (3 - 1:Nat)<3 - 0;decide),zzz,⟨aU rfl,aU rfl,aU rfl,aU rfl,trivial⟩,rfl⟩
        · have hfl3:(fs.map dw).length=i+1:=by rw [aI,hfl]
          repeat' ((conv=>whnf);first | exact zf | refine zm ?_ | intro _)
          refine aX (λhlt=>?_) (λhge=>?_)
          · have hlt:i+1<3:=by have:=θ hlt;omega
            have hab:0≤(((i+1:Nat):Int)+1).tmod 3∧(((i+1:Nat):Int)+1).tmod 3<3:=by
              rw [bD (by omega)]
              omega
            repeat' ((conv=>whnf);first | exact zf | refine zm ?_ | intro _)
            refine aX (λhin=>?_) (λhout=>?_)
            · have hin:i+1<L.length:=by have:=θ hin;omega
              obtain ⟨l,hl,hrow⟩:=hget (i+1) hin
              repeat' ((conv=>whnf);first | exact zf | refine zm ?_ | intro _)
              refine ⟨[D.sl 1 (eJ l)],⟨by omega,by rw [show ((i+1:Nat):Int).toNat=i+1 by omega];exact hrow,rfl⟩,?_⟩
              repeat' ((conv=>whnf);first | exact zf | refine zm ?_ | refine zi0 ?_ | intro _)
              conv=>whnf
              refine bN [(0,.d (.sl 1 rowsL)),(2,.p 0 0),(3,.p 1 0),(7,.d (.int .i64 ((i+1:Nat):Int))),(8,.p 6 0),(9,.d (.int .i64 ((((i+1:Nat):Int)+1).tmod 3)))] PI (λq=>[(10,.d (.int .i64 q.1))]) (λq=>W6 fs (l) q.1 q.2.1 q.2.2) (λq=>12 - q.1) (0,0,[]) ⟨.nil,by decide,by decide,by decide,by decide⟩ ?_ ?_ ?_ (λq hq=>?_)
              · exact zzz
              · exact ⟨aU rfl,aU rfl,aU rfl,aU rfl,aU rfl,trivial⟩
              · exact zx0
              obtain ⟨k,a,c⟩:=q
              obtain ⟨q1,q2,q3,q4,q5⟩:=hq
              have hul:=jA (l)
              have htd:0≤((eJ (l)).length:Int).tdiv 6:=Int.tdiv_nonneg (by omega) (by decide)
              rcases k with _ | k
              · skip
                repeat' ((conv=>whnf);first | exact zf | refine zm ?_ | refine zi0 ?_ | intro _)
                refine aX (λhb=>?_) (λhb=>absurd (ι hb) (by omega))
                repeat' ((conv=>whnf);first | exact zf | refine zm ?_ | refine zr0 ?_ | refine (Sat.own (by decide) 0 2 rfl rfl ?_) | refine (nH (l) 0 [] _ hl ⟨by omega,by omega⟩ (by decide) hab (λa' c' hc' ha'=>?_)) | intro _)
                repeat' ((conv=>whnf);first | exact zf | refine zm ?_ | refine zi0 ?_ | intro _)
                exact ⟨(1,a',c'),PI.step (k:=0) (a:=0) (c:=[]) ⟨.nil,by decide,by decide,by decide,by decide⟩ (by decide) hc' ha',(by show (12 - 1:Nat)<12 - 0;decide),zzz,⟨aU rfl,aU rfl,aU rfl,aU rfl,aU rfl,aU rfl,trivial⟩,rfl⟩
              · have q3:0≤a:=q3
                have q4:a≤20*((k+1:Nat):Int):=q4
                have q5:c.length≤12*(k+1):=q5
                have q2:k+1≤12:=q2
                have q1:nY c (k+1):=q1
                have hcl2:(c.map dZ).length=c.length:=by simp
                repeat' ((conv=>whnf);first | exact zf | refine (jM [7] ?_) | refine zm ?_ | refine zi0 ?_ | refine zr0 ?_ | refine (nH (l) a c _ hl ⟨by omega,by omega⟩ (by omega) hab (λa' c' hc' ha'=>?_)) | refine (mE (l) _ _ hl ⟨by omega,by omega⟩ (λn hn=>?_)) | refine (j3 (l) _ _ _ _ (by (try simp only [aL,aV,ak]);omega) ?_) | refine aX (λhb=>?_) (λhb=>?_) | intro _)
                · have hk12:k+2≤12:=by have:=θ (by assumption:decide (((k+1:Nat):Int)<12)=true);omega
                  exact ⟨(k+2,a',c'),PI.step ⟨q1,q2,q3,q4,q5⟩ (by omega) hc' ha',(by show 12 - (k+2)<12 - (k+1);omega),zzz,⟨aU rfl,aU rfl,aU rfl,aU rfl,aU rfl,aU rfl,trivial⟩,rfl⟩
                all_goals
                  exact ⟨(i+2,fs ++ [⟨1,7,c ++ [(⟨2,n.tmod 8⟩:Op)] ++ [(⟨18,0⟩:Op)]⟩]),⟨(by show i+2≤3;omega),(by simp only [aL,aV,ak];omega),λf hf=>(aS.1 hf).elim (hfs f) λhf=>by rw [aM.1 hf];exact PI.nP ⟨q1,q2,q3,q4,q5⟩ ⟨by omega,by omega⟩⟩,(by show 3 - (i+2)<3 - (i+1);omega),zzz,⟨aU rfl,aU rfl,aU rfl,aU (JX fs ⟨1,7,c ++ [(⟨2,n.tmod 8⟩:Op)] ++ [(⟨18,0⟩:Op)]⟩ rfl),trivial⟩,rfl⟩
            · skip
              repeat' ((conv=>whnf);first | exact zf | refine zm ?_ | refine zi0 ?_ | intro _)
              conv=>whnf
              obtain ⟨l,hl,hl0⟩:∃l:List Int,pM l∧eJ l = []:=⟨[],(λ_ h=>nomatch h),rfl⟩
              refine bN [(0,.d (.sl 1 rowsL)),(2,.p 0 0),(3,.p 1 0),(7,.d (.int .i64 ((i+1:Nat):Int))),(8,.p 6 0),(9,.d (.int .i64 ((((i+1:Nat):Int)+1).tmod 3)))] PI (λq=>[(10,.d (.int .i64 q.1))]) (λq=>W6 fs (l) q.1 q.2.1 q.2.2) (λq=>12 - q.1) (0,0,[]) ⟨.nil,by decide,by decide,by decide,by decide⟩ ?_ ?_ ?_ (λq hq=>?_)
              · exact zzz
              · exact ⟨aU rfl,aU rfl,aU rfl,aU rfl,.inr ⟨(by rw [hl0];exact rfl),iH rfl,iH rfl,trivial⟩,trivial⟩
              · exact zx0
              obtain ⟨k,a,c⟩:=q
              obtain ⟨q1,q2,q3,q4,q5⟩:=hq
              have hul:=jA (l)
              have htd:0≤((eJ (l)).length:Int).tdiv 6:=Int.tdiv_nonneg (by omega) (by decide)
              rcases k with _ | k
              · skip
                repeat' ((conv=>whnf);first | exact zf | refine zm ?_ | refine zi0 ?_ | intro _)
                refine aX (λhb=>?_) (λhb=>absurd (ι hb) (by omega))
                repeat' ((conv=>whnf);first | exact zf | refine zm ?_ | refine zr0 ?_ | refine (Sat.own (by decide) 0 2 rfl rfl ?_) | refine (nH (l) 0 [] _ hl ⟨by omega,by omega⟩ (by decide) hab (λa' c' hc' ha'=>?_)) | intro _)
                repeat' ((conv=>whnf);first | exact zf | refine zm ?_ | refine zi0 ?_ | intro _)
                exact ⟨(1,a',c'),PI.step (k:=0) (a:=0) (c:=[]) ⟨.nil,by decide,by decide,by decide,by decide⟩ (by decide) hc' ha',(by show (12 - 1:Nat)<12 - 0;decide),zzz,⟨aU rfl,aU rfl,aU rfl,aU rfl,aU rfl,aU rfl,trivial⟩,rfl⟩
              · have q3:0≤a:=q3
                have q4:a≤20*((k+1:Nat):Int):=q4
                have q5:c.length≤12*(k+1):=q5
                have q2:k+1≤12:=q2
                have q1:nY c (k+1):=q1
                have hcl2:(c.map dZ).length=c.length:=by simp
                repeat' ((conv=>whnf);first | exact zf | refine (jM [7] ?_) | refine zm ?_ | refine zi0 ?_ | refine zr0 ?_ | refine (nH (l) a c _ hl ⟨by omega,by omega⟩ (by omega) hab (λa' c' hc' ha'=>?_)) | refine (mE (l) _ _ hl ⟨by omega,by omega⟩ (λn hn=>?_)) | refine (j3 (l) _ _ _ _ (by (try simp only [aL,aV,ak]);omega) ?_) | refine aX (λhb=>?_) (λhb=>?_) | intro _)
                · have hk12:k+2≤12:=by have:=θ (by assumption:decide (((k+1:Nat):Int)<12)=true);omega
                  exact ⟨(k+2,a',c'),PI.step ⟨q1,q2,q3,q4,q5⟩ (by omega) hc' ha',(by show 12 - (k+2)<12 - (k+1);omega),zzz,⟨aU rfl,aU rfl,aU rfl,aU rfl,aU rfl,aU rfl,trivial⟩,rfl⟩
                all_goals
                  exact ⟨(i+2,fs ++ [⟨1,7,c ++ [(⟨2,n.tmod 8⟩:Op)] ++ [(⟨18,0⟩:Op)]⟩]),⟨(by show i+2≤3;omega),(by simp only [aL,aV,ak];omega),λf hf=>(aS.1 hf).elim (hfs f) λhf=>by rw [aM.1 hf];exact PI.nP ⟨q1,q2,q3,q4,q5⟩ ⟨by omega,by omega⟩⟩,(by show 3 - (i+2)<3 - (i+1);omega),zzz,⟨aU rfl,aU rfl,aU rfl,aU (JX fs ⟨1,7,c ++ [(⟨2,n.tmod 8⟩:Op)] ++ [(⟨18,0⟩:Op)]⟩ rfl),trivial⟩,rfl⟩
          · have hge:i=2:=by have:=ι hge;omega
            subst hge
            repeat' ((conv=>whnf);first | exact zf | refine zm ?_ | intro _)
            exact hk ⟨M9,fs⟩ ⟨rfl,hfl,hfs⟩
def zx (s:b8) (kp:List Nat) (o:Ob) (b:Option Nat):b8:=bif decide (3≤o.k)&&decide (o.k≤7) then iE s kp o b else s
theorem RT {K:KT} (s:b8) (kp:List Nat) (o:Ob) (hn:gS kp) (hs:lY s) (hl:cI o.l) (hq:o.va.q.length<100000000) (hk:∀b n,K (.ret (.d (.int .i64 n))) (j6 (zx s kp o b))) :
  Z1 14 [.p 0 0,.d (.str (cR kp)),fz o] (j6 s) K:=by
 unfold zx at hk
 by_cases h:3≤o.k∧o.k≤7
 ·rw [show (decide (3≤o.k)&&decide (o.k≤7))=true by simp [h.1,h.2]] at hk;exact Bz s kp o ⟨hn,hs,hl,h.1,h.2,hq⟩ hk
 ·rw [show (decide (3≤o.k)&&decide (o.k≤7))=false by rw [Bool.and_eq_false_iff,decide_eq_false_iff_not,decide_eq_false_iff_not];omega] at hk;exact Df s kp o hn hl (.inl (by omega)) (hk none 1)
def fD (p:Int×Ob):List D:=.int .u8 p.1 :: ek p.2
structure tO (mx:Int) (q:Nat) (p:Int×Ob):Prop where
  i:0≤p.1∧p.1≤255
  o:kY mx q p.2
def tc (o:Ob):Ob:={ o with l:=wW o.l }
theorem nu (l:Lb):(wW l).s.length≤4∧(wW l).i.length≤4:=⟨List.length_take_le _ _,List.length_take_le _ _⟩
theorem H7 {mx:Int} {q:Nat} {o:Ob} (h:kY mx q o):kY mx q (tc o):=
 ⟨And.intro (aZ (nu o.l).1 (by decide)) (aZ (nu o.l).2 (by decide)),h.v,h.w,h.qs,h.ql,h.m⟩
def rO:List (List Nat):=[[0],[1],[0,0],[0,1],[2],[10],[1,0],[0,0,0]]
theorem Jd (n:Nat) (h:n<10):Lib.decDigits n = [UInt8.ofNat (48+n)]:=by
 unfold Lib.decDigits;rw [dif_pos h]
theorem Tx:Lib.decDigits 10 = [49,48]:=by
 unfold Lib.decDigits;rw [dif_neg (by decide),Jd _ (by decide)];rfl
theorem qg:gz=rO.map cR:=by
 unfold rO;simp only [cH,kS,cR,pX,o6,List.flatMap_nil,cU,Tx,Jd 0 (by decide),Jd 1 (by decide),Jd 2 (by decide)];rfl
theorem E6 {i:Int} (h:0≤i∧i<8):∃kp,kp∈rO∧gS kp∧gz[i.toNat]? = some (cR kp):=by
 have hl:i.toNat<rO.length:=by show i.toNat<8;omega
 have hg:∀k∈rO,gS k:=by
  have:∀k∈rO,k≠[]∧k.length≤24∧∀n∈k,n<100:=by decide
  exact this
 exact ⟨rO[i.toNat],cL hl,hg _ (cL hl),by rw [qg,aC,aB hl];rfl⟩
structure Dn (mx:Int) (q n:Nat) (s:b8):Prop where
  so:gN mx q n s
  co:qS s
  nm:∀p∈s.th,p.1∈gz
theorem Dn.zx {mx:Int} {q n:Nat} {s:b8} (h:Dn mx q n s) {kp:List Nat} {o:Ob} (hk:kp∈rO) (hg:gS kp) (ho:kY mx q o) (b:Option Nat):Dn mx (q+1) (n+1) (zx s kp o b):=by
 have hz:Dn mx (q+1) (n+1) s:=⟨h.so.mono,h.co,h.nm⟩
 unfold Go.Proofs.YtjpgfgajkjhonaaGreatDoor.zx;cases decide (3≤o.k)&&decide (o.k≤7) with
 |false=>exact hz
 |true=>
  refine ⟨h.so.add hg ho.mono b,h.co.add hg b,λp hp=>?_⟩;have hp:p∈(iE s kp o b).th:=hp;unfold iE at hp;cases hb:kf o.l&&(bI (cR kp) s.th).isNone with
  |false=>rw [hb] at hp;exact h.nm p hp
  |true=>
   rw [hb] at hp;rcases aS.1 hp with h1 | h1
   ·exact h.nm p h1
   ·rw [aM.1 h1,qg];exact bF.2 ⟨kp,hk,rfl⟩
theorem Dn.gs {mx:Int} {q n:Nat} {s:b8} (h:Dn mx q n s) (hn:n<1000):lY s:=
 ⟨by have:=h.so.nm;omega,λp hp=>⟨by have:=(h.so.ns p hp).1;omega,(h.so.ns p hp).2⟩⟩
theorem Ms (mx:Int) (q:Nat):Dn mx q 0 ⟨[],[]⟩:=⟨⟨aR _,λp hp=>(by cases hp),λp hp=>(by cases hp)⟩,Ma,λp hp=>by cases hp⟩
theorem RL {K:KT} (mx:Int) (q:Nat) (l:List (Int×Ob)) (hl:∀p∈l,tO mx q p) (hq:q<90000000) (hk:∀s r,Dn mx (q+10) 10 s→K (.ret (.tu [.p 0 0,.p 3 0])) (j6 s++NS r)) :
  Z1 37 [.d (.sl 20 (l.map fD))] [] K:=by
 have hlen:(l.map fD).length=l.length:=aI _;refine sh0 Tryz.f37 ?_
 repeat' ((conv=>whnf);first | exact zf | refine zm ?_ | refine (N9 ?_) | intro _)
 conv=>whnf
 refine bN [(0,.d (.sl 20 (l.map fD))),(4,.p 0 0),(5,.p 3 0)] (λp:Nat×b8×List (List UInt8×Ob)=>(p.1≤l.length∧p.1≤10)∧Dn mx (q+p.1) p.1 p.2.1∧TT p.2.2∧p.2.2.length≤p.1) (λp=>[(6,.d (.int .i64 p.1))]) (λp=>[.cells [.mp 1,.mp 2],.dm (iy p.2.1.th),.ms 1 (kh p.2.1.nm) none none,.cells [.d (.sl 20 (p.2.2.map nF))]]) (λp=>l.length - p.1) (0,⟨[],[]⟩,[]) ⟨⟨ah _,ah _⟩,Ms _ _,(λp hp=>by cases hp),ah _⟩ ?_ ?_ ?_ (λp hp=>?_)
 ·exact zzz
 ·exact ⟨aU rfl,aU rfl,aU rfl,.inr ⟨(show Fa (.nl 20) (.d (.sl 20 [])) from rfl),trivial⟩,trivial⟩
 ·exact zx0
 obtain ⟨i,s,r⟩:=p;obtain ⟨⟨i1,i2⟩,hs,hr,hrl⟩:=hp;dsimp only at i1 i2 hs hr hrl ⊢
 by_cases hlt:i<l.length∧i<10
 ·have tx:decide ((i:Int)<((l.map fD).length:Int))=true:=by simp;omega
  have ty:decide ((i:Int)<10)=true:=by simp;omega
  have hlt:=hlt.1;have hg:(l.map fD)[(i:Int).toNat]? = some (.int .u8 l[i].1 :: ek l[i].2):=by rw [show (i:Int).toNat=i by omega,aC,aB hlt];rfl
  have ht:=hl _ (cL hlt);have h76:=LA l[i].2.l;have hid:l[i].1.tmod 8=l[i].1 % 8:=bD ht.i.1;obtain ⟨kp,hkp,hkg,hnm⟩:=E6 (i:=l[i].1.tmod 8) (by have:=ht.i;omega);have rn:(gz.map λs=>[D.str s])[(l[i].1.tmod 8).toNat]? = some [.str (cR kp)]:=by rw [aC,hnm];rfl
  have ho:=H7 ht.o;have hql:(tc l[i].2).va.q.length<100000000:=by have:=ho.ql;omega
  have h14:=λ{K:KT}=>RT (K:=K) s kp (tc l[i].2) hkg (hs.gs (by omega)) ho.l hql;have h79:=Pq (tc l[i].2) hql;have h78:=λ{K:KT}=>UK (K:=K) r (cR kp) (tc l[i].2) hr (by rw [qg];exact bF.2 ⟨kp,hkp,rfl⟩) (aZ (nu _).1 (by decide)) (aZ (nu _).2 (by decide)) (by omega);have hz:=λb=>hs.zx hkp hkg ⟨ho.l,ho.v,ho.w,ho.qs,aZ ho.ql (Nat.le_add_right _ _),ho.m⟩ b
  repeat' ((conv=>whnf);first | exact zf | refine zm ?_ | refine (ft tx ?_) | refine (ft ty ?_) | refine ⟨_,⟨by omega,hg,rfl⟩,?_⟩ | refine zc h76 ?_ | refine zc Ck ?_ | refine ⟨_,⟨by omega,rn,rfl⟩,?_⟩ | refine zr0 ?_ | refine (h14 (λb n=>?_)) | refine zc h79 ?_ | refine (h78 (λe=>?_) (λr' hr' hl'=>?_)) | refine zi0 ?_ | intro _)
  ·exact ⟨(i+1,zx s kp (tc l[i].2) b,r),⟨⟨hlt,(by show i+1≤10;omega)⟩,hz b,hr,(by show r.length≤i+1;omega)⟩,(by show l.length - (i+1)<l.length - i;omega),zzz,zzz,rfl⟩
  ·exact ⟨(i+1,zx s kp (tc l[i].2) b,r'),⟨⟨hlt,(by show i+1≤10;omega)⟩,hz b,hr',(by show r'.length≤i+1;omega)⟩,(by show l.length - (i+1)<l.length - i;omega),zzz,zzz,rfl⟩
 ·have fin:Dn mx (q+10) 10 s:=by
   obtain ⟨d,hd⟩:∃d,i+d=10:=⟨10 - i,by omega⟩
   have key:∀d q i,Dn mx q i s→Dn mx (q+d) (i+d) s:=by
    intro d
    induction d with
    |zero=>intro q i h;exact h
    |succ d ih=>intro q i h;exact ih (q+1) (i+1) ⟨h.so.mono,h.co,h.nm⟩ |> λh=>by rw [dx,dx,Nat.add_comm 1 d] at h;exact h
   have h1:=key d _ _ hs;rw [dx,hd] at h1;exact h1
  by_cases h1:i<l.length
  ·have tx:decide ((i:Int)<((l.map fD).length:Int))=true:=by simp;omega
   have ty:decide ((i:Int)<10)=false:=by simp;omega
   repeat' ((conv=>whnf);first | exact zf | refine zm ?_ | refine (ft tx ?_) | refine (ga ty ?_) | intro _)
   exact hk s r fin
  ·have tx:decide ((i:Int)<((l.map fD).length:Int))=false:=by simp;omega
   repeat' ((conv=>whnf);first | exact zf | refine zm ?_ | refine (ga tx ?_) | intro _)
   exact hk s r fin
def tU (p:Int×Ob):Int×Ob:=(p.1,{ p.2 with ma:=0 })
theorem LS (l:List (Int×Ob)) (hn:l.length<100000000):Z0 26 [.d (.sl 20 (l.map fD))] (.d (.sl 20 ((l.map tU).map fD))):=by
 have hlen:(l.map fD).length=l.length:=aI _;refine sh0 Tryz.f26 ?_
 repeat' ((conv=>whnf);first | exact zf | refine zm ?_ | intro _)
 conv=>whnf
 refine bN [(0,.d (.sl 20 (l.map fD))),(3,.os 1)] (λi:Nat=>i≤l.length) (λi=>[(4,.d (.int .i64 i))]) (λi=>[.no,.rows 20 (((l.take i).map tU).map fD)]) (λi=>l.length - i) 0 (ah _) ?_ ?_ ?_ (λi hi=>?_)
 ·exact zzz
 ·exact ⟨aU rfl,trivial⟩
 ·exact zx0
 have hlr:(((l.take i).map tU).map fD).length=i:=by rw [aI,aI,af];omega
 by_cases hlt:i<l.length
 ·have tx:decide ((i:Int)<((l.map fD).length:Int))=true:=by simp;omega
  have hg:(l.map fD)[(i:Int).toNat]? = some (.int .u8 l[i].1 :: ek l[i].2):=by rw [show (i:Int).toNat=i by omega,aC,aB hlt];rfl
  have htk:l.take (i+1)=l.take i ++ [l[i]]:=by rw [bu,aB hlt];rfl
  repeat' ((conv=>whnf);first | exact zf | refine zm ?_ | refine (ft tx ?_) | refine ⟨_,⟨by omega,hg,rfl⟩,?_⟩ | refine zi0 ?_ | intro _)
  exact ⟨i+1,hlt,by omega,zzz,⟨aU (by rw [htk,bY,bY];rfl),trivial⟩,rfl⟩
 ·have tx:decide ((i:Int)<((l.map fD).length:Int))=false:=by simp;omega
  have hie:i=l.length:=by omega
  repeat' ((conv=>whnf);first | exact zf | refine zm ?_ | refine (ga tx ?_) | intro _)
  rw [hie,cu];rfl
structure Dm where
  l:Int
  c:Int
  mz:Int
  fn:Int
  ar:Int
  ro:Int
def qN (x:Dm):List V:=[.d (.int .u8 x.l),.d (.int .u8 x.c),.d (.int .u8 x.mz),.d (.int .u8 x.fn),.d (.int .u8 x.ar),.d (.int .u8 x.ro)]
structure tQ (x:Dm):Prop where
  l:0≤x.l∧x.l≤255
  c:0≤x.c∧x.c≤255
  mz:0≤x.mz∧x.mz≤255
  fn:0≤x.fn∧x.fn≤255
  ar:0≤x.ar∧x.ar≤255
  ro:0≤x.ro∧x.ro≤255
def xf (x:Dm):Th:=KF x.l x.c x.mz x.fn x.ar x.ro
def yi (b:Bool) (x:Dm):Dm:=bif b then { x with mz:=0 } else x
theorem Qb {K:KT} (mx:Int) (q:Nat) (f:List (List Int)) (hf:∀l∈f,pM l) (l:List (Int×Ob)) (hl:∀p∈l,tO mx q p) (hq:q<90000000) (x:Dm) (hx:tQ x) (b:Bool)
  (hk:∀im s,xp im→Dn mx (q+10) 10 s→K (.ret (.p 0 0)) (AS im (xf (yi b x)) s)) :
  Z1 10 [.d (.sl 1 (f.map λl=>[D.sl 1 (eJ l)])),.d (.sl 20 (l.map fD)),.ag (qN x),.d (.bool b)] [] K:=by
 have h37:=λ{K:KT}=>RL (K:=K) mx q l hl hq;have h38:=λ{K:KT}=>Q4 (K:=K) f hf;have h39:=λim=>D8 x.l x.c x.mz x.fn x.ar x.ro im hx.l hx.c hx.mz hx.fn hx.ar hx.ro;have h39':=λim=>D8 x.l x.c 0 x.fn x.ar x.ro im hx.l hx.c ⟨by decide,by decide⟩ hx.fn hx.ar hx.ro;cases b with
 |false=>
  refine sh0 Tryz.f10 ?_
  repeat' ((conv=>whnf);first | exact zf | refine zm ?_ | refine (h37 (λs r hs=>?_)) | refine (h38 (λim hi=>?_)) | refine zc (h39 im) ?_ | intro _)
  all_goals exact hk im s hi hs
 |true=>
  refine sh0 Tryz.f10 ?_
  repeat' ((conv=>whnf);first | exact zf | refine zm ?_ | refine (h37 (λs r hs=>?_)) | refine (h38 (λim hi=>?_)) | refine zc (h39' im) ?_ | intro _)
  all_goals exact hk im s hi hs
end Go.Proofs.YtjpgfgajkjhonaaGreatDoor