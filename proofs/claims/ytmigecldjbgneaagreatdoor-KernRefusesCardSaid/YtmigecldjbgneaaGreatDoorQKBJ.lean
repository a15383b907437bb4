/- Lemmas. Conditions: none. -/
import Derived.Test.YtmigecldjbgneaaGreatDoorQKBI
import Derived.Shelf.SlMaps.Clone
set_option maxHeartbeats 16000000
namespace Go.Proofs.YtmigecldjbgneaaGreatDoor
open Go.Vx
set_option maxRecDepth 100000
theorem FQ{k:Kn}{id:List Nat}{t:Th}{n:Nat}{P:List Nat->Prop}(hn:k.ord.length<=n)(hp:∀x∈k.ord,P x)(hi:P id):(gX k id t).ord.length<=n+1/\∀x∈(gX k id t).ord,P x:=by
 show(bif uv k.ord id then k.ord else mN k.ord id).length<=n+1/\∀x∈(bif uv k.ord id then k.ord else mN k.ord id),P x;cases uv k.ord id
 .refine⟨by have:=q6 k.ord id;rw[ε];omega,λx hx=>?_⟩;rcases oF.1 hx with rfl|hx
  .exact hi
  .exact hp x hx
 .exact⟨by rw[δ];omega,hp⟩
theorem mA{c:Cf}(hc:RM c)(s:br):∀n,n<=8->(iY c s n).ord.length<=n/\∀x∈(iY c s n).ord,dr x
 |0,_=>⟨aL _,λx hx=>by cases hx⟩
 |n+1,hn=>by
  obtain⟨h1,h2⟩:=mA hc s n (by omega);have:=hc.n8;exact FQ h1 h2 ⟨by simp,by simp,λx hx=>by rw[aF.1 hx];omega⟩
theorem pG{c:Cf}{b:Bo}(h:eH c b=0):iI c b=true/\b.bo<c.bx.length:=by
 unfold eH at h;cases h1:iI c b with
 |false=>rw[h1]at h;cases h
 |true=>
  rw[h1]at h;refine⟨rfl,?_⟩;cases h2:(pN b.l&&(pN b.c&&decide (b.ma<=63))) with
  |false=>rw[h2]at h;cases h
  |true=>
   rw[h2]at h;cases h3:(decide (0<=b.ro)&&(decide (b.ro<=999)&&decide (b.bo<c.bx.length))) with
   |false=>rw[h3]at h;cases h
   |true=>
    simp only[aO,χ]at h3;exact h3.2.2
def WG(c:Cf):B:=.cells [.d (.sl 5 (c.im.cs.map b9)),.d (.sl 3 (c.im.fs.map bc)),.d (.sl 3 (c.bx.map cN)),.d (.sl 9 (c.bo.map cW))]
def YB(c:Cf)(a b:Nat):B:=.cells [.d (.sl 5 (c.im.cs.map b9)),.d (.sl 3 (c.im.fs.map bc)),.d (.int .i64 0),.mp a,.nl 1,.p b 0,.nl 9,.nl 8]
def hA(c:Cf)(s:br):Nat->H
 |0=>[WG c,.dm [],.cells [.mp 3,.mp 4],.dm (iW s.th),.ms 1 (ik s.nm) none none,YB c 1 2]
 |n+1=>[WG c,.dm (k_ (iY c s (n+1)).th),.cells [.mp 3,.mp 4],.dm (iW (iY c s (n+1)).s.th),.ms 1 (ik (iY c s (n+1)).s.nm) none none,FE (iY c s (n+1)) 1 7 2 8 9,.no,GB false (iY c s (n+1)).ord,.rows 9 ((iY c s (n+1)).fa.map fm),.rows 8 ((iY c s (n+1)).le.map jT)]
def hB(c:Cf)(s:br):Nat->H
 |0=>[WG c,.cells [.mp 2,.mp 3],.dm (iW s.th),.ms 1 (ik s.nm) none none,.dm [],YB c 4 1]
 |n+1=>[WG c,.cells [.mp 2,.mp 3],.dm (iW (iY c s (n+1)).s.th),.ms 1 (ik (iY c s (n+1)).s.nm) none none,.dm (k_ (iY c s (n+1)).th),FE (iY c s (n+1)) 4 7 1 8 9,.no,GB false (iY c s (n+1)).ord,.rows 9 ((iY c s (n+1)).fa.map fm),.rows 8 ((iY c s (n+1)).le.map jT)]
set_option maxRecDepth 100000 in
theorem Uc{K:KT}(c:Cf)(a p e:Int)(hv:Z0 28 [sC c.im] (.tu [.d (.int .i64 a),.d (.int .i64 p),.d (.int .i64 e)]))(hs:yu c)(h:(wW c e).2=0)
    (hk:∀s,sD c c.bx.length s->K (.ret (.tu [.p 0 0,.d (.int .i64 0),.d (.int .i64 0)])) (fU false (iY c s c.bo.length))):Z1 8 [yF c] [] K:=by
  have h1:=CL c a p e hv hs
  obtain⟨hc,h0⟩:=K4 h
  rw[h0]at h1
  have l1:(c.bx.map cN).length=c.bx.length:=aI _
  have l2:(c.bo.map cW).length=c.bo.length:=aI _
  have n8:=hc.n8
  have m8:=hc.m8
  refine sh0 Tryz.f8 ?_
  repeat' ((conv=>whnf);first|exact zf|refine(a8 (a8 ?_))|refine zm ?_|refine zc h1 ?_|refine zr0 ?_|refine(Ue ?_)|refine zB ?_ ?_|intro _)
  · conv=>whnf
    refine bA [(1,.p 0 0),(2,.p 5 0),(29,.d (.sl 3 (c.bx.map cN))),(30,.d (.int .i64 (c.bx.map cN).length))] (λx:Nat×br=>x.1<=c.bx.length/\sD c x.1 x.2) (λx=>[(31,.d (.int .i64 x.1))]) (λx=>hA c x.2 0) (λx=>c.bx.length-x.1) (0,⟨[],[]⟩) ⟨aY _,.z⟩ ?_ ?_ ?_ (λ⟨j,s⟩ hi=>?_)
    · exact zzz
    · exact zzz
    · exact rfl
    repeat' ((conv=>whnf);first|exact zf|refine zm ?_|refine zB ?_ ?_|intro _)
    refine aU (λhlt=>?_) (λhge=>?_)
    · have hlt:j<c.bx.length:=by rw[<-l1];simpa using hlt
      obtain⟨x,hx⟩:∃x,c.bx[j]?=some x:=⟨_,aA hlt⟩
      have hrow:(c.bx.map cN)[j]?=some (cN x):=by rw[aB,hx];rfl
      have ho:=Ei [j] (by simp) (by simp) (by simp;omega)
      have hB:sD c j s:=hi.2
      have hadd:=λ{K:KT}=>mX (K:=K) s [j] (Nd x) ⟨⟨by simp,by simp,λy hy=>by rw[aF.1 hy];omega⟩,hB.gs (by omega),hs.bx x (aG hx),(show(3:Int)<=3 by decide),(show(3:Int)<=7 by decide),(show(0:Nat)<_ by decide)⟩
      repeat' ((conv=>whnf);first|exact zf|refine zm ?_|refine⟨cN x,⟨by omega,hrow,rfl⟩,?_⟩|refine zc ho ?_|refine zr0 ?_|refine(hadd (λb n=>?_))|refine zB ?_ ?_|intro _)
      all_goals refine⟨(j+1,_),⟨hlt,.s b hB hx⟩,aN hlt (aQ j),zzz,zzz,rfl⟩
    · have hge:j=c.bx.length:=by
        have h1:¬j<c.bx.length:=by rw[<-l1];simpa using hge
        have:=hi.1
        omega
      subst hge
      have hk:=hk s hi.2
      repeat' ((conv=>whnf);first|exact zf|refine zm ?_|refine zB ?_ ?_|intro _)
      conv=>whnf
      refine bA [(1,.p 0 0),(2,.p 5 0),(56,.d (.sl 9 (c.bo.map cW))),(57,.d (.int .i64 (c.bo.map cW).length))] (λi:Nat=>i<=c.bo.length) (λi=>[(58,.d (.int .i64 i))]) (λi=>hA c s i) (λi=>c.bo.length-i) 0 (aY _) ?_ ?_ ?_ (λi hi2=>?_)
      · exact zzz
      · exact zzz
      · exact rfl
      repeat' ((conv=>whnf);first|exact zf|refine zm ?_|refine zB ?_ ?_|intro _)
      refine aU (λhlt=>?_) (λhge=>?_)
      · have hlt:i<c.bo.length:=by rw[<-l2];simpa using hlt
        obtain⟨b,hx⟩:∃b,c.bo[i]?=some b:=⟨_,aA hlt⟩
        have hrow:(c.bo.map cW)[i]?=some (cW b):=by rw[aB,hx];rfl
        obtain⟨f1,f2⟩:=pG (hc.bo b (aG hx))
        have ho:=Ei [c.bx.length+i] (by simp) (by simp) (by simp;omega)
        rw[show fG [c.bx.length+i]=[[D.int .i64 (((c.bx.map cN).length:Int)+(i:Int))]]by simp[fG]]at ho
        have hbt:=pF c b (b8 [c.bx.length+i]) f1 f2 (by omega)
        have hst:gX (iY c s i) [c.bx.length+i] (fA c b (b8 [c.bx.length+i]))=iY c s (i+1):=by rw[iY,hx];rfl
        have hg:dr [c.bx.length+i]:=⟨by simp,by simp,λy hy=>by rw[aF.1 hy];omega⟩
        cases i with
        |zero=>
          have hf:=λ{K:KT}=>wM (K:=K) c s [c.bx.length+0] (fA c b (b8 [c.bx.length+0])) rfl hg
          rw[show gX (Ey c s) [c.bx.length+0] (fA c b (b8 [c.bx.length+0]))=iY c s 1 from hst]at hf
          repeat' ((conv=>whnf);first|exact zf|refine zm ?_|refine⟨cW b,⟨by omega,hrow,rfl⟩,?_⟩|refine zc ho ?_|refine zc hbt ?_|refine zr0 ?_|refine(hf ?_)|refine zB ?_ ?_|intro _)
          all_goals refine⟨1,hlt,aN hlt (aQ 0),zzz,zzz,rfl⟩
        |succ i=>
          obtain⟨o1,o2⟩:=mA hc s (i+1) (by omega)
          have hf:=λ{K:KT}=>u0 (K:=K) (iY c s (i+1)) [c.bx.length+(i+1)] (fA c b (b8 [c.bx.length+(i+1)])) rfl hg o2 (by omega)
          rw[hst]at hf
          repeat' ((conv=>whnf);first|exact zf|refine zm ?_|refine⟨cW b,⟨by omega,hrow,rfl⟩,?_⟩|refine zc ho ?_|refine zc hbt ?_|refine zr0 ?_|refine(hf ?_)|refine zB ?_ ?_|intro _)
          all_goals refine⟨i+2,hlt,aN hlt (aQ _),zzz,zzz,rfl⟩
      · have hge:i=c.bo.length:=by
          have h1:¬i<c.bo.length:=by rw[<-l2];simpa using hge
          omega
        subst hge
        obtain⟨m,hm⟩:∃m,c.bo.length=m+1:=⟨c.bo.length-1,by have:=hc.m1;omega⟩
        rw[hm]at hk⊢
        repeat' ((conv=>whnf);first|exact zf|refine zm ?_|refine zB ?_ ?_|intro _)
        exact hk
  · conv=>whnf
    refine bA [(1,.p 0 0),(2,.p 5 0),(29,.d (.sl 3 (c.bx.map cN))),(30,.d (.int .i64 (c.bx.map cN).length))] (λx:Nat×br=>x.1<=c.bx.length/\sD c x.1 x.2) (λx=>[(31,.d (.int .i64 x.1))]) (λx=>hB c x.2 0) (λx=>c.bx.length-x.1) (0,⟨[],[]⟩) ⟨aY _,.z⟩ ?_ ?_ ?_ (λ⟨j,s⟩ hi=>?_)
    · exact zzz
    · exact zzz
    · exact rfl
    repeat' ((conv=>whnf);first|exact zf|refine zm ?_|refine zB ?_ ?_|intro _)
    refine aU (λhlt=>?_) (λhge=>?_)
    · have hlt:j<c.bx.length:=by rw[<-l1];simpa using hlt
      obtain⟨x,hx⟩:∃x,c.bx[j]?=some x:=⟨_,aA hlt⟩
      have hrow:(c.bx.map cN)[j]?=some (cN x):=by rw[aB,hx];rfl
      have ho:=Ei [j] (by simp) (by simp) (by simp;omega)
      have hB:sD c j s:=hi.2
      have hadd:=λ{K:KT}=>mX (K:=K) s [j] (Nd x) ⟨⟨by simp,by simp,λy hy=>by rw[aF.1 hy];omega⟩,hB.gs (by omega),hs.bx x (aG hx),(show(3:Int)<=3 by decide),(show(3:Int)<=7 by decide),(show(0:Nat)<_ by decide)⟩
      repeat' ((conv=>whnf);first|exact zf|refine zm ?_|refine⟨cN x,⟨by omega,hrow,rfl⟩,?_⟩|refine zc ho ?_|refine zr0 ?_|refine(hadd (λb n=>?_))|refine zB ?_ ?_|intro _)
      all_goals refine⟨(j+1,_),⟨hlt,.s b hB hx⟩,aN hlt (aQ j),zzz,zzz,rfl⟩
    · have hge:j=c.bx.length:=by
        have h1:¬j<c.bx.length:=by rw[<-l1];simpa using hge
        have:=hi.1
        omega
      subst hge
      have hk:=hk s hi.2
      repeat' ((conv=>whnf);first|exact zf|refine zm ?_|refine zB ?_ ?_|intro _)
      conv=>whnf
      refine bA [(1,.p 0 0),(2,.p 5 0),(56,.d (.sl 9 (c.bo.map cW))),(57,.d (.int .i64 (c.bo.map cW).length))] (λi:Nat=>i<=c.bo.length) (λi=>[(58,.d (.int .i64 i))]) (λi=>hB c s i) (λi=>c.bo.length-i) 0 (aY _) ?_ ?_ ?_ (λi hi2=>?_)
      · exact zzz
      · exact zzz
      · exact rfl
      repeat' ((conv=>whnf);first|exact zf|refine zm ?_|refine zB ?_ ?_|intro _)
      refine aU (λhlt=>?_) (λhge=>?_)
      · have hlt:i<c.bo.length:=by rw[<-l2];simpa using hlt
        obtain⟨b,hx⟩:∃b,c.bo[i]?=some b:=⟨_,aA hlt⟩
        have hrow:(c.bo.map cW)[i]?=some (cW b):=by rw[aB,hx];rfl
        obtain⟨f1,f2⟩:=pG (hc.bo b (aG hx))
        have ho:=Ei [c.bx.length+i] (by simp) (by simp) (by simp;omega)
        rw[show fG [c.bx.length+i]=[[D.int .i64 (((c.bx.map cN).length:Int)+(i:Int))]]by simp[fG]]at ho
        have hbt:=pF c b (b8 [c.bx.length+i]) f1 f2 (by omega)
        have hst:gX (iY c s i) [c.bx.length+i] (fA c b (b8 [c.bx.length+i]))=iY c s (i+1):=by rw[iY,hx];rfl
        have hg:dr [c.bx.length+i]:=⟨by simp,by simp,λy hy=>by rw[aF.1 hy];omega⟩
        cases i with
        |zero=>
          have hf:=λ{K:KT}=>wM (K:=K) c s [c.bx.length+0] (fA c b (b8 [c.bx.length+0])) rfl hg
          rw[show gX (Ey c s) [c.bx.length+0] (fA c b (b8 [c.bx.length+0]))=iY c s 1 from hst]at hf
          repeat' ((conv=>whnf);first|exact zf|refine zm ?_|refine⟨cW b,⟨by omega,hrow,rfl⟩,?_⟩|refine zc ho ?_|refine zc hbt ?_|refine zr0 ?_|refine(hf ?_)|refine zB ?_ ?_|intro _)
          all_goals refine⟨1,hlt,aN hlt (aQ 0),zzz,zzz,rfl⟩
        |succ i=>
          obtain⟨o1,o2⟩:=mA hc s (i+1) (by omega)
          have hf:=λ{K:KT}=>u0 (K:=K) (iY c s (i+1)) [c.bx.length+(i+1)] (fA c b (b8 [c.bx.length+(i+1)])) rfl hg o2 (by omega)
          rw[hst]at hf
          repeat' ((conv=>whnf);first|exact zf|refine zm ?_|refine⟨cW b,⟨by omega,hrow,rfl⟩,?_⟩|refine zc ho ?_|refine zc hbt ?_|refine zr0 ?_|refine(hf ?_)|refine zB ?_ ?_|intro _)
          all_goals refine⟨i+2,hlt,aN hlt (aQ _),zzz,zzz,rfl⟩
      · have hge:i=c.bo.length:=by
          have h1:¬i<c.bo.length:=by rw[<-l2];simpa using hge
          omega
        subst hge
        obtain⟨m,hm⟩:∃m,c.bo.length=m+1:=⟨c.bo.length-1,by have:=hc.m1;omega⟩
        rw[hm]at hk⊢
        repeat' ((conv=>whnf);first|exact zf|refine zm ?_|refine zB ?_ ?_|intro _)
        exact hk
  · conv=>whnf
    refine bA [(1,.p 0 0),(2,.p 5 0),(29,.d (.sl 3 (c.bx.map cN))),(30,.d (.int .i64 (c.bx.map cN).length))] (λx:Nat×br=>x.1<=c.bx.length/\sD c x.1 x.2) (λx=>[(31,.d (.int .i64 x.1))]) (λx=>hA c x.2 0) (λx=>c.bx.length-x.1) (0,⟨[],[]⟩) ⟨aY _,.z⟩ ?_ ?_ ?_ (λ⟨j,s⟩ hi=>?_)
    · exact zzz
    · exact zzz
    · exact rfl
    repeat' ((conv=>whnf);first|exact zf|refine zm ?_|refine zB ?_ ?_|intro _)
    refine aU (λhlt=>?_) (λhge=>?_)
    · have hlt:j<c.bx.length:=by rw[<-l1];simpa using hlt
      obtain⟨x,hx⟩:∃x,c.bx[j]?=some x:=⟨_,aA hlt⟩
      have hrow:(c.bx.map cN)[j]?=some (cN x):=by rw[aB,hx];rfl
      have ho:=Ei [j] (by simp) (by simp) (by simp;omega)
      have hB:sD c j s:=hi.2
      have hadd:=λ{K:KT}=>mX (K:=K) s [j] (Nd x) ⟨⟨by simp,by simp,λy hy=>by rw[aF.1 hy];omega⟩,hB.gs (by omega),hs.bx x (aG hx),(show(3:Int)<=3 by decide),(show(3:Int)<=7 by decide),(show(0:Nat)<_ by decide)⟩
      repeat' ((conv=>whnf);first|exact zf|refine zm ?_|refine⟨cN x,⟨by omega,hrow,rfl⟩,?_⟩|refine zc ho ?_|refine zr0 ?_|refine(hadd (λb n=>?_))|refine zB ?_ ?_|intro _)
      all_goals refine⟨(j+1,_),⟨hlt,.s b hB hx⟩,aN hlt (aQ j),zzz,zzz,rfl⟩
    · have hge:j=c.bx.length:=by
        have h1:¬j<c.bx.length:=by rw[<-l1];simpa using hge
        have:=hi.1
        omega
      subst hge
      have hk:=hk s hi.2
      repeat' ((conv=>whnf);first|exact zf|refine zm ?_|refine zB ?_ ?_|intro _)
      conv=>whnf
      refine bA [(1,.p 0 0),(2,.p 5 0),(56,.d (.sl 9 (c.bo.map cW))),(57,.d (.int .i64 (c.bo.map cW).length))] (λi:Nat=>i<=c.bo.length) (λi=>[(58,.d (.int .i64 i))]) (λi=>hA c s i) (λi=>c.bo.length-i) 0 (aY _) ?_ ?_ ?_ (λi hi2=>?_)
      · exact zzz
      · exact zzz
      · exact rfl
      repeat' ((conv=>whnf);first|exact zf|refine zm ?_|refine zB ?_ ?_|intro _)
      refine aU (λhlt=>?_) (λhge=>?_)
      · have hlt:i<c.bo.length:=by rw[<-l2];simpa using hlt
        obtain⟨b,hx⟩:∃b,c.bo[i]?=some b:=⟨_,aA hlt⟩
        have hrow:(c.bo.map cW)[i]?=some (cW b):=by rw[aB,hx];rfl
        obtain⟨f1,f2⟩:=pG (hc.bo b (aG hx))
        have ho:=Ei [c.bx.length+i] (by simp) (by simp) (by simp;omega)
        rw[show fG [c.bx.length+i]=[[D.int .i64 (((c.bx.map cN).length:Int)+(i:Int))]]by simp[fG]]at ho
        have hbt:=pF c b (b8 [c.bx.length+i]) f1 f2 (by omega)
        have hst:gX (iY c s i) [c.bx.length+i] (fA c b (b8 [c.bx.length+i]))=iY c s (i+1):=by rw[iY,hx];rfl
        have hg:dr [c.bx.length+i]:=⟨by simp,by simp,λy hy=>by rw[aF.1 hy];omega⟩
        cases i with
        |zero=>
          have hf:=λ{K:KT}=>wM (K:=K) c s [c.bx.length+0] (fA c b (b8 [c.bx.length+0])) rfl hg
          rw[show gX (Ey c s) [c.bx.length+0] (fA c b (b8 [c.bx.length+0]))=iY c s 1 from hst]at hf
          repeat' ((conv=>whnf);first|exact zf|refine zm ?_|refine⟨cW b,⟨by omega,hrow,rfl⟩,?_⟩|refine zc ho ?_|refine zc hbt ?_|refine zr0 ?_|refine(hf ?_)|refine zB ?_ ?_|intro _)
          all_goals refine⟨1,hlt,aN hlt (aQ 0),zzz,zzz,rfl⟩
        |succ i=>
          obtain⟨o1,o2⟩:=mA hc s (i+1) (by omega)
          have hf:=λ{K:KT}=>u0 (K:=K) (iY c s (i+1)) [c.bx.length+(i+1)] (fA c b (b8 [c.bx.length+(i+1)])) rfl hg o2 (by omega)
          rw[hst]at hf
          repeat' ((conv=>whnf);first|exact zf|refine zm ?_|refine⟨cW b,⟨by omega,hrow,rfl⟩,?_⟩|refine zc ho ?_|refine zc hbt ?_|refine zr0 ?_|refine(hf ?_)|refine zB ?_ ?_|intro _)
          all_goals refine⟨i+2,hlt,aN hlt (aQ _),zzz,zzz,rfl⟩
      · have hge:i=c.bo.length:=by
          have h1:¬i<c.bo.length:=by rw[<-l2];simpa using hge
          omega
        subst hge
        obtain⟨m,hm⟩:∃m,c.bo.length=m+1:=⟨c.bo.length-1,by have:=hc.m1;omega⟩
        rw[hm]at hk⊢
        repeat' ((conv=>whnf);first|exact zf|refine zm ?_|refine zB ?_ ?_|intro _)
        exact hk
  · conv=>whnf
    refine bA [(1,.p 0 0),(2,.p 5 0),(29,.d (.sl 3 (c.bx.map cN))),(30,.d (.int .i64 (c.bx.map cN).length))] (λx:Nat×br=>x.1<=c.bx.length/\sD c x.1 x.2) (λx=>[(31,.d (.int .i64 x.1))]) (λx=>hA c x.2 0) (λx=>c.bx.length-x.1) (0,⟨[],[]⟩) ⟨aY _,.z⟩ ?_ ?_ ?_ (λ⟨j,s⟩ hi=>?_)
    · exact zzz
    · exact zzz
    · exact rfl
    repeat' ((conv=>whnf);first|exact zf|refine zm ?_|refine zB ?_ ?_|intro _)
    refine aU (λhlt=>?_) (λhge=>?_)
    · have hlt:j<c.bx.length:=by rw[<-l1];simpa using hlt
      obtain⟨x,hx⟩:∃x,c.bx[j]?=some x:=⟨_,aA hlt⟩
      have hrow:(c.bx.map cN)[j]?=some (cN x):=by rw[aB,hx];rfl
      have ho:=Ei [j] (by simp) (by simp) (by simp;omega)
      have hB:sD c j s:=hi.2
      have hadd:=λ{K:KT}=>mX (K:=K) s [j] (Nd x) ⟨⟨by simp,by simp,λy hy=>by rw[aF.1 hy];omega⟩,hB.gs (by omega),hs.bx x (aG hx),(show(3:Int)<=3 by decide),(show(3:Int)<=7 by decide),(show(0:Nat)<_ by decide)⟩
      repeat' ((conv=>whnf);first|exact zf|refine zm ?_|refine⟨cN x,⟨by omega,hrow,rfl⟩,?_⟩|refine zc ho ?_|refine zr0 ?_|refine(hadd (λb n=>?_))|refine zB ?_ ?_|intro _)
      all_goals refine⟨(j+1,_),⟨hlt,.s b hB hx⟩,aN hlt (aQ j),zzz,zzz,rfl⟩
    · have hge:j=c.bx.length:=by
        have h1:¬j<c.bx.length:=by rw[<-l1];simpa using hge
        have:=hi.1
        omega
      subst hge
      have hk:=hk s hi.2
      repeat' ((conv=>whnf);first|exact zf|refine zm ?_|refine zB ?_ ?_|intro _)
      conv=>whnf
      refine bA [(1,.p 0 0),(2,.p 5 0),(56,.d (.sl 9 (c.bo.map cW))),(57,.d (.int .i64 (c.bo.map cW).length))] (λi:Nat=>i<=c.bo.length) (λi=>[(58,.d (.int .i64 i))]) (λi=>hA c s i) (λi=>c.bo.length-i) 0 (aY _) ?_ ?_ ?_ (λi hi2=>?_)
      · exact zzz
      · exact zzz
      · exact rfl
      repeat' ((conv=>whnf);first|exact zf|refine zm ?_|refine zB ?_ ?_|intro _)
      refine aU (λhlt=>?_) (λhge=>?_)
      · have hlt:i<c.bo.length:=by rw[<-l2];simpa using hlt
        obtain⟨b,hx⟩:∃b,c.bo[i]?=some b:=⟨_,aA hlt⟩
        have hrow:(c.bo.map cW)[i]?=some (cW b):=by rw[aB,hx];rfl
        obtain⟨f1,f2⟩:=pG (hc.bo b (aG hx))
        have ho:=Ei [c.bx.length+i] (by simp) (by simp) (by simp;omega)
        rw[show fG [c.bx.length+i]=[[D.int .i64 (((c.bx.map cN).length:Int)+(i:Int))]]by simp[fG]]at ho
        have hbt:=pF c b (b8 [c.bx.length+i]) f1 f2 (by omega)
        have hst:gX (iY c s i) [c.bx.length+i] (fA c b (b8 [c.bx.length+i]))=iY c s (i+1):=by rw[iY,hx];rfl
        have hg:dr [c.bx.length+i]:=⟨by simp,by simp,λy hy=>by rw[aF.1 hy];omega⟩
        cases i with
        |zero=>
          have hf:=λ{K:KT}=>wM (K:=K) c s [c.bx.length+0] (fA c b (b8 [c.bx.length+0])) rfl hg
          rw[show gX (Ey c s) [c.bx.length+0] (fA c b (b8 [c.bx.length+0]))=iY c s 1 from hst]at hf
          repeat' ((conv=>whnf);first|exact zf|refine zm ?_|refine⟨cW b,⟨by omega,hrow,rfl⟩,?_⟩|refine zc ho ?_|refine zc hbt ?_|refine zr0 ?_|refine(hf ?_)|refine zB ?_ ?_|intro _)
          all_goals refine⟨1,hlt,aN hlt (aQ 0),zzz,zzz,rfl⟩
        |succ i=>
          obtain⟨o1,o2⟩:=mA hc s (i+1) (by omega)
          have hf:=λ{K:KT}=>u0 (K:=K) (iY c s (i+1)) [c.bx.length+(i+1)] (fA c b (b8 [c.bx.length+(i+1)])) rfl hg o2 (by omega)
          rw[hst]at hf
          repeat' ((conv=>whnf);first|exact zf|refine zm ?_|refine⟨cW b,⟨by omega,hrow,rfl⟩,?_⟩|refine zc ho ?_|refine zc hbt ?_|refine zr0 ?_|refine(hf ?_)|refine zB ?_ ?_|intro _)
          all_goals refine⟨i+2,hlt,aN hlt (aQ _),zzz,zzz,rfl⟩
      · have hge:i=c.bo.length:=by
          have h1:¬i<c.bo.length:=by rw[<-l2];simpa using hge
          omega
        subst hge
        obtain⟨m,hm⟩:∃m,c.bo.length=m+1:=⟨c.bo.length-1,by have:=hc.m1;omega⟩
        rw[hm]at hk⊢
        repeat' ((conv=>whnf);first|exact zf|refine zm ?_|refine zB ?_ ?_|intro _)
        exact hk
  · conv=>whnf
    refine bA [(1,.p 0 0),(2,.p 5 0),(29,.d (.sl 3 (c.bx.map cN))),(30,.d (.int .i64 (c.bx.map cN).length))] (λx:Nat×br=>x.1<=c.bx.length/\sD c x.1 x.2) (λx=>[(31,.d (.int .i64 x.1))]) (λx=>hB c x.2 0) (λx=>c.bx.length-x.1) (0,⟨[],[]⟩) ⟨aY _,.z⟩ ?_ ?_ ?_ (λ⟨j,s⟩ hi=>?_)
    · exact zzz
    · exact zzz
    · exact rfl
    repeat' ((conv=>whnf);first|exact zf|refine zm ?_|refine zB ?_ ?_|intro _)
    refine aU (λhlt=>?_) (λhge=>?_)
    · have hlt:j<c.bx.length:=by rw[<-l1];simpa using hlt
      obtain⟨x,hx⟩:∃x,c.bx[j]?=some x:=⟨_,aA hlt⟩
      have hrow:(c.bx.map cN)[j]?=some (cN x):=by rw[aB,hx];rfl
      have ho:=Ei [j] (by simp) (by simp) (by simp;omega)
      have hB:sD c j s:=hi.2
      have hadd:=λ{K:KT}=>mX (K:=K) s [j] (Nd x) ⟨⟨by simp,by simp,λy hy=>by rw[aF.1 hy];omega⟩,hB.gs (by omega),hs.bx x (aG hx),(show(3:Int)<=3 by decide),(show(3:Int)<=7 by decide),(show(0:Nat)<_ by decide)⟩
      repeat' ((conv=>whnf);first|exact zf|refine zm ?_|refine⟨cN x,⟨by omega,hrow,rfl⟩,?_⟩|refine zc ho ?_|refine zr0 ?_|refine(hadd (λb n=>?_))|refine zB ?_ ?_|intro _)
      all_goals refine⟨(j+1,_),⟨hlt,.s b hB hx⟩,aN hlt (aQ j),zzz,zzz,rfl⟩
    · have hge:j=c.bx.length:=by
        have h1:¬j<c.bx.length:=by rw[<-l1];simpa using hge
        have:=hi.1
        omega
      subst hge
      have hk:=hk s hi.2
      repeat' ((conv=>whnf);first|exact zf|refine zm ?_|refine zB ?_ ?_|intro _)
      conv=>whnf
      refine bA [(1,.p 0 0),(2,.p 5 0),(56,.d (.sl 9 (c.bo.map cW))),(57,.d (.int .i64 (c.bo.map cW).length))] (λi:Nat=>i<=c.bo.length) (λi=>[(58,.d (.int .i64 i))]) (λi=>hB c s i) (λi=>c.bo.length-i) 0 (aY _) ?_ ?_ ?_ (λi hi2=>?_)
      · exact zzz
      · exact zzz
      · exact rfl
      repeat' ((conv=>whnf);first|exact zf|refine zm ?_|refine zB ?_ ?_|intro _)
      refine aU (λhlt=>?_) (λhge=>?_)
      · have hlt:i<c.bo.length:=by rw[<-l2];simpa using hlt
        obtain⟨b,hx⟩:∃b,c.bo[i]?=some b:=⟨_,aA hlt⟩
        have hrow:(c.bo.map cW)[i]?=some (cW b):=by rw[aB,hx];rfl
        obtain⟨f1,f2⟩:=pG (hc.bo b (aG hx))
        have ho:=Ei [c.bx.length+i] (by simp) (by simp) (by simp;omega)
        rw[show fG [c.bx.length+i]=[[D.int .i64 (((c.bx.map cN).length:Int)+(i:Int))]]by simp[fG]]at ho
        have hbt:=pF c b (b8 [c.bx.length+i]) f1 f2 (by omega)
        have hst:gX (iY c s i) [c.bx.length+i] (fA c b (b8 [c.bx.length+i]))=iY c s (i+1):=by rw[iY,hx];rfl
        have hg:dr [c.bx.length+i]:=⟨by simp,by simp,λy hy=>by rw[aF.1 hy];omega⟩
        cases i with
        |zero=>
          have hf:=λ{K:KT}=>wM (K:=K) c s [c.bx.length+0] (fA c b (b8 [c.bx.length+0])) rfl hg
          rw[show gX (Ey c s) [c.bx.length+0] (fA c b (b8 [c.bx.length+0]))=iY c s 1 from hst]at hf
          repeat' ((conv=>whnf);first|exact zf|refine zm ?_|refine⟨cW b,⟨by omega,hrow,rfl⟩,?_⟩|refine zc ho ?_|refine zc hbt ?_|refine zr0 ?_|refine(hf ?_)|refine zB ?_ ?_|intro _)
          all_goals refine⟨1,hlt,aN hlt (aQ 0),zzz,zzz,rfl⟩
        |succ i=>
          obtain⟨o1,o2⟩:=mA hc s (i+1) (by omega)
          have hf:=λ{K:KT}=>u0 (K:=K) (iY c s (i+1)) [c.bx.length+(i+1)] (fA c b (b8 [c.bx.length+(i+1)])) rfl hg o2 (by omega)
          rw[hst]at hf
          repeat' ((conv=>whnf);first|exact zf|refine zm ?_|refine⟨cW b,⟨by omega,hrow,rfl⟩,?_⟩|refine zc ho ?_|refine zc hbt ?_|refine zr0 ?_|refine(hf ?_)|refine zB ?_ ?_|intro _)
          all_goals refine⟨i+2,hlt,aN hlt (aQ _),zzz,zzz,rfl⟩
      · have hge:i=c.bo.length:=by
          have h1:¬i<c.bo.length:=by rw[<-l2];simpa using hge
          omega
        subst hge
        obtain⟨m,hm⟩:∃m,c.bo.length=m+1:=⟨c.bo.length-1,by have:=hc.m1;omega⟩
        rw[hm]at hk⊢
        repeat' ((conv=>whnf);first|exact zf|refine zm ?_|refine zB ?_ ?_|intro _)
        exact hk
  · conv=>whnf
    refine bA [(1,.p 0 0),(2,.p 5 0),(29,.d (.sl 3 (c.bx.map cN))),(30,.d (.int .i64 (c.bx.map cN).length))] (λx:Nat×br=>x.1<=c.bx.length/\sD c x.1 x.2) (λx=>[(31,.d (.int .i64 x.1))]) (λx=>hB c x.2 0) (λx=>c.bx.length-x.1) (0,⟨[],[]⟩) ⟨aY _,.z⟩ ?_ ?_ ?_ (λ⟨j,s⟩ hi=>?_)
    · exact zzz
    · exact zzz
    · exact rfl
    repeat' ((conv=>whnf);first|exact zf|refine zm ?_|refine zB ?_ ?_|intro _)
    refine aU (λhlt=>?_) (λhge=>?_)
    · have hlt:j<c.bx.length:=by rw[<-l1];simpa using hlt
      obtain⟨x,hx⟩:∃x,c.bx[j]?=some x:=⟨_,aA hlt⟩
      have hrow:(c.bx.map cN)[j]?=some (cN x):=by rw[aB,hx];rfl
      have ho:=Ei [j] (by simp) (by simp) (by simp;omega)
      have hB:sD c j s:=hi.2
      have hadd:=λ{K:KT}=>mX (K:=K) s [j] (Nd x) ⟨⟨by simp,by simp,λy hy=>by rw[aF.1 hy];omega⟩,hB.gs (by omega),hs.bx x (aG hx),(show(3:Int)<=3 by decide),(show(3:Int)<=7 by decide),(show(0:Nat)<_ by decide)⟩
      repeat' ((conv=>whnf);first|exact zf|refine zm ?_|refine⟨cN x,⟨by omega,hrow,rfl⟩,?_⟩|refine zc ho ?_|refine zr0 ?_|refine(hadd (λb n=>?_))|refine zB ?_ ?_|intro _)
      all_goals refine⟨(j+1,_),⟨hlt,.s b hB hx⟩,aN hlt (aQ j),zzz,zzz,rfl⟩
    · have hge:j=c.bx.length:=by
        have h1:¬j<c.bx.length:=by rw[<-l1];simpa using hge
        have:=hi.1
        omega
      subst hge
      have hk:=hk s hi.2
      repeat' ((conv=>whnf);first|exact zf|refine zm ?_|refine zB ?_ ?_|intro _)
      conv=>whnf
      refine bA [(1,.p 0 0),(2,.p 5 0),(56,.d (.sl 9 (c.bo.map cW))),(57,.d (.int .i64 (c.bo.map cW).length))] (λi:Nat=>i<=c.bo.length) (λi=>[(58,.d (.int .i64 i))]) (λi=>hB c s i) (λi=>c.bo.length-i) 0 (aY _) ?_ ?_ ?_ (λi hi2=>?_)
      · exact zzz
      · exact zzz
      · exact rfl
      repeat' ((conv=>whnf);first|exact zf|refine zm ?_|refine zB ?_ ?_|intro _)
      refine aU (λhlt=>?_) (λhge=>?_)
      · have hlt:i<c.bo.length:=by rw[<-l2];simpa using hlt
        obtain⟨b,hx⟩:∃b,c.bo[i]?=some b:=⟨_,aA hlt⟩
        have hrow:(c.bo.map cW)[i]?=some (cW b):=by rw[aB,hx];rfl
        obtain⟨f1,f2⟩:=pG (hc.bo b (aG hx))
        have ho:=Ei [c.bx.length+i] (by simp) (by simp) (by simp;omega)
        rw[show fG [c.bx.length+i]=[[D.int .i64 (((c.bx.map cN).length:Int)+(i:Int))]]by simp[fG]]at ho
        have hbt:=pF c b (b8 [c.bx.length+i]) f1 f2 (by omega)
        have hst:gX (iY c s i) [c.bx.length+i] (fA c b (b8 [c.bx.length+i]))=iY c s (i+1):=by rw[iY,hx];rfl
        have hg:dr [c.bx.length+i]:=⟨by simp,by simp,λy hy=>by rw[aF.1 hy];omega⟩
        cases i with
        |zero=>
          have hf:=λ{K:KT}=>wM (K:=K) c s [c.bx.length+0] (fA c b (b8 [c.bx.length+0])) rfl hg
          rw[show gX (Ey c s) [c.bx.length+0] (fA c b (b8 [c.bx.length+0]))=iY c s 1 from hst]at hf
          repeat' ((conv=>whnf);first|exact zf|refine zm ?_|refine⟨cW b,⟨by omega,hrow,rfl⟩,?_⟩|refine zc ho ?_|refine zc hbt ?_|refine zr0 ?_|refine(hf ?_)|refine zB ?_ ?_|intro _)
          all_goals refine⟨1,hlt,aN hlt (aQ 0),zzz,zzz,rfl⟩
        |succ i=>
          obtain⟨o1,o2⟩:=mA hc s (i+1) (by omega)
          have hf:=λ{K:KT}=>u0 (K:=K) (iY c s (i+1)) [c.bx.length+(i+1)] (fA c b (b8 [c.bx.length+(i+1)])) rfl hg o2 (by omega)
          rw[hst]at hf
          repeat' ((conv=>whnf);first|exact zf|refine zm ?_|refine⟨cW b,⟨by omega,hrow,rfl⟩,?_⟩|refine zc ho ?_|refine zc hbt ?_|refine zr0 ?_|refine(hf ?_)|refine zB ?_ ?_|intro _)
          all_goals refine⟨i+2,hlt,aN hlt (aQ _),zzz,zzz,rfl⟩
      · have hge:i=c.bo.length:=by
          have h1:¬i<c.bo.length:=by rw[<-l2];simpa using hge
          omega
        subst hge
        obtain⟨m,hm⟩:∃m,c.bo.length=m+1:=⟨c.bo.length-1,by have:=hc.m1;omega⟩
        rw[hm]at hk⊢
        repeat' ((conv=>whnf);first|exact zf|refine zm ?_|refine zB ?_ ?_|intro _)
        exact hk
def hb:Va:=⟨3,0,[48],[1],[]⟩
def vS(ma pc:Int):Fr:=⟨0,pc,0,ma,[hb]⟩
def xT(cur:Lb)(fr:List Fr)(st:List Va)(md ro s:Int)(v:Va)(ex:Bool):Th:=⟨[49],[49],⟨cur,Bn⟩,⟨fr,st,[]⟩,[],md,ro,s,[],v,ex⟩
def yT(cur:Lb)(fr:List Fr)(st:List Va)(s:Int)(v:Va):Th:=⟨[49],[49,46,48],⟨cur,a1⟩,⟨vS 0 5::fr,st,[]⟩,[⟨[49,46,48],a1,14,1,0,0,⟨kW,Bn⟩,[49],1,1⟩],0,2,s,[],v,false⟩
def kT:Nat->Th
 |0=>xT kW [vS 0 0] [] 0 4 0 ck false
 |1=>xT kW [vS 0 1] [hb] 0 4 0 ck false
 |2=>xT kW [vS 0 2] [hb,num 2] 0 4 0 ck false
 |3=>xT kW [vS 0 3] [hb,num 2,num 9] 0 4 0 ck false
 |4=>xT kW [vS 0 4] [hb,num 2,num 9,sh a1] 0 4 0 ck false
 |5=>yT kW [⟨1,0,0,0,[hb]⟩] [] 0 ck
 |6=>yT kW [⟨1,1,0,0,[hb]⟩] [hb] 0 ck
 |7=>yT a1 [⟨1,2,0,0,[hb]⟩] [num 5] 0 ck
 |8|9|10|11|12|13=>yT a1 [] [] 2 (num 5)
 |14=>xT kW [vS 0 6] [] 1 1 0 ck false
 |15=>xT kW [vS 0 7] [num 9] 1 1 0 ck false
 |16=>xT kW [vS 0 8] [num 9,sh kW] 1 1 0 ck false
 |17=>xT kW [vS 0 9] [] 1 1 0 ck false
 |18=>xT kW [vS 0 10] [hb] 1 1 0 ck false
 |_=>xT kW [] [] 1 1 3 hb false
def dT(ma:Int):Nat->Th
 |0=>xT kW [vS ma 0] [] 0 4 0 ck false
 |1=>xT kW [vS ma 1] [hb] 0 4 0 ck false
 |2=>xT a1 [vS ma 2] [num 5] 0 4 0 ck false
 |3=>xT a1 [vS ma 3] [] 0 4 0 ck false
 |4=>xT a1 [vS ma 4] [sh kW] 0 4 0 ck false
 |i+5=>bif ma==0 then xT a1 [vS ma 4] [sh kW] 0 4 4 (num (-3)) true else(match i with
  |0=>xT kW [vS ma 5] [] 0 4 0 ck false
  |1=>xT kW [vS ma 6] [num 9] 0 4 0 ck false
  |2=>xT kW [vS ma 7] [num 9,sh kW] 0 4 0 ck false
  |3=>xT kW [vS ma 8] [] 0 4 0 ck false
  |4=>xT kW [vS ma 9] [hb] 0 4 0 ck false
  |_=>xT kW [] [] 0 4 3 hb false)
def V0:Ob:=Nd ⟨a1,5⟩
def PD(g:Option Nat):br:=⟨[([48],V0)],[(a1,g,[[0]])]⟩
def Vn(g:Option Nat):br:=⟨[([48],V0),([49,46,48],V0)],[(a1,g,[[0],[1,0]])]⟩
def kK(i:Nat)(g:Option Nat):Kn:=⟨(gE true 0).im,i,[([49],kT i)],[[1]],bif Nat.blt i 14 then PD g else Vn g,bif Nat.blt i 17 then[]else[⟨17,[49],kW,num 9⟩],[]⟩
def dK(ma:Int)(i:Nat)(g:Option Nat):Kn:=⟨(gE false ma).im,i,[([49],dT ma i)],[[1]],PD g,bif ma==0||Nat.blt i 8 then[]else[⟨8,[49],kW,num 9⟩],bif ma==0||Nat.blt i 5 then[]else[⟨5,[49],⟨42,a1,kW,1⟩⟩]⟩
def PB(i:Nat)(k:Kn)(b b':Option Nat):Kn:=PL (i+2) (kN (tN k) [49] b) [49] b'
theorem YD(i:Nat)(hi:i<31)(g b b':Option Nat):PB i (kK i g) b b'=kK (i+1) (bif Nat.beq i 13 then b else g):=by
 have h:(List.range 31).map (λi=>PB i (kK i g) b b')=(List.range 31).map λi=>kK (i+1) (bif Nat.beq i 13 then b else g):=zx0
 exact pV.1 h i (b_.2 hi)
theorem Yj(i:Nat)(hi:i<30)(g b b':Option Nat):PB i (dK 1 i g) b b'=dK 1 (i+1) g:=by
 have h:(List.range 30).map (λi=>PB i (dK 1 i g) b b')=(List.range 30).map λi=>dK 1 (i+1) g:=zx0
 exact pV.1 h i (b_.2 hi)
theorem YY(i:Nat)(hi:i<30)(g b b':Option Nat):PB i (dK 0 i g) b b'=dK 0 (i+1) g:=by
 have h:(List.range 30).map (λi=>PB i (dK 0 i g) b b')=(List.range 30).map λi=>dK 0 (i+1) g:=zx0
 exact pV.1 h i (b_.2 hi)
structure Vv(c:Cf):Prop where
  sm:yu c
  ok:RM c
  pr:BR c.im
  ro:∀b∈c.bo,b.ro<=15/\0<=b.ma
theorem PG{l:Lb}(h1:l.s.length<=2)(h2:l.i.length<=2):cC l:=⟨aX h1 (by decide),aX h2 (by decide)⟩
theorem sD.st{c:Cf}(hs:yu c){n:Nat}{s:br}(h:sD c n s)(hn:n<=8):fB 255 n n s:=by
 induction h with
 |z=>exact⟨aL _,λp hp=>(by cases hp),λp hp=>(by cases hp)⟩
 |s b h hx ih=>
  rename_i n s x;exact(ih (by omega)).add ⟨by simp,by simp,λy hy=>by rw[aF.1 hy];omega⟩ ⟨hs.bx x (aG hx),fq x.v,mc,λy hy=>(by cases hy),aY _,eT _,(by decide:(0:Int)<=255)⟩ b
theorem Ni{c:Cf}(hk:Vv c){b:Bo}(hb:b∈c.bo){n:Nat}(hn:n<100):fS 255 20 (fA c b (b8 [n])):=by
 have h0:=hk.ok.bo b hb;have hr:=hk.ro b hb;have hs:=hk.sm.bo b hb;have hro:0<=b.ro/\b.ma<=63:=by
  unfold eH at h0;cases h1:iI c b with
  |false=>rw[h1]at h0;cases h0
  |true=>
   rw[h1]at h0;cases h2:pN b.l&&(pN b.c&&decide (b.ma<=63)) with
   |false=>rw[h2]at h0;cases h0
   |true=>
    rw[h2]at h0;cases h3:decide (0<=b.ro)&&(decide (b.ro<=999)&&decide (b.bo<c.bx.length)) with
    |false=>rw[h3]at h0;cases h0
    |true=>
     simp only[aO,χ]at h2 h3;exact⟨h3.1,h2.2.2⟩
 have hv:cC (bF (pS c b)):=by
  unfold pS;cases decide (0<=b.bo) with
  |false=>exact fq _
  |true=>
   rw[δ];split
   .rename_i x hx;exact hk.sm.bx x (aG hx)
   .exact fq _
 exact⟨(okCo_0 255 20).enter rfl _ _ [pS c b] b.ma (by show 1<=20;decide) (λv h=>by rw[aF.1 h];exact hv) ⟨hr.2,by omega⟩,And.intro hs.1 hs.2,⟨[n],rfl,by simp,λx hx=>by rw[aF.1 hx];exact hn,eT _,hro.1,by show(0:Int)+b.ro<=15;omega,by show((1:Nat):Int)+b.ro<=16;omega⟩,λx hx=>(by cases hx),aY _,mc⟩
theorem Gb{c:Cf}(hk:Vv c){s:br}(hs:sD c c.bx.length s):∀n,n<=c.bo.length->KI 255 20 n (iY c s n)/\(iY c s n).im=c.im
 |0,_=>⟨⟨hk.pr,λx hx=>(by cases hx),aL _,aL _,λp hp=>(by cases hp),λx hx=>(by cases hx),(hs.st hk.sm hk.ok.n8).up (by have:=hk.ok.n8;omega) (by have:=hk.ok.n8;omega),aY _,λf hf=>(by cases hf),aY _,⟨eT _,(by decide:(0:Int)<=20)⟩⟩,rfl⟩
 |n+1,hn=>by
  have h8:=hk.ok.n8;have m8:=hk.ok.m8;obtain⟨ih,e⟩:=Gb hk hs n (by omega);have hb:c.bo[n]?.getD U8∈c.bo:=by rw[aA hn];exact dR hn
  exact⟨KB.fork ih (Ni hk hb (n:=c.bx.length+n) (by omega)) ⟨by simp,by simp,λx hx=>by rw[aF.1 hx];omega⟩ rfl,e⟩
theorem Wz{K:KT}{c:Cf}(hk:Vv c){a p:Int}(hv:Z0 28 [sC c.im] (.tu [.d (.int .i64 a),.d (.int .i64 p),.d (.int .i64 0)]))(h:(wW c 0).2=0)
  (hK:∀s,sD c c.bx.length s->KI 255 20 c.bo.length (iY c s c.bo.length)->K (.ret (.tu [.p 0 0,.d (.int .i64 0),.d (.int .i64 0)])) (fU false (iY c s c.bo.length))):Z1 8 [yF c] [] K:=
 Uc c a p 0 hv hk.sm h λs hs=>hK s hs (Gb hk hs _ (aL _)).1
theorem L0(sc:Bool)(m:Int):BR (gE sc m).im where
  hI:=⟨λi g hg=>by
    have : g.args=1 := by
      rcases ah.1 (aG hg)with rfl|h
      · rfl
      · rw[aF.1 h]
    rw[this];unfold dB;decide⟩
  ar:=λg hg=>by
    rcases ah.1 hg with rfl|h
    · exact(by decide:(1:Int)<=10)
    · rw[aF.1 h];exact(by decide:(1:Int)<=10)
  cd:=λg hg=>by
    rcases ah.1 hg with rfl|h
    · cases sc<;>decide
    · rw[aF.1 h];decide
  dm:=λg hg o ho=>by
    have:∀sc,(gE sc 0).im.fs.all (λg=>g.code.all λo=>o.c != 24&&o.c != 31)=true:=by decide
    have:=aP.1 (aP.1 (this sc) g hg) o ho
    simpa using this
  cs:=λv hv=>by
    have:∀sc,(gE sc 0).im.cs.all (λv=>decide (v.ls.length<=1)&&decide (v.li.length<=1))=true:=by decide
    have:=aP.1 (this sc) v hv
    simp only[aO,χ]at this
    exact⟨aX this.1 (by decide),aX this.2 (by decide)⟩
theorem Nz(sc:Bool)(m:Int)(hm:m=0\/m=1):wW (gE sc m) 0=(0,0):=by
 rcases hm with rfl|rfl<;>cases sc<;>kernel_rfl
theorem L1(sc:Bool)(m:Int)(hm:m=0\/m=1):Vv (gE sc m) where
 sm:=⟨λb hb=>by rw[aF.1 hb];exact PG (by decide) (by decide),λb hb=>by rw[aF.1 hb];exact⟨PG (l:=kW) (by decide) (by decide),PG (l:=Bn) (by decide) (by decide)⟩,by show 1<_;decide,by show 1<_;decide⟩
 ok:=(K4 (e:=0) (by rw[Nz sc m hm])).1
 pr:=L0 sc m
 ro:=λb hb=>by rw[aF.1 hb];exact⟨by show(4:Int)<=15;decide,by show 0<=m;omega⟩
abbrev Fq:=List (List UInt8×Ob)
section
variable{m:Lb}{k:List UInt8×List UInt8}{es:List ME}
theorem zT(e:ME)(r:List ME):lW k (e::r)=bif e.1==k then some 0 else(lW k r).map (· + 1):=by
 unfold lW;rw[gQ];cases e.1==k<;>rfl
theorem DE{e:ME}{r:List ME}(h:(e::r).Pairwise λa b=>a.1≠b.1)(he:(e.1==k)=true):∀x∈r,(x.1==k)=false:=λx hx=>by
 have h1:=(eM.1 h).1 x hx;rw[beq_eq_false_iff_ne]
 rintro rfl
 exact h1 (by simpa using he)
theorem zR{v:Option (Option Nat×List (List D))}:∀{es:List ME}{i:Nat},(es.Pairwise λa b=>a.1≠b.1)->lW k es=some i->eQ i v es=es.map λe=>bif e.1==k then(e.1,v)else e
 |[],i,_,h=>by cases h
 |e::r,i,hn,h=>by
  rw[zT]at h;rw[dI];cases he:e.1==k with
  |true=>
   rw[he]at h;cases h;have hr:(r.map λe=>bif e.1==k then(e.1,v)else e)=r:=by
    conv=>rhs;rw[<-List.map_id r]
    exact cA λx hx=>by rw[DE hn he x hx];rfl
   rw[hr];rfl
  |false=>
   rw[he]at h;cases hj:lW k r with
   |none=>rw[hj]at h;cases h
   |some j=>
    rw[hj]at h;cases h;have:=zR (v:=v) (eM.1 hn).2 hj;rw[<-this];rfl
theorem wP:∀{es:List ME}{i:Nat},(es.Pairwise λa b=>a.1≠b.1)->lW k es=some i->es.eraseIdx i=es.filter λe=> !(e.1==k)
 |[],i,_,h=>by cases h
 |e::r,i,hn,h=>by
  rw[zT]at h;rw[qt];cases he:e.1==k with
  |true=>
   rw[he]at h;cases h;have hr:(r.filter λe=> !(e.1==k))=r:=jI.2 λx hx=>by rw[DE hn he x hx];rfl
   rw[hr];rfl
  |false=>
   rw[he]at h;cases hj:lW k r with
   |none=>rw[hj]at h;cases h
   |some j=>
    rw[hj]at h;cases h;have:=wP (eM.1 hn).2 hj;show e::r.eraseIdx j=_;rw[this];rfl
theorem M8{e:ME}(h:e∈es)(he:e.1=k):∃i,lW k es=some i:=by
 cases hm:lW k es with
 |some i=>exact⟨i,rfl⟩
 |none=>
  have:=List.findIdx?_eq_none_iff.1 hm e h;rw[he]at this;simp at this
def A7(a b:Lb):Bool:=a.s==b.s&&a.i==b.i
theorem jn{a b:Lb}:A7 a b=true<->a=b:=by
 unfold A7;rw[aO,ξ,ξ];constructor
 .rintro ⟨h1,h2⟩
  cases a;cases b;cases h1;cases h2;rfl
 .rintro rfl;exact⟨rfl,rfl⟩
theorem Rj{a b:Lb}(h:a≠b):A7 a b=false:=by
 cases e:A7 a b with
 |false=>rfl
 |true=>exact absurd (jn.1 e) h
theorem z7(a:Lb):A7 a a=true:=jn.2 rfl
abbrev Nm:=Lb×Option Nat×List (List Nat)
def lH(m:Lb)(dn:Lb->Bool)(bs:Lb->Option Nat)(nm:my):List ME:=
 (nm.filter λp=> !dn p.1||bH p.1 m).map λp=>((p.1.s,p.1.i),bif dn p.1 then some (bs p.1,cM (p.2.2.map b8))else none)
def wK(m:Lb)(dn:Lb->Bool)(nm:my)(key:List UInt8):Bool:=nm.any λp=>dn p.1&&!bH p.1 m&&p.2.2.any λk=>b8 k==key
def kE(m:Lb)(dn:Lb->Bool)(nm:my)(th:Fq):Fq:=th.filter λq=> !wK m dn nm q.1
def more(dn:Lb->Bool)(l:Lb):Lb->Bool:=λx=>dn x||A7 x l
theorem D2{dn:Lb->Bool}{bs:Lb->Option Nat}{nm:my}(h:nm.Pairwise λa b=>a.1≠b.1):(lH m dn bs nm).Pairwise λa b=>a.1≠b.1:=by
 unfold lH;rw[List.pairwise_map];refine(h.filter _).imp λhab e=>hab ?_;rw[dG]at e;exact jn.1 (by unfold A7;rw[e.1,e.2,beq_self_eq_true,beq_self_eq_true];rfl)
theorem zo{dn:Lb->Bool}{bs:Lb->Option Nat}{nm:my}{p:Nm}(hp:p∈nm)(hd:dn p.1=false):∃i,lW (p.1.s,p.1.i) (lH m dn bs nm)=some i:=
 M8 (bQ.2 ⟨p,dH.2 ⟨hp,by rw[hd];rfl⟩,rfl⟩) rfl
theorem P2{nm:my}(h:nm.Pairwise λa b=>a.1≠b.1){p q:Nm}(hp:p∈nm)(hq:q∈nm)(e:p.1=q.1):p=q:=by
 induction nm with
 |nil=>cases hp
 |cons x r ih=>
  rw[eM]at h;rcases ah.1 hp with rfl|h1<;>rcases ah.1 hq with rfl|h2
  .rfl
  .exact absurd e (h.1 _ h2)
  .exact absurd e.symm (h.1 _ h1)
  .exact ih h.2 h1 h2
theorem DW{a b:Lb}:((a.s,a.i)==(b.s,b.i))=A7 a b:=rfl
theorem J7{dn:Lb->Bool}{bs:Lb->Option Nat}{nm:my}(h:nm.Pairwise λa b=>a.1≠b.1){p:Nm}(hp:p∈nm)(hf:bH p.1 m=true){i:Nat}{b:Option Nat}(hi:lW (p.1.s,p.1.i) (lH m dn bs nm)=some i) :
  eQ i (some (b,cM (p.2.2.map b8))) (lH m dn bs nm)=lH m (more dn p.1) (λx=>bif A7 x p.1 then b else bs x) nm:=by
 rw[zR (D2 h) hi];unfold lH;rw[gP];have e:(nm.filter λq=> !dn q.1||bH q.1 m)=nm.filter λq=> !more dn p.1 q.1||bH q.1 m:=by
  refine eY λq hq=>?_;unfold more;cases hx:A7 q.1 p.1 with
  |false=>rw[dL]
  |true=>rw[jn.1 hx,hf,kU,kU]
 rw[<-e];refine cA λq hq=>?_;have hq:=(dH.1 hq).1;simp only[jK,DW,more];cases hx:A7 q.1 p.1 with
 |false=>simp
 |true=>
  have:=P2 h hq hp (jn.1 hx);subst this;simp
theorem J9{dn:Lb->Bool}{bs:Lb->Option Nat}{nm:my}(h:nm.Pairwise λa b=>a.1≠b.1){p:Nm}(hf:bH p.1 m=false){i:Nat}(hi:lW (p.1.s,p.1.i) (lH m dn bs nm)=some i) :
  (lH m dn bs nm).eraseIdx i=lH m (more dn p.1) bs nm:=by
 rw[wP (D2 h) hi];unfold lH;rw[List.filter_map,List.filter_filter];have e:(nm.filter λq=>(((λe:ME=> !(e.1==(p.1.s,p.1.i))) ∘ λq:Nm=>((q.1.s,q.1.i),bif dn q.1 then some (bs q.1,cM (q.2.2.map b8))else none)) q)&&(!dn q.1||bH q.1 m))=nm.filter λq=> !more dn p.1 q.1||bH q.1 m:=by
  refine eY λq hq=>?_;simp only[jK,DW,more];cases hx:A7 q.1 p.1 with
  |false=>simp
  |true=>rw[jn.1 hx,hf];simp
 rw[e];refine cA λq hq=>?_;have hq:=(dH.1 hq).2;simp only[more]at hq⊢;cases hx:A7 q.1 p.1 with
 |false=>rw[dL]
 |true=>rw[hx,jn.1 hx,hf,kU]at hq;cases hq
theorem FM{dn:Lb->Bool}{nm:my}{th:Fq}{p:Nm}(hf:bH p.1 m=true):kE m (more dn p.1) nm th=kE m dn nm th:=by
 unfold kE;refine eY λq _=>?_;unfold wK;congr 2
 funext r
 unfold more;cases hx:A7 r.1 p.1 with
 |false=>rw[dL]
 |true=>rw[jn.1 hx,hf];simp
theorem J5{dn:Lb->Bool}{nm:my}{th:Fq}(h:nm.Pairwise λa b=>a.1≠b.1){p:Nm}(hp:p∈nm)(hf:bH p.1 m=false) :
  kE m (more dn p.1) nm th=(kE m dn nm th).filter λq=> !p.2.2.any λk=>b8 k==q.1:=by
 unfold kE;rw[List.filter_filter];refine eY λq _=>?_;rw[<-Bool.not_or,Bool.not_inj_iff];unfold wK;rw[j0,cT];constructor
 .intro h0;obtain⟨r,hr,h1⟩:=eO.1 h0;rw[aO,aO]at h1;obtain⟨⟨h1,h2⟩,h3⟩:=h1;unfold more at h1;rw[cT]at h1;rcases h1 with h1|h1
  .exact .inr (eO.2 ⟨r,hr,by rw[h1,h2,h3];rfl⟩)
  .have:=P2 h hr hp (jn.1 h1);subst this;exact .inl h3
 .rintro (h1|h0)
  .exact eO.2 ⟨p,hp,by unfold more;rw[z7,hf,h1,kU];rfl⟩
  .obtain⟨r,hr,h1⟩:=eO.1 h0;rw[aO,aO]at h1;obtain⟨⟨h1,h2⟩,h3⟩:=h1;exact eO.2 ⟨r,hr,by unfold more;rw[h1,h2,h3];rfl⟩
theorem uF{key:List UInt8}:∀{l:Fq}{i:Nat}{o:Ob},(l.Pairwise λa b=>a.1≠b.1)->bw key l=some (i,o)->l.eraseIdx i=l.filter λq=> !(key==q.1)
 |[],_,_,_,h=>by cases h
 |x::r,i,o,hn,h=>by
  have h':(if key=x.1 then some (0,x.2)else(bw key r).map λx=>(x.1+1,x.2))=some (i,o):=h;rw[eM]at hn;rw[qt]
  by_cases hk:key=x.1
  .rw[ζ hk,aD,dG]at h';obtain⟨rfl,_⟩:=h';have e:(r.filter λq=> !(key==q.1))=r:=jI.2 λq hq=>by
    have:=hn.1 q hq;rw[<-hk]at this;rw[beq_eq_false_iff_ne.2 this];rfl
   rw[e,hk];simp
  .rw[η hk]at h';cases hl:bw key r with
   |none=>rw[hl]at h';cases h'
   |some y=>
    obtain⟨j,o'⟩:=y;rw[hl]at h';simp only[bJ,aD,dG]at h';obtain⟨rfl,rfl⟩:=h';rw[beq_eq_false_iff_ne.2 hk,<-uF hn.2 hl];rfl
theorem zX{key:List UInt8}:∀{l:Fq},bw key l=none->(l.filter λq=> !(key==q.1))=l
 |[],_=>rfl
 |x::r,h=>by
  have h':(if key=x.1 then some (0,x.2)else(bw key r).map λx=>(x.1+1,x.2))=none:=h
  by_cases hk:key=x.1
  .rw[ζ hk]at h';cases h'
  .rw[η hk]at h';cases hl:bw key r with
   |some y=>rw[hl]at h';cases h'
   |none=>rw[qt,beq_eq_false_iff_ne.2 hk,zX hl];rfl
theorem KF{key:List UInt8}{l:Fq}(hn:l.Pairwise λa b=>a.1≠b.1)(c:List UInt8->Bool) :
  ((bw key (l.filter λq=> !c q.1)=none)->(l.filter λq=> !c q.1)=l.filter λq=> !(c q.1||key==q.1)) /\
  ∀i o,bw key (l.filter λq=> !c q.1)=some (i,o)->(l.filter λq=> !c q.1).eraseIdx i=l.filter λq=> !(c q.1||key==q.1):=by
 have e:(l.filter λq=> !(c q.1||key==q.1))=(l.filter λq=> !c q.1).filter λq=> !(key==q.1):=by
  rw[List.filter_filter];refine eY λq _=>?_;cases c q.1<;>cases key==q.1<;>rfl
 rw[e];exact⟨λh=>(zX h).symm,λi o h=>uF (hn.filter _) h⟩
def Jb(m:Lb)(bs:Lb->Option Nat)(nm:my):my:=(nm.filter λp=>bH p.1 m).map λp=>(p.1,bs p.1,p.2.2)
theorem J8{dn:Lb->Bool}{bs:Lb->Option Nat}{nm:my}(h:∀p∈nm,dn p.1=true):lH m dn bs nm=ik (Jb m bs nm):=by
 unfold lH ik Jb;rw[gP];have e:(nm.filter λp=> !dn p.1||bH p.1 m)=nm.filter λp=>bH p.1 m:=eY λq hq=>by rw[h q hq];rfl
 rw[e];exact cA λq hq=>by rw[h q (dH.1 hq).1];rfl
theorem Ja{bs:Lb->Option Nat}(nm:my):lH m (λ_=>false) bs nm=(ik nm).map λe=>(e.1,none):=by
 unfold lH ik;rw[gP];have e:(nm.filter λp=> !(λ_=>false) p.1||bH p.1 m)=nm:=jI.2 λ_ _=>rfl;exact κ _ e
theorem J6(nm:my)(th:Fq):kE m (λ_=>false) nm th=th:=
 jI.2 λq _=>by
  have:wK m (λ_=>false) nm q.1=false:=by unfold wK;induction nm<;>simp_all
  rw[this];rfl
end
open Go.RowKit Go.Shelf Go.Proofs
def KY(f m k e:Nat):Ren:=⟨λ|5=>f|7=>114|n=>n,λ|23=>m|25=>k|3=>e|4=>4|20=>20|n=>n,λn=>n⟩
theorem SP:SlLaysW.n5 Tryz.prog (KY 73 122 9 97) where
 mixed:=mixed
 f5:=⟨ "maps.Clone[map[string]lazaretto/store.Obj,string,lazaretto/store.Obj]",by decide,Tryz.func73.trans (κ some zx0)⟩
 f7:=Tryz.func114.trans (κ some zx0)
 t4:=Tryz.underlying4
 a4:=Tryz.isAgg4
 z4:=Tryz.sizeOf4
 v4:=Tryz.zeroValue4
 t20:=Tryz.underlying20
 a20:=Tryz.isAgg20
 z20:=Tryz.sizeOf20
 v20:=Tryz.zeroValue20
 t23:=Tryz.underlying122
 a23:=Tryz.isAgg122
 z23:=Tryz.sizeOf122
 v23:=Tryz.zeroValue122
theorem SQ:SlLaysW.n5 Tryz.prog (KY 74 123 39 87) where
 mixed:=mixed
 f5:=⟨ "maps.Clone[map[lazaretto/label.Label][]string,lazaretto/label.Label,[]string]",by decide,Tryz.func74.trans (κ some zx0)⟩
 f7:=Tryz.func114.trans (κ some zx0)
 t4:=Tryz.underlying4
 a4:=Tryz.isAgg4
 z4:=Tryz.sizeOf4
 v4:=Tryz.zeroValue4
 t20:=Tryz.underlying20
 a20:=Tryz.isAgg20
 z20:=Tryz.sizeOf20
 v20:=Tryz.zeroValue20
 t23:=Tryz.underlying123
 a23:=Tryz.isAgg123
 z23:=Tryz.sizeOf123
 v23:=Tryz.zeroValue123
theorem wI(w:World)(o:Obj):ga w (w.alloc o):=
 have h:Below w.heap.size w (w.alloc o):=(Below.refl _ w).alloc (aL _) _
 ⟨h.size,h.block,h.os,h.tape,h.output⟩
theorem Kg{G:Nat->Prop}{w:World}{a v:Value}(h:az G w [v] a (.mp 0)):a=v:=by
 cases h with|o h=>cases h with|c h=>cases h with|k h=>cases h with|mp _ r h=>exact(af h).symm
theorem N5(es:List (D×Bool×List D)):Z1 73 [.mp 0] [.dm es] λout h=>out=.ret (.mp 1)/\h=[.dm es,.dm es]:=by
 refine .inl ⟨by kernel_rfl,λG w ρ vs hR hl hv=>?_⟩
 match ρ,hR.len with
 |[v0],_=>
 match vs,hl with
 |[a0],_=>
 have ha:=Kg (hv 0 _ rfl);subst ha;obtain⟨r,arr,clk,rfl,h1,h2,h3,h4⟩:=hR.rep 0 a0 _ rfl rfl;refine Calls.mono (AnyW.maps_Clone SP r arr clk w h1) ?_
 rintro e w' ⟨rfl,rfl⟩
 have hg:=wI w (.map arr clk);have hid:∀x∈fC es,nH x.1=[]/\nH x.2=[]:=λx hx=>by
  have:=xY es;simp only[jL,cK,List.append_eq_nil_iff]at this;exact this x hx
 have hO:=(Ok.refl hR).push hg (.map (some w.heap.size)) (.dm es) (λb hb=>by cases hb;exact aL _) ⟨_,arr,clk,rfl,(MapKept.heap_alloc w _).1,h2,h3,λi e x he hx=>by
  have:=h4 i e x he hx;have hi:=hid x (aG hx);exact⟨this.1.mono (λ_ h=>h) (λb hb=>hg.iZ b (hR.gl b hb)) (λj hj=>by rw[hi.1]at hj;cases hj),this.2.mono (λ_ h=>h) (λb hb=>hg.iZ b (hR.gl b hb)) (λj hj=>by rw[hi.2]at hj;cases hj)⟩⟩
 exact⟨G,_,_,.ret (.mp 1),hO,⟨_,rfl,.k (.mp 1 _ rfl)⟩,rfl,rfl⟩
def bare(es:List ME):List ME:=es.map λe=>(e.1,none)
theorem N4(es:List ME):Z1 74 [.mp 0] [.ms 1 es none none] λout h=>out=.ret (.mp 1)/\h=[.ms 1 es none none,.ms 1 (bare es) none none]:=by
 refine .inl ⟨by kernel_rfl,λG w ρ vs hR hl hv=>?_⟩
 match ρ,hR.len with
 |[v0],_=>
 match vs,hl with
 |[a0],_=>
 have ha:=Kg (hv 0 _ rfl);subst ha;obtain⟨⟨r,arr,clk,rfl,h1,h2,h3,h4,h5,h6⟩,_⟩:=hR.rep 0 a0 _ rfl rfl;refine Calls.mono (AnyW.maps_Clone SQ r arr clk w h1) ?_
 rintro e w' ⟨rfl,rfl⟩
 have hg:=wI w (.map arr clk);have hgh:Bt (bare es)=[]:=by
  unfold Bt bare;rw[List.filterMap_map];exact List.filterMap_eq_nil_iff.2 λx _=>rfl
 have hone:Hq (bare es):=λi j k k' rs rs' b hi hj=>by
  unfold bare at hi;rw[aB,aJ]at hi;obtain⟨_,_,hi⟩:=hi;cases hi
 have hgm:gh (.ms 1 (bare es) none none)=[]:=by simp[gh,hgh];rfl
 have hO:=(Ok.refl hR).PN hg (.map (some w.heap.size)) (.ms 1 (bare es) none none) (λb hb=>by
  rcases bT.1 hb with h|h
  .cases h;exact aL _
  .rw[hgm]at h;cases h) ⟨⟨_,arr,clk,rfl,(MapKept.heap_alloc w _).1,by rw[h2];simp[bare],h3,⟨hone,by rw[hgh];simp⟩,λi e x he hx=>by
   unfold bare at hx;rw[aB,aJ]at hx;obtain⟨y,hy,rfl⟩:=hx;exact⟨(h5 i e y he hy).1.mono (λ_ h=>h) (λb hb=>hg.iZ b (hR.gl b hb)) (λj hj=>by simp[vY,nH,pQ,lN]at hj),λb rs h=>by cases h⟩,λi v h=>(by cases h),λi v e h=>by cases h⟩,trivial⟩
 exact⟨G,_,_,.ret (.mp 1),hO,⟨_,rfl,.k (.mp 1 _ rfl)⟩,rfl,rfl⟩
end Go.Proofs.YtmigecldjbgneaaGreatDoor