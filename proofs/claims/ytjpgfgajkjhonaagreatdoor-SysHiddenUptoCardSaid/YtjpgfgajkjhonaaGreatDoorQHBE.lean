/- Lemmas. Conditions: none. -/
import Derived.Test.YtjpgfgajkjhonaaGreatDoorQHBD
set_option maxHeartbeats 4000000
namespace Go.Proofs.YtjpgfgajkjhonaaGreatDoor
open Go.Vx
set_option maxRecDepth 100000
def iE (s:b8) (kp:List Nat) (o:Ob) (b:Option Nat):b8:=bif kf o.l&&(bI (cR kp) s.th).isNone then qP s kp o b else s
structure WX (s:b8) (kp:List Nat) (o:Ob):Prop where
  n:gS kp
  gs:lY s
  l:cI o.l
  k3:3≤o.k
  k7:o.k≤7
  q:o.va.q.length<100000000
theorem Bz {K:KT} (s:b8) (kp:List Nat) (o:Ob) (h:WX s kp o) (hk:∀b n,K (.ret (.d (.int .i64 n))) (j6 (iE s kp o b))):Z1 14 [.p 0 0,.d (.str (cR kp)),fz o] (j6 s) K:=by
 unfold iE at hk;cases hl:kf o.l with
 |true=>
  rw [hl] at hk;cases hf:bI (cR kp) s.th with
  |none=>
   rw [hf] at hk;exact KN s kp o h.n h.gs h.l h.k3 h.k7 hl h.q hf λb=>hk b 0
  |some p=>
   rw [hf] at hk;exact F3 s kp o p.2 p.1 h.n h.l h.k3 h.k7 hl hf (hk none 12)
 |false=>
  rw [hl] at hk;exact Df s kp o h.n h.l (.inr hl) (hk none 1)
theorem Gl {K:KT} (c:Ca) (s:b8) (v:Va) (e:Fx) (hl:c.t.c.st.length<1000000000) (hk:K (.ret (.tu [])) (Mn (mA c v) e false s)):Z1 241 [.p 0 0,jl v] (Mn c e false s) K:=by
 have h1:=tI c.t.c v hl;cases e
 all_goals
  refine sh0 Tryz.f241 ?_
  exact zh1 hk h1
theorem Dk {K:KT} (c:Ca) (s:b8) (kp:List Nat) (o:Ob) (e:Fx) (h:WX s kp o) (hst:c.t.c.st.length<1000000000) (hk:∀b,K (.ret (.tu [])) (Mn (ua c (cR kp) o) e false (iE s kp o b))) :
  Z1 252 [.p 0 0,.d (.str (cR kp)),fz o] (Mn c e false s) K:=by
 have h1:=λ{K:KT}=>Bz (K:=K) s kp o h;have h2:=λ{K:KT} (b:Option Nat)=>Gl (K:=K) c (iE s kp o b) ⟨o.k,0,cR kp,o.l.s,o.l.i⟩ e hst;cases e
 all_goals
  refine sh0 Tryz.f252 ?_
  repeat' ((conv=>whnf);first | exact zf | refine zm ?_ | refine zr0 ?_ | refine (h1 (λb n=>?_)) | refine (h2 _ ?_) | intro _)
  exact hk _
structure EW (c:Ca) (s:b8) (o:Ob):Prop where
  n:N6 c.t
  g:jX c.t.g
  l:cI o.l
  gs:lY s
  k3:3≤o.k
  k7:o.k≤7
  q:o.va.q.length<100000000
  st:c.t.c.st.length<1000000000
def j8 (c:Ca) (s:b8) (o:Ob):OR:=
 bif bV c.t.g o.l==0 then (bif decide (c.t.ro<1) then .ex (-5) c s else .ok .no λb=>(ua { c with t:=kA c.t } (cR (lI c.t)) o,iE s (lI c.t) o b)) else .ex (bV c.t.g o.l) c s
theorem px {K:KT} (c:Ca) (s:b8) (o:Ob) (h:EW c s o) (hk:(j8 c s o).K K):Z1 237 [.p 0 0,fz o] (e7 c s) K:=by
 unfold j8 at hk;have h1:=fY c.t.g o.l h.g h.l
 by_cases hw:bV c.t.g o.l=0
 ·rw [hw] at hk h1
  by_cases hr:c.t.ro<1
  ·rw [φ hr] at hk
   replace hk:K (.fm (oI (-5))) (e7 c s):=hk
   have h2:=λ{K:KT}=>Cl (K:=K) c s hr;refine sh0 Tryz.f237 ?_
   repeat' ((conv=>whnf);first | exact zf | refine zm ?_ | refine zc h1 ?_ | intro _)
   conv=>whnf
   refine hN ?_
   repeat' ((conv=>whnf);first | exact zf | refine (c_ (xZ ?_)) | refine zm ?_ | refine zr0 ?_ | refine (h2 ?_) | refine And.intro ?_ ?_ | intro _)
   all_goals exact hk
  ·rw [τ hr] at hk
   replace hk:∀b,K (.ret (.tu [])) (e7 (ua { c with t:=kA c.t } (cR (lI c.t)) o) (iE s (lI c.t) o b)):=hk
   have hm:c.t.ma=(c.t.ma.toNat:Nat):=by have:=h.n.m0;omega
   have h2:=λ{K:KT}=>xC (K:=K) c s (jt c.t.pa 0) c.t.ma.toNat h.n.pa hm h.n.ne h.n.le h.n.sm (by have:=h.n.m1;omega) (by omega) h.n.r2;have h4:=λ{K:KT}=>Dk (K:=K) { c with t:=kA c.t } s (lI c.t) o .no ⟨h.n.nP,h.gs,h.l,h.k3,h.k7,h.q⟩ h.st;refine sh0 Tryz.f237 ?_
   repeat' ((conv=>whnf);first | exact zf | refine zm ?_ | refine zc h1 ?_ | intro _)
   conv=>whnf
   refine hN ?_
   repeat' ((conv=>whnf);first | exact zf | refine (c_ (c_ ?_)) | refine zm ?_ | refine zr0 ?_ | refine (h2 ?_) | refine (h4 (λb=>?_)) | refine And.intro ?_ ?_ | intro _)
   all_goals exact hk _
 ·have hb:(bV c.t.g o.l==0)=false:=by simp [hw]
  rw [hb] at hk
  replace hk:K (.fm (oI (bV c.t.g o.l))) (e7 c s):=hk
  refine sh0 Tryz.f237 ?_
  repeat' ((conv=>whnf);first | exact zf | refine zm ?_ | refine zc h1 ?_ | refine (kB _ hw ?_) | intro _)
  exact hk
def zP (c:Ca) (a:Va) (l:Lb) (ro:Int):Th:=yj (cR (lI c.t)) ⟨c.t.g.cur,fA l⟩ (gF c00 c.o.a (gZ c.im c.o.a) [a] c.ma) ro
def zQ (c:Ca) (ro:Int):Ca:={ c with t:={ kA c.t with ro:=c.t.ro - 1 - ro } }
def kJ (c:Ca) (l:Lb) (ro:Int):Int:=bif bV c.t.g l==0 then (bif decide (ro<0)||(decide (999<ro)||decide (c.t.ro≤ro)) then -5 else 0) else bV c.t.g l
def DI (c:Ca) (s:b8):OR:=bif cD [0,1,2] c.ar then
  (bif kJ c (bE (c.ar[2]?.getD de)) (c.ar[1]?.getD de).n == 0 then .ok (.fork (zP c (c.ar[0]?.getD de) (bE (c.ar[2]?.getD de)) (c.ar[1]?.getD de).n)) fun b => (ua (zQ c (c.ar[1]?.getD de).n) (cR (lI c.t)) { fT with k := 6, l := bE (c.ar[2]?.getD de) }, iE s (lI c.t) { fT with k := 6, l := bE (c.ar[2]?.getD de) } b)
   else .ex (kJ c (bE (c.ar[2]?.getD de)) (c.ar[1]?.getD de).n) c s) else .ex (-1) c s
structure VU (c:Ca) (s:b8) (l:Lb):Prop where
  n:N6 c.t
  g:jX c.t.g
  l:cI l
  gs:lY s
  st:c.t.c.st.length<1000000000
theorem MQ {K:KT} (c:Ca) (s:b8) (a r m:Va) (har:c.ar = [a,r,m]) (h:VU c s (bE m)) (hk:(DI c s).K K):Z1 182 [.p 0 0] (e7 c s) K:=by
  obtain ⟨im,now,t,tr,o,ar,ma⟩:=c
  subst har
  have hw:=fY t.g (bE m) h.g h.l
  unfold DI at hk
  cases hb:cD [0,1,2] [a,r,m] with
  |true=>
    have h1:=λ{K:KT}=>dr (K:=K) ⟨im,now,t,tr,o,[a,r,m],ma⟩ s [0,1,2] (aR _) hb
    dsimp only at hk
    rw [hb,δ] at hk
    by_cases h0:bV t.g (bE m)=0
    · rw [h0] at hw
      have e0:(bV t.g (bE m)==0)=true:=by simp [h0]
      by_cases hr:r.n<0∨999<r.n∨t.ro≤r.n
      · have e1:kJ ⟨im,now,t,tr,o,[a,r,m],ma⟩ (bE m) r.n = -5:=by
          unfold kJ
          dsimp only
          rw [e0,δ]
          have:(decide (r.n<0)||(decide (999<r.n)||decide (t.ro≤r.n)))=true:=by simpa using hr
          rw [this,δ]
        replace hk:OR.K (bif kJ ⟨im,now,t,tr,o,[a,r,m],ma⟩ (bE m) r.n==0 then .ok (.fork (zP ⟨im,now,t,tr,o,[a,r,m],ma⟩ a (bE m) r.n)) λb=>(ua (zQ ⟨im,now,t,tr,o,[a,r,m],ma⟩ r.n) (cR (lI t)) { fT with k:=6,l:=bE m },iE s (lI t) { fT with k:=6,l:=bE m } b) else .ex (kJ ⟨im,now,t,tr,o,[a,r,m],ma⟩ (bE m) r.n) ⟨im,now,t,tr,o,[a,r,m],ma⟩ s) K:=hk
        rw [e1] at hk
        replace hk:K (.fm (oI (-5))) (e7 ⟨im,now,t,tr,o,[a,r,m],ma⟩ s):=hk
        have hr':r.n<0∨(¬r.n<0∧999<r.n)∨(¬r.n<0∧¬999<r.n∧t.ro≤r.n):=by omega
        clear hr
        rcases hr' with hr | hr | hr
        all_goals
          refine sh0 Tryz.f182 ?_
          repeat' ((conv=>whnf);first | exact zf | refine zm ?_ | refine zr0 ?_ | refine (h1 ?_) | refine ⟨_,⟨by omega,rfl,rfl⟩,?_⟩ | refine zc hw ?_ | refine (hN ?_) | refine (jr _ ?_) | refine zt ?_ | refine zu ?_ | intro _)
          all_goals exact hk
      · have hr0:¬r.n<0∧¬999<r.n∧¬t.ro≤r.n:=by omega
        clear hr
        have e1:kJ ⟨im,now,t,tr,o,[a,r,m],ma⟩ (bE m) r.n=0:=by
          unfold kJ
          dsimp only
          rw [e0,δ]
          have:(decide (r.n<0)||(decide (999<r.n)||decide (t.ro≤r.n)))=false:=by simp;omega
          rw [this,ε]
        replace hk:OR.K (bif kJ ⟨im,now,t,tr,o,[a,r,m],ma⟩ (bE m) r.n==0 then .ok (.fork (zP ⟨im,now,t,tr,o,[a,r,m],ma⟩ a (bE m) r.n)) λb=>(ua (zQ ⟨im,now,t,tr,o,[a,r,m],ma⟩ r.n) (cR (lI t)) { fT with k:=6,l:=bE m },iE s (lI t) { fT with k:=6,l:=bE m } b) else .ex (kJ ⟨im,now,t,tr,o,[a,r,m],ma⟩ (bE m) r.n) ⟨im,now,t,tr,o,[a,r,m],ma⟩ s) K:=hk
        rw [e1] at hk
        have hm:t.ma=(t.ma.toNat:Nat):=by have:=h.n.m0;dsimp only at this;omega
        have hm1:t.ma.toNat<100:=by have:=h.n.m1;have:=h.n.m0;dsimp only at *;omega
        have hr2:=h.n.r2
        dsimp only at hr2
        have h2:=λ{K:KT}=>xC (K:=K) ⟨im,now,t,tr,o,[a,r,m],ma⟩ s (jt t.pa 0) t.ma.toNat h.n.pa hm h.n.ne h.n.le h.n.sm hm1 (by dsimp only;omega) hr2
        have h4:=wM (K:=λout hh=>out = .ret (.d (.int .i64 (gZ im o.a)))∧hh=e7 ⟨im,now,kA t,tr,o,[a,r,m],ma⟩ s) ⟨im,now,kA t,tr,o,[a,r,m],ma⟩ s o.a ⟨rfl,rfl⟩
        have h5:Z0 20 [gp c00,.d (.int .i64 o.a),.d (.int .i64 (gZ im o.a)),.d (.sl 5 ([a].map cK)),.d (.int .u8 ma)] (.tu [gp (gF c00 o.a (gZ im o.a) [a] ma),.d (.bool true)]):=kj c00 o.a (gZ im o.a) [a] ma (by decide) (show 1<_ by decide)
        have h6:=j_ (bE m) h.l
        have h7:=HY (cR (lI t)) ⟨t.g.cur,fA (bE m)⟩ (gF c00 o.a (gZ im o.a) [a] ma) r.n
        have h8:=λ{K:KT}=>Dk (K:=K) (zQ ⟨im,now,t,tr,o,[a,r,m],ma⟩ r.n) s (lI t) { fT with k:=6,l:=bE m } (.fork (zP ⟨im,now,t,tr,o,[a,r,m],ma⟩ a (bE m) r.n)) ⟨h.n.nP,h.gs,h.l,(show (3:Int)≤6 by decide),(show (6:Int)≤7 by decide),(show (0:Nat)<_ by decide)⟩ h.st
        have hin:e8 .i64 (t.ro - 1 - r.n):=by unfold e8;omega
        refine sh0 Tryz.f182 ?_
        repeat' ((conv=>whnf);first | exact zf | refine (bp (cC ?_):eZ _ (eZ (ky _ _ _ _ 251 _ _ _ _ _ _ _) _)) | refine zm ?_ | refine zr0 ?_ | refine (.inl ⟨hin,?_⟩) | refine (h1 ?_) | refine ⟨_,⟨by omega,rfl,rfl⟩,?_⟩ | refine zc hw ?_ | refine (hN ?_) | refine (h2 ?_) | refine ⟨_,_,h4,?_⟩ | refine zc h5 ?_ | refine zc h6 ?_ | refine zc h7 ?_ | refine (h8 (λb=>?_)) | refine zt ?_ | refine zu ?_ | intro _)
        conv=>whnf
        exact hk _
    · have e0:(bV t.g (bE m)==0)=false:=by simp [h0]
      have e1:kJ ⟨im,now,t,tr,o,[a,r,m],ma⟩ (bE m) r.n=bV t.g (bE m):=by
        unfold kJ
        dsimp only
        rw [e0,ε]
      replace hk:OR.K (bif kJ ⟨im,now,t,tr,o,[a,r,m],ma⟩ (bE m) r.n==0 then .ok (.fork (zP ⟨im,now,t,tr,o,[a,r,m],ma⟩ a (bE m) r.n)) λb=>(ua (zQ ⟨im,now,t,tr,o,[a,r,m],ma⟩ r.n) (cR (lI t)) { fT with k:=6,l:=bE m },iE s (lI t) { fT with k:=6,l:=bE m } b) else .ex (kJ ⟨im,now,t,tr,o,[a,r,m],ma⟩ (bE m) r.n) ⟨im,now,t,tr,o,[a,r,m],ma⟩ s) K:=hk
      rw [e1,e0,ε] at hk
      refine sh0 Tryz.f182 ?_
      repeat' ((conv=>whnf);first | exact zf | refine zm ?_ | refine zr0 ?_ | refine (h1 ?_) | refine ⟨_,⟨by omega,rfl,rfl⟩,?_⟩ | refine zc hw ?_ | refine (kB _ h0 ?_) | refine zt ?_ | refine zu ?_ | intro _)
      exact hk
  |false=>
    have h1:=λ{K:KT}=>dt (K:=K) ⟨im,now,t,tr,o,[a,r,m],ma⟩ s [0,1,2] (aR _) hb
    dsimp only at hk
    rw [hb,ε] at hk
    refine sh0 Tryz.f182 ?_
    repeat' ((conv=>whnf);first | exact zf | refine zm ?_ | refine zr0 ?_ | refine (h1 ?_) | intro _)
    exact hk
def gn (c:Ca) (l:Lb):Ca:={ c with t:={ c.t with g:=uZ c.t.g l } }
def q9 (c:Ca) (s:b8):OR:=bif cD [5] c.ar then
  (bif bV c.t.g (bE (c.ar[0]?.getD de)) == 0 then (match dN s (c.ar[0]?.getD de) with
    |none=>.ok .no λ_=>(kq (gn c (bE (c.ar[0]?.getD de))) (c.ar[0]?.getD de).nm,s)
    |some (i,o)=>bif (fI o.va c.t.id).2.2.1 then .ok (mh (fI o.va c.t.id).2.2.2 []) λ_=>(mA (gn c (bE (c.ar[0]?.getD de))) (fI o.va c.t.id).2.1,jx s i (c.ar[0]?.getD de).nm { o with va:=(fI o.va c.t.id).1 })
      else .ok .no λ_=>(kq (gn c (bE (c.ar[0]?.getD de))) (c.ar[0]?.getD de).nm,jx s i (c.ar[0]?.getD de).nm { o with va:=(fI o.va c.t.id).1 }))
   else .ex (bV c.t.g (bE (c.ar[0]?.getD de))) c s) else .ex (-1) c s
def vX (c:Ca) (s:b8):OR:=bif cD [5,0] c.ar then
  (bif bV c.t.g (bE (c.ar[0]?.getD de)) == 0 then (match dN s (c.ar[0]?.getD de) with
    |none=>.ok .no λ_=>(kq (gn c (bE (c.ar[0]?.getD de))) (c.ar[0]?.getD de).nm,s)
    |some (i,o)=>bif (jy o.va c.t.id (c.ar[1]?.getD de)).2.1 then .ok (mh (jy o.va c.t.id (c.ar[1]?.getD de)).2.2 [c.ar[1]?.getD de]) λ_=>(gn c (bE (c.ar[0]?.getD de)),jx s i (c.ar[0]?.getD de).nm { o with va:=(jy o.va c.t.id (c.ar[1]?.getD de)).1 })
      else .ok .no λ_=>(kq (gn c (bE (c.ar[0]?.getD de))) (c.ar[0]?.getD de).nm,jx s i (c.ar[0]?.getD de).nm { o with va:=(jy o.va c.t.id (c.ar[1]?.getD de)).1 }))
   else .ex (bV c.t.g (bE (c.ar[0]?.getD de))) c s) else .ex (-1) c s
theorem wB {q:List Wt} {i:Nat}:(rX q i).length≤q.length:=by
 unfold rX;rw [aL,af,cE];omega
theorem vO {x:Vr} {id:List UInt8}:(fI x id).1.q.length≤x.q.length+1:=by
 unfold fI;cases x.full with
 |false=>simp
 |true=>
  cases x.q[sY true x.q]? with
  |none=>exact cP _
  |some w=>exact dI wB
theorem y6 {x:Vr} {id:List UInt8} {v:Va}:(jy x id v).1.q.length≤x.q.length+1:=by
 unfold jy;cases x.full with
 |true=>simp
 |false=>
  cases x.q[sY false x.q]? with
  |none=>exact cP _
  |some w=>exact dI wB
def J1 (s:b8) (nm:List UInt8):Prop:=∀i o,bI nm s.th=some (i,o)→o.va.q.length<90000000
theorem J1.sm {s:b8} {nm:List UInt8} (h:J1 s nm):wY s nm:=λi o ho=>by have:=h i o ho;omega
theorem A2 {K:KT} (c:Ca) (s:b8) (h:Va) (har:c.ar = [h]) (hs:jX c.t.g) (hl:cI (bE h)) (hst:c.t.c.st.length<1000000000) (hqa:J1 s h.nm) (hk:(q9 c s).K K):Z1 180 [.p 0 0] (e7 c s) K:=by
 obtain ⟨im,now,t,tr,op,ar,ma⟩:=c;subst har;unfold q9 at hk;cases hb:cD [5] [h] with
 |true=>
  have h1:=λ{K:KT}=>dr (K:=K) ⟨im,now,t,tr,op,[h],ma⟩ s [5] (aR _) hb;dsimp only at hk;rw [hb,δ] at hk
  by_cases hw:bV t.g (bE h)=0
  ·have h2:=λ{K:KT}=>D0 (K:=K) ⟨im,now,t,tr,op,[h],ma⟩ s (bE h) hs hl hw;have h4:=λ{K:KT}=>jw (K:=K) (gn ⟨im,now,t,tr,op,[h],ma⟩ (bE h)) s h hqa.sm
   replace hk:OR.K (match dN s h with
    |none=>.ok .no λ_=>(kq (gn ⟨im,now,t,tr,op,[h],ma⟩ (bE h)) h.nm,s)
    |some (i,o)=>bif (fI o.va t.id).2.2.1 then .ok (mh (fI o.va t.id).2.2.2 []) λ_=>(mA (gn ⟨im,now,t,tr,op,[h],ma⟩ (bE h)) (fI o.va t.id).2.1,jx s i h.nm { o with va:=(fI o.va t.id).1 })
     else .ok .no λ_=>(kq (gn ⟨im,now,t,tr,op,[h],ma⟩ (bE h)) h.nm,jx s i h.nm { o with va:=(fI o.va t.id).1 })) K:=by
    have e0:(bV t.g (bE h)==0)=true:=by simp [hw]
    have:=hk;rw [show (bV t.g (bE ([h][0]?.getD de))==0)=true from e0,δ] at this;exact this
   unfold lp at h4;cases ht:dN s h with
   |none=>
    rw [ht] at h4 hk;have h5:=λ{K:KT}=>mj (K:=K) (gn ⟨im,now,t,tr,op,[h],ma⟩ (bE h)) s h.nm;refine sh0 Tryz.f180 ?_
    repeat' ((conv=>whnf);first | exact zf | refine zm ?_ | refine zr0 ?_ | refine (h1 ?_) | refine (h2 ?_) | refine (h4 ?_) | refine (h5 ?_) | refine ⟨_,⟨by omega,rfl,rfl⟩,?_⟩ | refine zt ?_ | refine zu ?_ | intro _)
    exact hk none
   |some p=>
    obtain ⟨i,o⟩:=p;rw [ht] at h4 hk;dsimp only at hk;have hlk:=my ht;have hq:=hqa i o hlk;have h5:=Ks o.va t.id (by omega);have hql:=vO (x:=o.va) (id:=t.id);generalize fI o.va t.id=r at h5 hql hk;obtain ⟨y,v,b,w⟩:=r;have h6:=λ{K:KT}=>ly (K:=K) s h.nm i { o with va:=y } o hlk rfl rfl (by dsimp only at hql ⊢;omega);cases b with
    |true=>
     have h7:=λ{K:KT}=>je (K:=K) (gn ⟨im,now,t,tr,op,[h],ma⟩ (bE h)) (jx s i h.nm { o with va:=y }) v hst;have h8:=λ{K:KT}=>CI (K:=K) (mA (gn ⟨im,now,t,tr,op,[h],ma⟩ (bE h)) v) (jx s i h.nm { o with va:=y }) w [];unfold mh at h8 hk;cases he:w == []
     all_goals
      rw [he] at h8 hk;refine sh0 Tryz.f180 ?_
      repeat' ((conv=>whnf);first | exact zf | refine zm ?_ | refine zr0 ?_ | refine (h1 ?_) | refine (h2 ?_) | refine (h4 ?_) | refine zc h5 ?_ | refine (h6 ?_) | refine (h7 ?_) | refine (h8 ?_) | refine ⟨_,⟨by omega,rfl,rfl⟩,?_⟩ | refine zt ?_ | refine zu ?_ | intro _)
      exact hk none
    |false=>
     have h7:=λ{K:KT}=>mj (K:=K) (gn ⟨im,now,t,tr,op,[h],ma⟩ (bE h)) (jx s i h.nm { o with va:=y }) h.nm;refine sh0 Tryz.f180 ?_
     repeat' ((conv=>whnf);first | exact zf | refine zm ?_ | refine zr0 ?_ | refine (h1 ?_) | refine (h2 ?_) | refine (h4 ?_) | refine zc h5 ?_ | refine (h6 ?_) | refine (h7 ?_) | refine ⟨_,⟨by omega,rfl,rfl⟩,?_⟩ | refine zt ?_ | refine zu ?_ | intro _)
     exact hk none
  ·have h2:=λ{K:KT}=>D1 (K:=K) ⟨im,now,t,tr,op,[h],ma⟩ s (bE h) hs hl hw;have e0:(bV t.g (bE h)==0)=false:=by simp [hw]
   rw [show (bV t.g (bE ([h][0]?.getD de))==0)=false from e0,ε] at hk;refine sh0 Tryz.f180 ?_
   repeat' ((conv=>whnf);first | exact zf | refine zm ?_ | refine zr0 ?_ | refine (h1 ?_) | refine (h2 ?_) | refine ⟨_,⟨by omega,rfl,rfl⟩,?_⟩ | refine zt ?_ | refine zu ?_ | intro _)
   exact hk
 |false=>
  have h1:=λ{K:KT}=>dt (K:=K) ⟨im,now,t,tr,op,[h],ma⟩ s [5] (aR _) hb;dsimp only at hk;rw [hb,ε] at hk;refine sh0 Tryz.f180 ?_
  repeat' ((conv=>whnf);first | exact zf | refine zm ?_ | refine zr0 ?_ | refine (h1 ?_) | intro _)
  exact hk
theorem ES {K:KT} (c:Ca) (s:b8) (h v:Va) (har:c.ar = [h,v]) (hs:jX c.t.g) (hl:cI (bE h)) (hqa:J1 s h.nm) (hk:(vX c s).K K):Z1 181 [.p 0 0] (e7 c s) K:=by
 obtain ⟨im,now,t,tr,op,ar,ma⟩:=c;subst har;unfold vX at hk;cases hb:cD [5,0] [h,v] with
 |true=>
  have h1:=λ{K:KT}=>dr (K:=K) ⟨im,now,t,tr,op,[h,v],ma⟩ s [5,0] (aR _) hb;dsimp only at hk;rw [hb,δ] at hk
  by_cases hw:bV t.g (bE h)=0
  ·have h2:=λ{K:KT}=>D0 (K:=K) ⟨im,now,t,tr,op,[h,v],ma⟩ s (bE h) hs hl hw;have h4:=λ{K:KT}=>jw (K:=K) (gn ⟨im,now,t,tr,op,[h,v],ma⟩ (bE h)) s h hqa.sm
   replace hk:OR.K (match dN s h with
    |none=>.ok .no λ_=>(kq (gn ⟨im,now,t,tr,op,[h,v],ma⟩ (bE h)) h.nm,s)
    |some (i,o)=>bif (jy o.va t.id v).2.1 then .ok (mh (jy o.va t.id v).2.2 [v]) λ_=>(gn ⟨im,now,t,tr,op,[h,v],ma⟩ (bE h),jx s i h.nm { o with va:=(jy o.va t.id v).1 })
     else .ok .no λ_=>(kq (gn ⟨im,now,t,tr,op,[h,v],ma⟩ (bE h)) h.nm,jx s i h.nm { o with va:=(jy o.va t.id v).1 })) K:=by
    have e0:(bV t.g (bE h)==0)=true:=by simp [hw]
    have:=hk;rw [show (bV t.g (bE ([h,v][0]?.getD de))==0)=true from e0,δ] at this;exact this
   unfold lp at h4;cases ht:dN s h with
   |none=>
    rw [ht] at h4 hk;have h5:=λ{K:KT}=>mj (K:=K) (gn ⟨im,now,t,tr,op,[h,v],ma⟩ (bE h)) s h.nm;refine sh0 Tryz.f181 ?_
    repeat' ((conv=>whnf);first | exact zf | refine zm ?_ | refine zr0 ?_ | refine (h1 ?_) | refine (h2 ?_) | refine (h4 ?_) | refine (h5 ?_) | refine ⟨_,⟨by omega,rfl,rfl⟩,?_⟩ | refine zt ?_ | refine zu ?_ | intro _)
    exact hk none
   |some p=>
    obtain ⟨i,o⟩:=p;rw [ht] at h4 hk;dsimp only at hk;have hlk:=my ht;have hq:=hqa i o hlk;have h5:=Pw o.va t.id v (by omega);have hql:=y6 (x:=o.va) (id:=t.id) (v:=v);generalize jy o.va t.id v=r at h5 hql hk;obtain ⟨y,b,w⟩:=r;have h6:=λ{K:KT}=>ly (K:=K) s h.nm i { o with va:=y } o hlk rfl rfl (by dsimp only at hql ⊢;omega);cases b with
    |true=>
     have h8:=λ{K:KT}=>CI (K:=K) (gn ⟨im,now,t,tr,op,[h,v],ma⟩ (bE h)) (jx s i h.nm { o with va:=y }) w [v];unfold mh at h8 hk;cases he:w == []
     all_goals
      rw [he] at h8 hk;refine sh0 Tryz.f181 ?_
      repeat' ((conv=>whnf);first | exact zf | refine zm ?_ | refine zr0 ?_ | refine (h1 ?_) | refine (h2 ?_) | refine (h4 ?_) | refine zc h5 ?_ | refine (h6 ?_) | refine (h8 ?_) | refine ⟨_,⟨by omega,rfl,rfl⟩,?_⟩ | refine zt ?_ | refine zu ?_ | intro _)
      exact hk none
    |false=>
     have h7:=λ{K:KT}=>mj (K:=K) (gn ⟨im,now,t,tr,op,[h,v],ma⟩ (bE h)) (jx s i h.nm { o with va:=y }) h.nm;refine sh0 Tryz.f181 ?_
     repeat' ((conv=>whnf);first | exact zf | refine zm ?_ | refine zr0 ?_ | refine (h1 ?_) | refine (h2 ?_) | refine (h4 ?_) | refine zc h5 ?_ | refine (h6 ?_) | refine (h7 ?_) | refine ⟨_,⟨by omega,rfl,rfl⟩,?_⟩ | refine zt ?_ | refine zu ?_ | intro _)
     exact hk none
  ·have h2:=λ{K:KT}=>D1 (K:=K) ⟨im,now,t,tr,op,[h,v],ma⟩ s (bE h) hs hl hw;have e0:(bV t.g (bE h)==0)=false:=by simp [hw]
   rw [show (bV t.g (bE ([h,v][0]?.getD de))==0)=false from e0,ε] at hk;refine sh0 Tryz.f181 ?_
   repeat' ((conv=>whnf);first | exact zf | refine zm ?_ | refine zr0 ?_ | refine (h1 ?_) | refine (h2 ?_) | refine ⟨_,⟨by omega,rfl,rfl⟩,?_⟩ | refine zt ?_ | refine zu ?_ | intro _)
   exact hk
 |false=>
  have h1:=λ{K:KT}=>dt (K:=K) ⟨im,now,t,tr,op,[h,v],ma⟩ s [5,0] (aR _) hb;dsimp only at hk;rw [hb,ε] at hk;refine sh0 Tryz.f181 ?_
  repeat' ((conv=>whnf);first | exact zf | refine zm ?_ | refine zr0 ?_ | refine (h1 ?_) | intro _)
  exact hk
def tV (k:Int) (c:Ca) (s:b8):OR:=bif cD [0,2] c.ar then j8 c s { fT with k:=k,l:=bE (c.ar[1]?.getD de),v:=c.ar[0]?.getD de } else .ex (-1) c s
theorem BH {K:KT} (c:Ca) (s:b8) (a m:Va) (har:c.ar = [a,m]) (h:EW c s { fT with k:=3,l:=bE m,v:=a }) (hk:(tV 3 c s).K K):Z1 174 [.p 0 0] (e7 c s) K:=by
 obtain ⟨im,now,t,tr,o,ar,ma⟩:=c;subst har;have h2:=λ{K:KT}=>px (K:=K) ⟨im,now,t,tr,o,[a,m],ma⟩ s _ h;unfold tV at hk;cases hb:cD [0,2] [a,m] with
 |true=>
  have h1:=λ{K:KT}=>dr (K:=K) ⟨im,now,t,tr,o,[a,m],ma⟩ s [0,2] (aR _) hb;dsimp only at hk;rw [hb,δ] at hk
  replace hk:(j8 ⟨im,now,t,tr,o,[a,m],ma⟩ s { fT with k:=3,l:=bE m,v:=a }).K K:=hk
  generalize hR:j8 ⟨im,now,t,tr,o,[a,m],ma⟩ s { fT with k:=3,l:=bE m,v:=a }=R at h2 hk;cases R with
  |ok e f=>
   cases e
   all_goals
    refine sh0 Tryz.f174 ?_
    repeat' ((conv=>whnf);first | exact zf | refine zm ?_ | refine zr0 ?_ | refine (h1 ?_) | refine (h2 (λb=>?_)) | refine ⟨_,⟨by omega,rfl,rfl⟩,?_⟩ | intro _)
    exact hk _
  |ex n c' s'=>
   have h3:=λ{K:KT} (g:K (.fm (oI n)) (e7 c' s'))=>h2 (K:=K) g;refine sh0 Tryz.f174 ?_
   repeat' ((conv=>whnf);first | exact zf | refine zm ?_ | refine zr0 ?_ | refine (h1 ?_) | refine (h3 ?_) | refine ⟨_,⟨by omega,rfl,rfl⟩,?_⟩ | intro _)
   exact hk
 |false=>
  have h1:=λ{K:KT}=>dt (K:=K) ⟨im,now,t,tr,o,[a,m],ma⟩ s [0,2] (aR _) hb;dsimp only at hk;rw [hb,ε] at hk;refine sh0 Tryz.f174 ?_
  repeat' ((conv=>whnf);first | exact zf | refine zm ?_ | refine zr0 ?_ | refine (h1 ?_) | intro _)
  exact hk
theorem BG {K:KT} (c:Ca) (s:b8) (a m:Va) (har:c.ar = [a,m]) (h:EW c s { fT with k:=4,l:=bE m,v:=a }) (hk:(tV 4 c s).K K):Z1 176 [.p 0 0] (e7 c s) K:=by
 obtain ⟨im,now,t,tr,o,ar,ma⟩:=c;subst har;have h2:=λ{K:KT}=>px (K:=K) ⟨im,now,t,tr,o,[a,m],ma⟩ s _ h;unfold tV at hk;cases hb:cD [0,2] [a,m] with
 |true=>
  have h1:=λ{K:KT}=>dr (K:=K) ⟨im,now,t,tr,o,[a,m],ma⟩ s [0,2] (aR _) hb;dsimp only at hk;rw [hb,δ] at hk
  replace hk:(j8 ⟨im,now,t,tr,o,[a,m],ma⟩ s { fT with k:=4,l:=bE m,v:=a }).K K:=hk
  generalize hR:j8 ⟨im,now,t,tr,o,[a,m],ma⟩ s { fT with k:=4,l:=bE m,v:=a }=R at h2 hk;cases R with
  |ok e f=>
   cases e
   all_goals
    refine sh0 Tryz.f176 ?_
    repeat' ((conv=>whnf);first | exact zf | refine zm ?_ | refine zr0 ?_ | refine (h1 ?_) | refine (h2 (λb=>?_)) | refine ⟨_,⟨by omega,rfl,rfl⟩,?_⟩ | intro _)
    exact hk _
  |ex n c' s'=>
   have h3:=λ{K:KT} (g:K (.fm (oI n)) (e7 c' s'))=>h2 (K:=K) g;refine sh0 Tryz.f176 ?_
   repeat' ((conv=>whnf);first | exact zf | refine zm ?_ | refine zr0 ?_ | refine (h1 ?_) | refine (h3 ?_) | refine ⟨_,⟨by omega,rfl,rfl⟩,?_⟩ | intro _)
   exact hk
 |false=>
  have h1:=λ{K:KT}=>dt (K:=K) ⟨im,now,t,tr,o,[a,m],ma⟩ s [0,2] (aR _) hb;dsimp only at hk;rw [hb,ε] at hk;refine sh0 Tryz.f176 ?_
  repeat' ((conv=>whnf);first | exact zf | refine zm ?_ | refine zr0 ?_ | refine (h1 ?_) | intro _)
  exact hk
def xA (c:Ca) (s:b8):OR:=bif cD [2] c.ar then j8 c s { fT with k:=5,l:=bE (c.ar[0]?.getD de) } else .ex (-1) c s
theorem BF {K:KT} (c:Ca) (s:b8) (m:Va) (har:c.ar = [m]) (h:EW c s { fT with k:=5,l:=bE m }) (hk:(xA c s).K K):Z1 179 [.p 0 0] (e7 c s) K:=by
 obtain ⟨im,now,t,tr,o,ar,ma⟩:=c;subst har;have h2:=λ{K:KT}=>px (K:=K) ⟨im,now,t,tr,o,[m],ma⟩ s _ h;unfold xA at hk;cases hb:cD [2] [m] with
 |true=>
  have h1:=λ{K:KT}=>dr (K:=K) ⟨im,now,t,tr,o,[m],ma⟩ s [2] (aR _) hb;dsimp only at hk;rw [hb,δ] at hk
  replace hk:(j8 ⟨im,now,t,tr,o,[m],ma⟩ s { fT with k:=5,l:=bE m }).K K:=hk
  generalize hR:j8 ⟨im,now,t,tr,o,[m],ma⟩ s { fT with k:=5,l:=bE m }=R at h2 hk;cases R with
  |ok e f=>
   cases e
   all_goals
    refine sh0 Tryz.f179 ?_
    repeat' ((conv=>whnf);first | exact zf | refine zm ?_ | refine zr0 ?_ | refine (h1 ?_) | refine (h2 (λb=>?_)) | refine ⟨_,⟨by omega,rfl,rfl⟩,?_⟩ | intro _)
    exact hk _
  |ex n c' s'=>
   have h3:=λ{K:KT} (g:K (.fm (oI n)) (e7 c' s'))=>h2 (K:=K) g;refine sh0 Tryz.f179 ?_
   repeat' ((conv=>whnf);first | exact zf | refine zm ?_ | refine zr0 ?_ | refine (h1 ?_) | refine (h3 ?_) | refine ⟨_,⟨by omega,rfl,rfl⟩,?_⟩ | intro _)
   exact hk
 |false=>
  have h1:=λ{K:KT}=>dt (K:=K) ⟨im,now,t,tr,o,[m],ma⟩ s [2] (aR _) hb;dsimp only at hk;rw [hb,ε] at hk;refine sh0 Tryz.f179 ?_
  repeat' ((conv=>whnf);first | exact zf | refine zm ?_ | refine zr0 ?_ | refine (h1 ?_) | intro _)
  exact hk
def xB (c:Ca) (s:b8):OR:=bif cD [2] c.ar then j8 c s { fT with k:=7,l:=bE (c.ar[0]?.getD de),fu:=c.o.a,ma:=c.ma } else .ex (-1) c s
theorem yk {K:KT} (c:Ca) (s:b8) (m:Va) (har:c.ar = [m]) (h:EW c s { fT with k:=7,l:=bE m,fu:=c.o.a,ma:=c.ma }) (hk:(xB c s).K K):Z1 188 [.p 0 0] (e7 c s) K:=by
 obtain ⟨im,now,t,tr,o,ar,ma⟩:=c;subst har;have h2:=λ{K:KT}=>px (K:=K) ⟨im,now,t,tr,o,[m],ma⟩ s _ h;unfold xB at hk;cases hb:cD [2] [m] with
 |true=>
  have h1:=λ{K:KT}=>dr (K:=K) ⟨im,now,t,tr,o,[m],ma⟩ s [2] (aR _) hb;dsimp only at hk;rw [hb,δ] at hk
  replace hk:(j8 ⟨im,now,t,tr,o,[m],ma⟩ s { fT with k:=7,l:=bE m,fu:=o.a,ma:=ma }).K K:=hk
  generalize hR:j8 ⟨im,now,t,tr,o,[m],ma⟩ s { fT with k:=7,l:=bE m,fu:=o.a,ma:=ma }=R at h2 hk;cases R with
  |ok e f=>
   cases e
   all_goals
    refine sh0 Tryz.f188 ?_
    repeat' ((conv=>whnf);first | exact zf | refine zm ?_ | refine zr0 ?_ | refine (h1 ?_) | refine (h2 (λb=>?_)) | refine ⟨_,⟨by omega,rfl,rfl⟩,?_⟩ | intro _)
    exact hk _
  |ex n c' s'=>
   have h3:=λ{K:KT} (g:K (.fm (oI n)) (e7 c' s'))=>h2 (K:=K) g;refine sh0 Tryz.f188 ?_
   repeat' ((conv=>whnf);first | exact zf | refine zm ?_ | refine zr0 ?_ | refine (h1 ?_) | refine (h3 ?_) | refine ⟨_,⟨by omega,rfl,rfl⟩,?_⟩ | intro _)
   exact hk
 |false=>
  have h1:=λ{K:KT}=>dt (K:=K) ⟨im,now,t,tr,o,[m],ma⟩ s [2] (aR _) hb;dsimp only at hk;rw [hb,ε] at hk;refine sh0 Tryz.f188 ?_
  repeat' ((conv=>whnf);first | exact zf | refine zm ?_ | refine zr0 ?_ | refine (h1 ?_) | intro _)
  exact hk
def jz (c:Ca) (s:b8):OR:=
 bif c.o.c==25 then Qy c s else bif c.o.c==26 then RB c s else bif c.o.c==27 then pB c s else bif c.o.c==28 then xI c s else
 bif c.o.c==29 then tV 3 c s else bif c.o.c==30 then tM c s else bif c.o.c==32 then tV 4 c s else bif c.o.c==33 then p9 c s else
 bif c.o.c==34 then q6 c s else bif c.o.c==35 then xA c s else bif c.o.c==36 then q9 c s else bif c.o.c==37 then vX c s else
 bif c.o.c==38 then DI c s else bif c.o.c==39 then CJ c s else bif c.o.c==40 then we c s else bif c.o.c==41 then Au c s else
 bif c.o.c==42 then DR c s else bif c.o.c==43 then Cw c s else bif c.o.c==45 then xB c s else bif c.o.c==46 then sT c s else .ex 0 c s
def codeF:List (Int×Nat×Int):=[(25,170,0),(26,171,0),(27,172,1),(28,173,1),(29,174,2),(30,175,1),(32,176,2),(33,177,1),(34,178,2),(35,179,1),(36,180,1),(37,181,2),(38,182,3),(39,183,1),(40,184,4),(41,185,2),(42,186,1),(43,187,1),(45,188,1),(46,189,2)]
structure EV (c:Ca) (s:b8):Prop where
  n:N6 c.t
  g:jX c.t.g
  ar:∀v∈c.ar,cI (bE v)
  gs:lY s
  st:c.t.c.st.length<800000000
  fr:c.t.c.fr.length<900000000
  sc:c.t.sc.length<900000000
  w:0≤c.now∧c.now<1000000000
  q:∀p∈s.th,p.2.va.q.length<90000000
theorem kD {key:List UInt8}:∀{l:List (List UInt8×Ob)} {i:Nat} {o:Ob},bI key l=some (i,o)→∃p∈l,p.2=o
 |[],_,_,h=>nomatch h
 |p :: r,i,o,h=>by
  unfold bI at h
  by_cases hb:key=p.1
  ·rw [ζ hb] at h;cases h;exact ⟨p,bc ..,rfl⟩
  ·rw [η hb] at h;cases hr:bI key r with
   |none=>rw [hr] at h;cases h
   |some q=>
    rw [hr] at h;obtain ⟨p',hp,he⟩:=kD (i:=q.1) (o:=q.2) (by rw [hr]);cases h;exact ⟨p',cQ _ hp,he⟩
theorem EV.Qn {c:Ca} {s:b8} (h:EV c s) (nm:List UInt8):J1 s nm:=λi o ho=>by
 obtain ⟨p,hp,he⟩:=kD ho;rw [←he];exact h.q p hp
theorem EV.U9 {c:Ca} {s:b8} (h:EV c s) (o:Ob) (hl:cI o.l) (h3:3≤o.k) (h7:o.k≤7) (hq:o.va.q.length<100000000):EW c s o:=⟨h.n,h.g,hl,h.gs,h3,h7,hq,by have:=h.st;omega⟩
theorem GQ (a b:Lb):cI (db a b):=⟨gC _,gC _⟩
theorem L6 {K:KT} (c:Ca) (s:b8) (F:Nat) (po:Int) (hF:(c.o.c,F,po)∈codeF) (hl:(c.ar.length:Int)=po) (h:EV c s) (hk:(jz c s).K K):Z1 F [.p 0 0] (e7 c s) K:=by
 have hst:c.t.c.st.length<1000000000:=by have:=h.st;omega
 have hfr:c.t.c.fr.length<1000000000:=by have:=h.fr;omega
 unfold jz at hk;have a1:c.ar.length=1→∃m,c.ar = [m]:=λe=>eM.1 e;have a2:c.ar.length=2→∃a b,c.ar = [a,b]:=λe=>by
  match har:c.ar,e with
  |[a,b],_=>exact ⟨a,b,rfl⟩
 simp only [codeF,a8,bW,cY,or_false] at hF;rcases hF with ⟨hc,rfl,rfl⟩ | ⟨hc,rfl,rfl⟩ | ⟨hc,rfl,rfl⟩ | ⟨hc,rfl,rfl⟩ | ⟨hc,rfl,rfl⟩ | ⟨hc,rfl,rfl⟩ | ⟨hc,rfl,rfl⟩ | ⟨hc,rfl,rfl⟩ | ⟨hc,rfl,rfl⟩ | ⟨hc,rfl,rfl⟩ | ⟨hc,rfl,rfl⟩ | ⟨hc,rfl,rfl⟩ | ⟨hc,rfl,rfl⟩ | ⟨hc,rfl,rfl⟩ | ⟨hc,rfl,rfl⟩ | ⟨hc,rfl,rfl⟩ | ⟨hc,rfl,rfl⟩ | ⟨hc,rfl,rfl⟩ | ⟨hc,rfl,rfl⟩ | ⟨hc,rfl,rfl⟩<;>rw [hc] at hk
 ·exact Qz c s hst hk
 ·exact RC c s hst hk
 ·obtain ⟨m,e⟩:=a1 (by omega);have hm:=h.ar m (by rw [e];exact bc ..);exact Gh c s m e h.g hm (GQ _ _) hk
 ·obtain ⟨m,e⟩:=a1 (by omega);have hm:=h.ar m (by rw [e];exact bc ..);exact H6 c s m e h.g hm hk
 ·obtain ⟨a,m,e⟩:=a2 (by omega);have hm:=h.ar m (by rw [e];exact cQ _ (bc ..));exact BH c s a m e (h.U9 _ hm (show (3:Int)≤3 by decide) (show (3:Int)≤7 by decide) (show (0:Nat)<_ by decide)) hk
 ·obtain ⟨m,e⟩:=a1 (by omega);have hm:=h.ar m (by rw [e];exact bc ..);exact C9 c s m e hst h.g hm (GQ _ _) (h.Qn _).sm hk
 ·obtain ⟨a,m,e⟩:=a2 (by omega);have hm:=h.ar m (by rw [e];exact cQ _ (bc ..));exact BG c s a m e (h.U9 _ hm (show (3:Int)≤4 by decide) (show (4:Int)≤7 by decide) (show (0:Nat)<_ by decide)) hk
 ·obtain ⟨m,e⟩:=a1 (by omega);have hm:=h.ar m (by rw [e];exact bc ..);exact Ap c s m e hst h.g hm (GQ _ _) (h.Qn _).sm hk
 ·obtain ⟨a,v,e⟩:=a2 (by omega);have hm:=h.ar a (by rw [e];exact bc ..);exact yE c s a v e h.g hm (h.Qn _).sm hk
 ·obtain ⟨m,e⟩:=a1 (by omega);have hm:=h.ar m (by rw [e];exact bc ..);exact BF c s m e (h.U9 _ hm (show (3:Int)≤5 by decide) (show (5:Int)≤7 by decide) (show (0:Nat)<_ by decide)) hk
 ·obtain ⟨m,e⟩:=a1 (by omega);have hm:=h.ar m (by rw [e];exact bc ..);exact A2 c s m e h.g hm hst (h.Qn _) hk
 ·obtain ⟨a,v,e⟩:=a2 (by omega);have hm:=h.ar a (by rw [e];exact bc ..);exact ES c s a v e h.g hm (h.Qn _) hk
 ·obtain ⟨a,r,m,e⟩:∃a r m,c.ar = [a,r,m]:=by
   match har:c.ar,hl with
   |[a,r,m],_=>exact ⟨a,r,m,rfl⟩
  have hm:=h.ar m (by rw [e];simp);exact MQ c s a r m e ⟨h.n,h.g,hm,h.gs,hst⟩ hk
 ·obtain ⟨m,e⟩:=a1 (by omega);have hm:=h.ar m (by rw [e];exact bc ..);exact Kh c s m e hst h.g hm (GQ _ _) (h.Qn _).sm hk
 ·obtain ⟨a,r,k,m,e⟩:∃a r k m,c.ar = [a,r,k,m]:=by
   match har:c.ar,hl with
   |[a,r,k,m],_=>exact ⟨a,r,k,m,rfl⟩
  have hm:=h.ar m (by rw [e];simp);exact GV c s a r k m e ⟨h.n,h.g,hm,hfr,by have:=h.sc;omega,h.w⟩ hk
 ·obtain ⟨a,m,e⟩:=a2 (by omega);have hm:=h.ar m (by rw [e];exact cQ _ (bc ..));exact Gv c s a m e h.g hm hk
 ·obtain ⟨m,e⟩:=a1 (by omega);have hm:=h.ar m (by rw [e];exact bc ..);exact MZ c s m e h.g hm hk
 ·obtain ⟨m,e⟩:=a1 (by omega);have hm:=h.ar m (by rw [e];exact bc ..);exact Lp c s m e h.g hm hk
 ·obtain ⟨m,e⟩:=a1 (by omega);have hm:=h.ar m (by rw [e];exact bc ..);exact yk c s m e (h.U9 _ hm (show (3:Int)≤7 by decide) (show (7:Int)≤7 by decide) (show (0:Nat)<_ by decide)) hk
 ·obtain ⟨a,m,e⟩:=a2 (by omega);have hm:=h.ar m (by rw [e];exact cQ _ (bc ..));exact J8 c s a m e hfr hst h.g hm (GQ _ _) (h.Qn _).sm hk
theorem LO {K:H→Prop} (a b:D) (hk:K [.cells [.d a],.cells [.d b]]):B_ Tryz.prog 169 [.p 0 0,.p 1 0] [.cells [.d a],.cells [.d b]] none K:=by
 exact s169 rfl (zh0 hk)
theorem LN {K:H→Prop} (a b:D) (n:Int) (hk:K [.cells [.d (.int .i64 n)],.cells [.d (.bool true)]]):B_ Tryz.prog 169 [.p 0 0,.p 1 0] [.cells [.d a],.cells [.d b]] (some (oI n)) K:=by
 exact s169 rfl (zh0 hk)
def OR.L (r:OR) (K:Out→H→Prop):Prop:=match r with
 |.ok e f=>∀b,K (.ret (.tu [.ag [.d (.int .i64 0)],.d (.bool false)])) (Mn (f b).1 e false (f b).2)
 |.ex n c s=>K (.ret (.tu [.ag [.d (.int .i64 n)],.d (.bool true)])) (e7 c s)
theorem Lr {K:KT} (F:Nat) (hlt:Nat.blt F 5000000=true) (R:OR) (c:Ca) (s:b8) (hF:∀{K:KT},R.K K→Z1 F [.p 0 0] (e7 c s) K) (hk:R.L K):Z1 115 [.p 0 0,.d (.fn F)] (e7 c s) K:=by
 cases R with
 |ok e f=>
  cases e
  all_goals
   refine s115 (keep:=false) rfl ?_;unfold Tm
   repeat' ((conv=>whnf);first | exact zf | refine zm ?_ | intro _)
   conv=>whnf
   rw [hlt]
   repeat' ((conv=>whnf);first | exact zf | refine zm ?_ | refine zr0 ?_ | refine (hF (λb=>?_)) | refine (LO _ _ ?_) | intro _)
   exact hk _
 |ex n c' s'=>
  have hF':=λ{K:KT} (h:K (.fm (oI n)) (e7 c' s'))=>hF (K:=K) h;refine s115 (keep:=false) rfl ?_;unfold Tm
  repeat' ((conv=>whnf);first | exact zf | refine zm ?_ | intro _)
  conv=>whnf
  rw [hlt]
  repeat' ((conv=>whnf);first | exact zf | refine zm ?_ | refine zr0 ?_ | refine (hF' ?_) | refine (LN _ _ _ ?_) | intro _)
  exact hk
def WE:List (Int×Nat):=[(25,170),(26,171),(27,172),(28,173),(29,174),(30,175),(32,176),(33,177),(34,178),(35,179),(36,180),(37,181),(38,182),(39,183),(40,184),(41,185),(42,186),(43,187),(45,188),(46,189)]
def UI:List (V×V):=WE.map λp=>(.d (.int .i64 p.1),.d (.fn p.2))
def Db (c:Int) (F:Nat):Prop:=∃j,qZ [0,3] [.d (.int .i64 c)] UI 0=some (some (j,.d (.fn F)))
theorem KH {K:KT} (hk:K (.ret (.mp 0)) [.mp UI]):Z1 116 [] [] K:=by
 refine si0 Tryz.f116 ?_
 repeat' ((conv=>whnf);first | exact zf | refine zm ?_ | refine ⟨_,rfl,?_⟩ | intro _)
 exact hk
def ll (im:Im) (t:Th) (now:Int):Ca:=⟨im,now,t,(bS t).tr,o0,[],0⟩
def rJ (c:Ca) (k:Co):Ca:={ c with t:={ c.t with c:=k } }
def jI (c:Ca) (o:Op) (f:Fr) (po:Int):Ca:={ c with o:=o,ma:=f.ma,ar:=lC c.t.c po,t:={ c.t with c:={ rk c.t.c po with fr:=b7 c.t.c.fr f } } }
structure Rs where
  t:Th
  e:Fx
  d:Bool
  s:b8
def KY (p:Ca×Bool×b8):Rs:=⟨p.1.t,.no,p.2.1,p.2.2⟩
def OR.A (r:OR) (gL:Co) (K:Out→H→Prop):Prop:=match r with
 |.ok e f=>∀b,K (.ret (.tu [])) (Mn (f b).1 e false (f b).2)
 |.ex n c s=>K (.ret (.tu [])) (UC (lB c s gL n))
def OR.fin (r:OR) (gL:Co) (b:Option Nat):Rs:=match r with
 |.ok e f=>⟨(f b).1.t,e,false,(f b).2⟩
 |.ex n c s=>KY (lB c s gL n)
def Fb (c:Ca) (s:b8):OR:=
 bif c.o.c==27 then pB c s else
 bif c.o.c==29 then E4 3 c s else
 bif c.o.c==30 then tM c s else
 bif c.o.c==32 then E4 4 c s else
 bif c.o.c==35 then HX c s else
 bif c.o.c==41 then Au c s else .ex 0 c s
def UH (c:Ca) (s:b8) (o:Op) (b:Option Nat):Rs:=
 match c.t.c.fr.getLast?,inf o.c with
 |some f,some i=>(Fb (jI c o f i.po) s).fin c.t.c b
 |_,_=>⟨c.t,.no,false,s⟩
def FH (im:Im) (t:Th) (s:b8) (now:Int) (b:Option Nat):Rs:=
 bif t.st != 0 then ⟨t,.no,false,s⟩ else
 bif (eF im t.c (bS t).fr (bS t).tr).2.k==1 then KY (oS (rJ (ll im t now) (eF im t.c (bS t).fr (bS t).tr).1) s (eF im t.c (bS t).fr (bS t).tr).2.v false) else
 bif (eF im t.c (bS t).fr (bS t).tr).2.k==2 then KY (oS (rJ (ll im t now) (eF im t.c (bS t).fr (bS t).tr).1) s (eF im t.c (bS t).fr (bS t).tr).2.v true) else
 bif (eF im t.c (bS t).fr (bS t).tr).2.k==3 then UH (ll im t now) s (eF im t.c (bS t).fr (bS t).tr).2.o b else
 ⟨{ t with c:=(eF im t.c (bS t).fr (bS t).tr).1 },.no,false,s⟩
theorem Nw {K:KT} (c:Ca) (s:b8) (o:Op) (f:Fr) (i:Info) (F:Nat) (R:OR) (hi:inf o.c=some i) (hf:c.t.c.fr.getLast? = some f) (hlf:c.t.c.fr.length<900000000) (hls:c.t.c.st.length<800000000) (hp:fJ c.t.c i.po=true) (hpc:0≤f.pc∧f.pc<1000000000) (hF:Db o.c F) (hlt:Nat.blt F 5000000=true)
  (hR:∀{K:KT},R.K K→Z1 F [.p 0 0] (e7 (jI c o f i.po) s) K) (hx:∀n c' s',R = .ex n c' s'→wY s' c'.t.id)
  (hk:R.A c.t.c K):Z1 73 [.p 0 0,By o] (We c s) K:=by
 have h1:=oO hi;have h2:=y8 c.t.c i.po (by omega);rw [lP hp] at h2;have hpos:0<c.t.c.fr.length:=by
  cases h:c.t.c.fr with
  |nil=>rw [h] at hf;cases hf
  |cons=>simp
 have hfl:c.t.c.fr[c.t.c.fr.length - 1]? = some f:=by rw [←dc];exact hf
 have hrow:=nM hpos hfl;have hml:(c.t.c.fr.map bU).length=c.t.c.fr.length:=aI _;obtain ⟨ai,hA⟩:=hF;have er:(b7 c.t.c.fr f).map bU=(c.t.c.fr.map bU).set (((c.t.c.fr.map bU).length:Int) - 1).toNat [.int .i64 f.fu,.int .i64 (f.pc+1),.int .i64 f.ba,.int .u8 f.ma,.sl 5 (f.vars.map cK)]:=by
  unfold b7;rw [fg,aI];congr 1;omega
 have h4:=λ{K:KT}=>Lr (K:=K) F hlt R (jI c o f i.po) s hR;dsimp only [e7,ko,fC,jI] at h4;rw [er] at h4;refine sh0 Tryz.f73 ?_
 repeat' ((conv=>whnf);first | exact zf | refine zm ?_ | refine zc h1 ?_ | refine ⟨bU f,⟨by omega,hrow,rfl⟩,?_⟩ | refine zc h2 ?_ | refine (sW (c.t.c.fr.map bU) (by omega) ?_) | intro _)
 conv=>whnf
 refine ⟨bU f,hrow,?_⟩
 repeat' ((conv=>whnf);first | exact zf | refine zm ?_ | intro _)
 conv=>whnf
 refine ⟨bU f,hrow,⟨rfl,rfl,rfl⟩,?_⟩
 repeat' ((conv=>whnf);first | exact zf | refine (c_ (c_ (jM [7] ?_))) | refine zm ?_ | refine zr0 ?_ | refine (KH ?_) | refine ⟨_,hA,?_⟩ | refine (h4 ?_) | refine And.intro ?_ ?_ | intro _)
 all_goals
  clear h4 er h1 h2 hR;cases R with
  |ok e g=>
   cases e
   all_goals
    refine λb=>?_
    repeat' ((conv=>whnf);first | exact zf | refine zm ?_ | refine (ga rfl ?_) | intro _)
    exact hk _
  |ex n c' s'=>
   have h5:=λ{K:KT}=>LQ (K:=K) c' s' c.t.c n (by omega) (by omega) (hx n c' s' rfl)
   conv=>whnf
   repeat' ((conv=>whnf);first | exact zf | refine zm ?_ | refine (ft rfl ?_) | refine zr0 ?_ | refine (h5 ?_) | intro _)
   exact hk
theorem jd {c:Co} {n kp:Int}:(raise c n kp).2.k≠3:=by
 unfold raise;cases mw c n kp
 ·exact (show (2:Int)≠3 by decide)
 ·exact (show (0:Int)≠3 by decide)
theorem oY {b:Bool} {x y:Co×Ou} (hx:x.2.k≠3) (hy:y.2.k≠3):(bif b then x else y).2.k≠3:=by cases b<;>assumption
theorem lV {im:Im} {c:Co} {o:Op} {f:Fr} {l:List Va}:(fK im c o f l).2.k≠3:=(show (0:Int)≠3 by decide)
theorem fN {b:Bool} {x y:Co×Ou} {P:Prop} (hx:x.2.k≠3) (hy:b=false→y.2.k=3→P) (h:(bif b then x else y).2.k=3):P:=by
 cases b with
 |true=>exact absurd h hx
 |false=>exact hy rfl h
def Hu (c:Int):Prop:=c≠1∧c≠2∧c≠3∧c≠4∧c≠5∧c≠6∧¬(7≤c∧c≤13)∧c≠14∧c≠15∧c≠16∧c≠17∧c≠18∧c≠19∧c≠20∧c≠21∧c≠22∧c≠23∧c≠44∧c≠47
theorem fy {a b:Int} (h:(a==b)=false):a≠b:=by simpa using h
theorem L5 {im:Im} {c:Co} {fr tr:Int} {o:Op} {f:Fr} {P:Prop} (hp:nI im c fr tr o f=(c,⟨3,zeroV,o⟩)→o.c≠1→o.c≠2→o.c≠4→o.c≠5→o.c≠6→o.c≠12→¬(7≤o.c∧o.c≤13)→o.c≠14→o.c≠15→o.c≠16→o.c≠17→o.c≠18→o.c≠19→o.c≠20→o.c≠21→o.c≠44→o.c≠47→P)
  (h:(nI im c fr tr o f).2.k=3):P:=by
 have hp:=hp;unfold nI at h hp
 revert h
 have z0:∀{x:Co},(x,cJ).2.k≠3:=λ{x}=>(show (0:Int)≠3 by decide)
 refine fN (lV) λh1=>?_;refine fN (lV) λh2=>?_;refine fN (lV) λh4=>?_;refine fN (lV) λh5=>?_;refine fN (lV) λh6=>?_;refine fN (lV) λh12=>?_;refine fN (oY (by split<;>first | exact lV | exact jd) (jd)) λh7=>?_;refine fN (oY (lV) (jd)) λh14=>?_;refine fN z0 λh15=>?_;refine fN (oY (oY (lV) z0) (jd)) λh16=>?_;refine fN (oY z0 (jd)) λh17=>?_;refine fN (oY (show (1:Int)≠3 by decide) z0) λh18=>?_;refine fN (oY (jd) (jd)) λh19=>?_;refine fN z0 λh20=>?_;refine fN (oY z0 (lV)) λh21=>?_;refine fN z0 λh44=>?_;refine fN (lV) λh47=>?_;intro _;have h7':¬(7≤o.c∧o.c≤13):=by simpa using h7
 refine hp ?_ (fy h1) (fy h2) (fy h4) (fy h5) (fy h6) (fy h12) h7' (fy h14) (fy h15) (fy h16) (fy h17) (fy h18) (fy h19) (fy h20) (fy h21) (fy h44) (fy h47);simp only [h1,h2,h4,h5,h6,h12,h7,h14,h15,h16,h17,h18,h19,h20,h21,h44,h47,ε]
theorem L4 {im:Im} {c:Co} {fr tr:Int} {o:Op} {f:Fr} (h:(Cb im c fr tr o f).2.k=3):Cb im c fr tr o f=(c,⟨3,zeroV,o⟩)∧Hu o.c:=by
 have z0:∀{x:Co},(x,cJ).2.k≠3:=λ{x}=>(show (0:Int)≠3 by decide)
 have h0:=h;unfold Cb at h ⊢
 revert h
 refine fN z0 λh3=>?_;refine fN (oY (lV) (jd)) λh22=>?_;refine fN (oY (lV) (jd)) λh23=>?_;refine L5 λhe a1 a2 a4 a5 a6 a12 a7 a14 a15 a16 a17 a18 a19 a20 a21 a44 a47=>?_;refine ⟨?_,a1,a2,fy h3,a4,a5,a6,a7,a14,a15,a16,a17,a18,a19,a20,a21,fy h22,fy h23,a44,a47⟩;simp only [h3,h22,h23,ε];exact he
theorem Ju {c:Int} (h1:1≤c) (h2:c≤47) (ha:Hu c) (h24:c≠24) (h31:c≠31):∃F po,(c,F,po)∈codeF:=by
 unfold Hu at ha;have:c=25∨c=26∨c=27∨c=28∨c=29∨c=30∨c=32∨c=33∨c=34∨c=35∨c=36∨c=37∨c=38∨c=39∨c=40∨c=41∨c=42∨c=43∨c=45∨c=46:=by omega
 rcases this with rfl | rfl | rfl | rfl | rfl | rfl | rfl | rfl | rfl | rfl | rfl | rfl | rfl | rfl | rfl | rfl | rfl | rfl | rfl | rfl
 ·exact ⟨170,0,by decide⟩
 ·exact ⟨171,0,by decide⟩
 ·exact ⟨172,1,by decide⟩
 ·exact ⟨173,1,by decide⟩
 ·exact ⟨174,2,by decide⟩
 ·exact ⟨175,1,by decide⟩
 ·exact ⟨176,2,by decide⟩
 ·exact ⟨177,1,by decide⟩
 ·exact ⟨178,2,by decide⟩
 ·exact ⟨179,1,by decide⟩
 ·exact ⟨180,1,by decide⟩
 ·exact ⟨181,2,by decide⟩
 ·exact ⟨182,3,by decide⟩
 ·exact ⟨183,1,by decide⟩
 ·exact ⟨184,4,by decide⟩
 ·exact ⟨185,2,by decide⟩
 ·exact ⟨186,1,by decide⟩
 ·exact ⟨187,1,by decide⟩
 ·exact ⟨188,1,by decide⟩
 ·exact ⟨189,2,by decide⟩
theorem x4 {c:Int} {F:Nat} {po:Int} (h:(c,F,po)∈codeF):(∃i,inf c=some i∧i.po=po)∧Db c F∧Nat.blt F 5000000=true∧c≠17:=by
 simp only [codeF,a8,bW,cY,or_false] at h;rcases h with ⟨rfl,rfl,rfl⟩ | ⟨rfl,rfl,rfl⟩ | ⟨rfl,rfl,rfl⟩ | ⟨rfl,rfl,rfl⟩ | ⟨rfl,rfl,rfl⟩ | ⟨rfl,rfl,rfl⟩ | ⟨rfl,rfl,rfl⟩ | ⟨rfl,rfl,rfl⟩ | ⟨rfl,rfl,rfl⟩ | ⟨rfl,rfl,rfl⟩ | ⟨rfl,rfl,rfl⟩ | ⟨rfl,rfl,rfl⟩ | ⟨rfl,rfl,rfl⟩ | ⟨rfl,rfl,rfl⟩ | ⟨rfl,rfl,rfl⟩ | ⟨rfl,rfl,rfl⟩ | ⟨rfl,rfl,rfl⟩ | ⟨rfl,rfl,rfl⟩ | ⟨rfl,rfl,rfl⟩ | ⟨rfl,rfl,rfl⟩ <;>
  exact ⟨⟨_,rfl,rfl⟩,⟨_,rfl⟩,rfl,by decide⟩
def RO (c:Ca) (s:b8) (o:Op) (b:Option Nat):Rs:=
 match c.t.c.fr.getLast?,inf o.c with
 |some f,some i=>(jz (jI c o f i.po) s).fin c.t.c b
 |_,_=>⟨c.t,.no,false,s⟩
def Ff (im:Im) (t:Th) (s:b8) (now:Int) (b:Option Nat):Rs:=
 bif t.st != 0 then ⟨t,.no,false,s⟩ else
 bif (eF im t.c (bS t).fr (bS t).tr).2.k==1 then KY (oS (rJ (ll im t now) (eF im t.c (bS t).fr (bS t).tr).1) s (eF im t.c (bS t).fr (bS t).tr).2.v false) else
 bif (eF im t.c (bS t).fr (bS t).tr).2.k==2 then KY (oS (rJ (ll im t now) (eF im t.c (bS t).fr (bS t).tr).1) s (eF im t.c (bS t).fr (bS t).tr).2.v true) else
 bif (eF im t.c (bS t).fr (bS t).tr).2.k==3 then RO (ll im t now) s (eF im t.c (bS t).fr (bS t).tr).2.o b else
 ⟨{ t with c:=(eF im t.c (bS t).fr (bS t).tr).1 },.no,false,s⟩
structure Rg (im:Im) (t:Th) (s:b8) (now:Int):Prop where
  x:Rf im t.c
  n:N6 t
  g:jX t.g
  gs:lY s
  sc:t.sc.length<900000000
  w:0≤now∧now<1000000000
  q:∀p∈s.th,p.2.va.q.length<90000000
theorem Rg.Wq {im:Im} {t:Th} {s:b8} {now:Int} (h:Rg im t s now) (nm:List UInt8):wY s nm:=λi o ho=>by
 obtain ⟨p,hp,he⟩:=kD ho;rw [←he];have:=h.q p hp;omega
theorem vQ {im:Im} {c:Co} {fr tr:Int} (h:Rf im c) (hk:(eF im c fr tr).2.k=3):∃o f F po,eF im c fr tr=(c,⟨3,zeroV,o⟩)∧c.fr.getLast? = some f∧(o.c,F,po)∈codeF∧fJ c po=true∧(0≤f.pc∧f.pc<1000000000):=by
 unfold eF at hk ⊢;cases hf:fit im c with
 |none=>rw [hf] at hk;exact absurd hk (show ¬(2:Int)=3 by decide)
 |some o=>
  rw [hf] at hk;obtain ⟨f,fn,hl,w1,hfn,w2,ho,hr,hop,hpo⟩:=nS hf;simp only [hl] at hk ⊢;obtain ⟨e,ha⟩:=L4 hk;obtain ⟨i,hi⟩:∃i,inf o.c=some i:=by
   unfold jY at hr;cases hi:inf o.c with
   |none=>rw [hi] at hr;cases hr
   |some i=>exact ⟨i,rfl⟩
  obtain ⟨b1,b2,_⟩:=uC hi;obtain ⟨d1,d2⟩:=h.dm o hf;obtain ⟨F,po,hF⟩:=Ju b1 b2 ha d1 d2;obtain ⟨⟨i',hi',hpi⟩,_,_,h17⟩:=x4 hF;have ht:fU im o=po:=by
   unfold fU;rw [hi'];rw [show (o.c==17)=false by simp [h17]];exact hpi
  rw [ht] at hpo;obtain ⟨p1,p2⟩:=within_iff.1 w2;have hcd:=h.cd _ _ hfn;exact ⟨o,f,F,po,e,rfl,hF,hpo,p1,by omega⟩
theorem Da {im:Im} {t:Th} {now:Int} {o:Op} {f:Fr} {po:Int} (hp:fJ t.c po=true):((jI (ll im t now) o f po).ar.length:Int)=po:=by
 have h:=(nG hp).1;have h0:0≤po:=by simp [fJ] at hp;omega
 show ((lC t.c po).length:Int)=po;rw [h];omega
theorem RN {im:Im} {t:Th} {s:b8} {now:Int} {o:Op} {f:Fr} {po:Int} (h:Rg im t s now) (hp:fJ t.c po=true):EV (jI (ll im t now) o f po) s where
 n:=⟨h.n.pa,h.n.ne,h.n.le,h.n.sm,h.n.m0,h.n.m1,h.n.r2⟩
 g:=h.g
 ar:=λv hv=>h.x.sm v (dS hv)
 gs:=h.gs
 st:=by
  have h1:=(nG hp).2;have h2:=h.x.ls;show (rk t.c po).st.length<800000000;omega
 fr:=by
  show (b7 t.c.fr f).length<900000000;unfold b7;rw [gr];exact h.x.lf
 sc:=h.sc
 w:=h.w
 q:=h.q
def OR.keeps (r:OR) (s:b8):Prop:=match r with
 |.ok _ _=>True
 |.ex _ _ s'=>s'=s
theorem bL {b:Bool} {x y:OR} {s:b8} (hx:x.keeps s) (hy:y.keeps s):(bif b then x else y).keeps s:=by cases b<;>assumption
theorem dU {e:Fx} {f:Option Nat→Ca×b8} {s:b8}:(OR.ok e f).keeps s:=trivial
theorem cT {n:Int} {c:Ca} {s:b8}:(OR.ex n c s).keeps s:=rfl
theorem oC {c:Ca} {s:b8} {o:Ob}:(j8 c s o).keeps s:=bL (bL cT dU) cT
theorem BX {c:Ca} {s:b8} {l:Lb}:(nB c s l).keeps s:=bL dU cT
theorem Eh {c:Ca} {s:b8} {o:Ob}:(mP c s o).keeps s:=bL cT dU
theorem Ei {c:Ca} {s:b8} {h:Va}:(pb c s h mP).keeps s:=by
 unfold pb;refine bL ?_ cT;cases dN s h with
 |none=>exact dU
 |some p=>exact Eh
theorem pI {c:Ca} {s:b8} {h:Va} {go:Ca→b8→Ob→RQ} (hg:∀c o,(go c s o).or.keeps s):(iK c s h go).or.keeps s:=by
 unfold iK;cases dY c.t.g (bE h)==0 with
 |false=>exact cT
 |true=>
  cases dN s h with
  |none=>exact dU
  |some p=>exact hg _ _
theorem Eg {c:Ca} {s:b8} {o:Ob}:(mo c s o).or.keeps s:=by
 unfold mo;cases o.dn
 ·exact dU
 ·cases o.ex
  ·exact dU
  ·exact cT
theorem BY {c:Ca} {s:b8} {o:Ob}:(kM c s o).or.keeps s:=by
 unfold kM;cases du c.t.c
 ·exact cT
 ·exact dU
theorem Hp {c:Ca} {s:b8}:(q9 c s).keeps s:=by
 unfold q9;refine bL (bL ?_ cT) cT;cases dN s (c.ar[0]?.getD de) with
 |none=>exact dU
 |some p=>exact bL dU dU
theorem Hq {c:Ca} {s:b8}:(vX c s).keeps s:=by
 unfold vX;refine bL (bL ?_ cT) cT;cases dN s (c.ar[0]?.getD de) with
 |none=>exact dU
 |some p=>exact bL dU dU
theorem BW {c:Ca} {s:b8}:(q6 c s).keeps s:=by
 unfold q6;refine bL (bL ?_ cT) cT;cases dN s (c.ar[0]?.getD de) with
 |none=>exact dU
 |some p=>exact dU
theorem yf (c:Ca) (s:b8):(jz c s).keeps s:=by
 unfold jz;refine bL dU (bL dU (bL (bL BX cT) (bL (bL (bL dU cT) cT) (bL (bL oC cT) (bL (bL Ei cT) (bL (bL oC cT) (bL (bL (pI λ_ _=>dU) cT)
  (bL BW (bL (bL oC cT) (bL Hp (bL Hq (bL (bL (bL dU cT) cT) (bL (bL (pI λ_ _=>Eg) cT) (bL (bL (bL dU cT) cT) (bL (bL (bL dU cT) cT)
  (bL (bL (bL dU cT) cT) (bL (bL (bL dU cT) cT) (bL (bL oC cT) (bL (bL (pI λ_ _=>BY) cT) cT)))))))))))))))))))
theorem HG {c c':Ca} {s s':b8} {n:Int} (h:jz c s = .ex n c' s') (hq:∀p∈s.th,p.2.va.q.length<90000000):wY s' c'.t.id:=by
 have:=yf c s;rw [h] at this;have e:s'=s:=this;intro i o ho;obtain ⟨p,hp,he⟩:=kD ho;rw [←he];rw [e] at hp;have:=hq p hp;omega
theorem Ns {K:KT} (im:Im) (t:Th) (s:b8) (now:Int) (h:t.st=0→Rg im t s now) (hk:∀b,K (.ret (.tu [eo (Ff im t s now b).t,sA ((Ff im t s now b).e.ef (Ff im t s now b).d)])) (j6 (Ff im t s now b).s)) :
    Z1 34 [xm im,eo t,.p 0 0,.d (.int .i64 now)] (j6 s) K:=by
  unfold Ff at hk
  by_cases h0:t.st=0
  · have hz:(t.st != 0)=false:=by simp [h0]
    rw [hz] at hk
    have hd:=h h0
    have h1:=xU t
    have h2:=Kw (fr:=(bS t).fr) (tr:=(bS t).tr) hd.x
    have hq:=hd.Wq t.id
    have hask:=vQ (fr:=(bS t).fr) (tr:=(bS t).tr) hd.x
    unfold St at h2
    generalize hr:eF im t.c (bS t).fr (bS t).tr=r at h2 hk hask
    obtain ⟨k,u⟩:=r
    by_cases k1:u.k=1
    · rw [show (u.k==1)=true by simp [k1]] at hk
      have h3:=λ{K:KT}=>oH (K:=K) (rJ (ll im t now) k) s u.v false hq
      refine sh0 Tryz.f34 ?_
      repeat' ((conv=>whnf);first | exact zf | refine zm ?_ | refine zc h1 ?_ | refine zc h2 ?_ | refine zr0 ?_ | refine (h3 ?_) | refine zt ?_ | refine zu ?_ | intro _)
      exact hk none
    · by_cases k2:u.k=2
      · rw [show (u.k==1)=false by simp [k1],show (u.k==2)=true by simp [k2]] at hk
        have h3:=λ{K:KT}=>oH (K:=K) (rJ (ll im t now) k) s u.v true hq
        refine sh0 Tryz.f34 ?_
        repeat' ((conv=>whnf);first | exact zf | refine zm ?_ | refine zc h1 ?_ | refine zc h2 ?_ | refine zr0 ?_ | refine (h3 ?_) | refine zt ?_ | refine zu ?_ | intro _)
        exact hk none
      · by_cases k3:u.k=3
        · rw [show (u.k == 1) = false by simp [k1], show (u.k == 2) = false by simp [k2], show (u.k == 3) = true by simp [k3]] at hk
          obtain ⟨o,f,F,po,e,hf,hcf,hp,hpc⟩:=hask k3
          cases e
          obtain ⟨⟨i,hi,hpi⟩,hF,hlt,_⟩:=x4 hcf
          subst hpi
          have hR:=λ{K:KT}=>L6 (K:=K) (jI (ll im t now) o f i.po) s F i.po hcf (Da hp) (RN hd hp)
          have hx:=λn c' s' (h:jz (jI (ll im t now) o f i.po) s = .ex n c' s')=>HG h hd.q
          have h3:=λ{K:KT}=>Nw (K:=K) (ll im t now) s o f i F _ hi hf hd.x.lf hd.x.ls hp hpc hF hlt hR hx
          replace hk:∀b,K (.ret (.tu [eo ((jz (jI (ll im t now) o f i.po) s).fin t.c b).t,sA (((jz (jI (ll im t now) o f i.po) s).fin t.c b).e.ef ((jz (jI (ll im t now) o f i.po) s).fin t.c b).d)])) (j6 ((jz (jI (ll im t now) o f i.po) s).fin t.c b).s):=λb=>by
            have:=hk b
            unfold RO at this
            rw [show (ll im t now).t.c.fr.getLast? = some f from hf,hi] at this
            exact this
          generalize jz (jI (ll im t now) o f i.po) s=R at h3 hk
          cases R with
          |ok e g=>
            cases e
            all_goals
              refine sh0 Tryz.f34 ?_
              repeat' ((conv=>whnf);first | exact zf | refine zm ?_ | refine zc h1 ?_ | refine zc h2 ?_ | refine zr0 ?_ | refine (h3 (λb=>?_)) | refine zt ?_ | refine zu ?_ | intro _)
              exact hk _
          |ex n c' s'=>
            have h4:=λ{K:KT} (g:K (.ret (.tu [])) (UC (lB c' s' t.c n)))=>h3 (K:=K) g
            refine sh0 Tryz.f34 ?_
            repeat' ((conv=>whnf);first | exact zf | refine zm ?_ | refine zc h1 ?_ | refine zc h2 ?_ | refine zr0 ?_ | refine (h4 ?_) | refine zt ?_ | refine zu ?_ | intro _)
            exact hk none
        · rw [show (u.k==1)=false by simp [k1],show (u.k==2)=false by simp [k2],show (u.k==3)=false by simp [k3]] at hk
          refine sh0 Tryz.f34 ?_
          repeat' ((conv=>whnf);first | exact zf | refine zm ?_ | refine zc h1 ?_ | refine zc h2 ?_ | refine zt ?_ | refine zu ?_ | intro _)
          exact hk none
  · have hz:(t.st != 0)=true:=by simp [h0]
    rw [hz] at hk
    refine sh0 Tryz.f34 ?_
    repeat' ((conv=>whnf);first | exact zf | refine zm ?_ | refine zt ?_ | refine zu ?_ | intro _)
    exact hk none
def AS (im:Im) (t:Th) (s:b8):H:=[.cells ([.d (.sl 5 (im.cs.map cK)),.d (.sl 3 (im.fs.map dw)),.p 1 0]++(fC t).map .d),.cells [.mp 2,.mp 3],.dm (iy s.th),.ms 1 (kh s.nm) none none]
def LH (s:Sc):List Nat:=jt s.nm 0
structure N5 (s:Sc):Prop where
  nm:s.nm=cR (LH s)
  g:gS (LH s)
  l:cI s.l
def dB (t:Th) (s:b8) (now:Int) (b:Option Nat):Th×b8:=match t.sc[jF now t.sc]? with
 |some sc=>(xJ t (jF now t.sc) sc,iE s (LH sc) (pG t (jF now t.sc) sc) b)
 |none=>(t,s)
theorem Kz {K:KT} (im:Im) (t:Th) (s:b8) (now:Int) (hc:cI t.g.cur) (hn:t.sc.length<1000000000) (hst:t.c.st.length<1000000000) (hsc:∀sc∈t.sc,N5 sc) (hgs:lY s)
  (h:∀b,(dB t s now b).1.st=0→Rg im (dB t s now b).1 (dB t s now b).2 now)
  (hk:∀b b',K (.ret (sA ((Ff im (dB t s now b).1 (dB t s now b).2 now b').e.ef (Ff im (dB t s now b).1 (dB t s now b).2 now b').d))) (AS im (Ff im (dB t s now b).1 (dB t s now b).2 now b').t (Ff im (dB t s now b).1 (dB t s now b).2 now b').s)) :
  Z1 12 [.p 0 0,.d (.int .i64 now)] (AS im t s) K:=by
 have h1:=Tv t now;have hle:=DQ now t.sc;unfold FG at h1;unfold dB at h hk;cases hs:t.sc[jF now t.sc]? with
 |none=>
  have hlt:¬jF now t.sc<t.sc.length:=λhlt=>by rw [aB hlt] at hs;cases hs
  rw [η hlt] at h1;rw [hs] at h hk;have h2:=λ{K:KT}=>Ns (K:=K) im t s now (h none);refine sh0 Tryz.f12 ?_
  repeat' ((conv=>whnf);first | exact zf | refine (c_ (c_ ?_)) | refine zm ?_ | refine zc h1 ?_ | refine (ga (by decide) ?_) | refine zr0 ?_ | refine (h2 (λb=>?_)) | refine And.intro ?_ ?_ | intro _)
  all_goals exact hk none _
 |some sc=>
  have hlt:=(aA.1 hs).1;rw [ζ hlt] at h1;rw [hs] at h hk;have hm:=hsc sc (aH hs);have h3:=Ls t (jF now t.sc) sc hs hc hm.l hn hst;rw [hm.nm] at h3;have h4:=λ{K:KT}=>Bz (K:=K) s (LH sc) (pG t (jF now t.sc) sc) ⟨hm.g,hgs,hm.l,(show (3:Int)≤3 by decide),(show (3:Int)≤7 by decide),(show (0:Nat)<_ by decide)⟩;have h2:=λ{K:KT} (b:Option Nat)=>Ns (K:=K) im (xJ t (jF now t.sc) sc) (iE s (LH sc) (pG t (jF now t.sc) sc) b) now (h b);have hge:decide ((0:Int)≤(jF now t.sc:Int))=true:=by simp
  generalize jF now t.sc=d at h1 h3 h4 h2 hge hk ⊢;refine sh0 Tryz.f12 ?_
  repeat' ((conv=>whnf);first | exact zf | refine (c_ (c_ ?_)) | refine zm ?_ | refine zc h1 ?_ | refine (ft hge ?_) | refine zc h3 ?_ | refine zr0 ?_ | refine (h4 (λb n=>?_)) | refine (h2 _ (λb'=>?_)) | refine And.intro ?_ ?_ | intro _)
  all_goals exact hk _ _
end Go.Proofs.YtjpgfgajkjhonaaGreatDoor