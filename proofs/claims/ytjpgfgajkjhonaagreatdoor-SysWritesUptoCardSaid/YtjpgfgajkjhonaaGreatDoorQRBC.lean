/- Lemmas. Conditions: none. -/
import Derived.Test.YtjpgfgajkjhonaaGreatDoorQRBB
set_option maxHeartbeats 4000000
namespace Go.Proofs.YtjpgfgajkjhonaaGreatDoor
open Go.Vx
set_option maxRecDepth 100000
def j8(s:b7)(kp:List Nat)(o:Ob)(b:Option Nat):b7:=bif ky o.l&&(bW (bm kp) s.th).isNone then qi s kp o b else s
structure Ww(s:b7)(kp:List Nat)(o:Ob):Prop where
  n:ee kp
  gs:lQ s
  l:cL o.l
  k3:3<=o.k
  k7:o.k<=7
  q:o.va.q.length<100000000
theorem Bd{K:KT}(s:b7)(kp:List Nat)(o:Ob)(h:Ww s kp o)(hk:∀b n,K (.ret (.d (.int .i64 n))) (jW (j8 s kp o b))):Z1 14 [.p 0 0,.d (.str (bm kp)),gJ o] (jW s) K:=by
 unfold j8 at hk;cases hl:ky o.l with
 |true=>
  rw[hl]at hk;cases hf:bW (bm kp) s.th with
  |none=>
   rw[hf]at hk;exact Ju s kp o h.n h.gs h.l h.k3 h.k7 hl h.q hf λb=>hk b 0
  |some p=>
   rw[hf]at hk;exact FE s kp o p.2 p.1 h.n h.l h.k3 h.k7 hl hf (hk none 12)
 |false=>
  rw[hl]at hk;exact DV s kp o h.n h.l (.inr hl) (hk none 1)
theorem G3{K:KT}(c:Ca)(s:b7)(v:Va)(e:Fx)(hl:c.t.c.st.length<1000000000)(hk:K (.ret (.tu [])) (Mq (ll c v) e false s)):Z1 241 [.p 0 0,j7 v] (Mq c e false s) K:=by
 have h1:=sx c.t.c v hl;cases e
 all_goals
  refine sh0 Tryz.f241 ?_
  exact zh1 hk h1
theorem D0{K:KT}(c:Ca)(s:b7)(kp:List Nat)(o:Ob)(e:Fx)(h:Ww s kp o)(hst:c.t.c.st.length<1000000000)(hk:∀b,K (.ret (.tu [])) (Mq (uU c (bm kp) o) e false (j8 s kp o b))) :
  Z1 252 [.p 0 0,.d (.str (bm kp)),gJ o] (Mq c e false s) K:=by
 have h1:=λ{K:KT}=>Bd (K:=K) s kp o h;have h2:=λ{K:KT}(b:Option Nat)=>G3 (K:=K) c (j8 s kp o b) ⟨o.k,0,bm kp,o.l.s,o.l.i⟩ e hst;cases e
 all_goals
  refine sh0 Tryz.f252 ?_
  repeat' ((conv=>whnf);first|exact zf|refine zm ?_|refine zr0 ?_|refine(h1 (λb n=>?_))|refine(h2 _ ?_)|intro _)
  exact hk _
structure EA(c:Ca)(s:b7)(o:Ob):Prop where
  n:Nc c.t
  g:jL c.t.g
  l:cL o.l
  gs:lQ s
  k3:3<=o.k
  k7:o.k<=7
  q:o.va.q.length<100000000
  st:c.t.c.st.length<1000000000
def jY(c:Ca)(s:b7)(o:Ob):OR:=
 bif bT c.t.g o.l==0 then(bif decide (c.t.ro<1)then .ex (-5) c s else .ok .no λb=>(uU {c with t:=jo c.t} (bm (kz c.t)) o,j8 s (kz c.t) o b))else .ex (bT c.t.g o.l) c s
theorem p8{K:KT}(c:Ca)(s:b7)(o:Ob)(h:EA c s o)(hk:(jY c s o).K K):Z1 237 [.p 0 0,gJ o] (eP c s) K:=by
 unfold jY at hk;have h1:=fR c.t.g o.l h.g h.l
 by_cases hw:bT c.t.g o.l=0
 .rw[hw]at hk h1
  by_cases hr:c.t.ro<1
  .rw[φ hr]at hk
   replace hk:K (.fg (n_ (-5))) (eP c s):=hk
   have h2:=λ{K:KT}=>CY (K:=K) c s hr;refine sh0 Tryz.f237 ?_
   repeat' ((conv=>whnf);first|exact zf|refine zm ?_|refine zc h1 ?_|intro _)
   conv=>whnf
   refine gg ?_
   repeat' ((conv=>whnf);first|exact zf|refine(dG (xM ?_))|refine zm ?_|refine zr0 ?_|refine(h2 ?_)|refine And.intro ?_ ?_|intro _)
   all_goals exact hk
  .rw[τ hr]at hk
   replace hk:∀b,K (.ret (.tu [])) (eP (uU {c with t:=jo c.t} (bm (kz c.t)) o) (j8 s (kz c.t) o b)):=hk
   have hm:c.t.ma=(c.t.ma.toNat:Nat):=by have:=h.n.m0;omega
   have h2:=λ{K:KT}=>wj (K:=K) c s (kK c.t.pa 0) c.t.ma.toNat h.n.pa hm h.n.ne h.n.le h.n.sm (by have:=h.n.m1;omega) (by omega) h.n.r2;have h4:=λ{K:KT}=>D0 (K:=K) {c with t:=jo c.t} s (kz c.t) o .no ⟨h.n.nF,h.gs,h.l,h.k3,h.k7,h.q⟩ h.st;refine sh0 Tryz.f237 ?_
   repeat' ((conv=>whnf);first|exact zf|refine zm ?_|refine zc h1 ?_|intro _)
   conv=>whnf
   refine gg ?_
   repeat' ((conv=>whnf);first|exact zf|refine(dG (dG ?_))|refine zm ?_|refine zr0 ?_|refine(h2 ?_)|refine(h4 (λb=>?_))|refine And.intro ?_ ?_|intro _)
   all_goals exact hk _
 .have hb:(bT c.t.g o.l==0)=false:=by simp[hw]
  rw[hb]at hk
  replace hk:K (.fg (n_ (bT c.t.g o.l))) (eP c s):=hk
  refine sh0 Tryz.f237 ?_
  repeat' ((conv=>whnf);first|exact zf|refine zm ?_|refine zc h1 ?_|refine(jr _ hw ?_)|intro _)
  exact hk
def yu(c:Ca)(a:Va)(l:Lb)(ro:Int):Th:=yW (bm (kz c.t)) ⟨c.t.g.cur,gT l⟩ (gA c00 c.o.a (gR c.im c.o.a) [a] c.ma) ro
def yv(c:Ca)(ro:Int):Ca:={c with t:={jo c.t with ro:=c.t.ro-1-ro}}
def jv(c:Ca)(l:Lb)(ro:Int):Int:=bif bT c.t.g l==0 then(bif decide (ro<0)||(decide (999<ro)||decide (c.t.ro<=ro))then -5 else 0)else bT c.t.g l
def Ck(c:Ca)(s:b7):OR:=bif bw [0,1,2] c.ar then
  (bif jv c (a_ (c.ar[2]?.getD dT)) (c.ar[1]?.getD dT).n == 0 then .ok (.fork (yu c (c.ar[0]?.getD dT) (a_ (c.ar[2]?.getD dT)) (c.ar[1]?.getD dT).n)) fun b => (uU (yv c (c.ar[1]?.getD dT).n) (bm (kz c.t)) { fK with k := 6, l := a_ (c.ar[2]?.getD dT) }, j8 s (kz c.t) { fK with k := 6, l := a_ (c.ar[2]?.getD dT) } b)
   else .ex (jv c (a_ (c.ar[2]?.getD dT)) (c.ar[1]?.getD dT).n) c s)else .ex (-1) c s
structure Vf(c:Ca)(s:b7)(l:Lb):Prop where
  n:Nc c.t
  g:jL c.t.g
  l:cL l
  gs:lQ s
  st:c.t.c.st.length<1000000000
theorem MR{K:KT}(c:Ca)(s:b7)(a r m:Va)(har:c.ar=[a,r,m])(h:Vf c s (a_ m))(hk:(Ck c s).K K):Z1 182 [.p 0 0] (eP c s) K:=by
  obtain⟨im,now,t,tr,o,ar,ma⟩:=c
  subst har
  have hw:=fR t.g (a_ m) h.g h.l
  unfold Ck at hk
  cases hb:bw [0,1,2] [a,r,m] with
  |true=>
    have h1:=λ{K:KT}=>dY (K:=K) ⟨im,now,t,tr,o,[a,r,m],ma⟩ s [0,1,2] (aM _) hb
    dsimp only at hk
    rw[hb,δ]at hk
    by_cases h0:bT t.g (a_ m)=0
    · rw [h0] at hw
      have e0:(bT t.g (a_ m)==0)=true:=by simp[h0]
      by_cases hr:r.n<0\/999<r.n\/t.ro<=r.n
      · have e1:jv ⟨im,now,t,tr,o,[a,r,m],ma⟩ (a_ m) r.n = -5:=by
          unfold jv
          dsimp only
          rw[e0,δ]
          have:(decide (r.n<0)||(decide (999<r.n)||decide (t.ro<=r.n)))=true:=by simpa using hr
          rw[this,δ]
        replace hk:OR.K (bif jv ⟨im,now,t,tr,o,[a,r,m],ma⟩ (a_ m) r.n==0 then .ok (.fork (yu ⟨im,now,t,tr,o,[a,r,m],ma⟩ a (a_ m) r.n)) λb=>(uU (yv ⟨im,now,t,tr,o,[a,r,m],ma⟩ r.n) (bm (kz t)) {fK with k:=6,l:=a_ m},j8 s (kz t) {fK with k:=6,l:=a_ m} b)else .ex (jv ⟨im,now,t,tr,o,[a,r,m],ma⟩ (a_ m) r.n) ⟨im,now,t,tr,o,[a,r,m],ma⟩ s) K:=hk
        rw[e1]at hk
        replace hk:K (.fg (n_ (-5))) (eP ⟨im,now,t,tr,o,[a,r,m],ma⟩ s):=hk
        have hr':r.n<0\/(¬r.n<0/\999<r.n)\/(¬r.n<0/\¬999<r.n/\t.ro<=r.n):=by omega
        clear hr
        rcases hr' with hr|hr|hr
        all_goals
          refine sh0 Tryz.f182 ?_
          repeat' ((conv=>whnf);first|exact zf|refine zm ?_|refine zr0 ?_|refine(h1 ?_)|refine⟨_,⟨by omega,rfl,rfl⟩,?_⟩|refine zc hw ?_|refine(gg ?_)|refine(jd _ ?_)|refine zt ?_|refine zu ?_|intro _)
          all_goals exact hk
      · have hr0:¬r.n<0/\¬999<r.n/\¬t.ro<=r.n:=by omega
        clear hr
        have e1:jv ⟨im,now,t,tr,o,[a,r,m],ma⟩ (a_ m) r.n=0:=by
          unfold jv
          dsimp only
          rw[e0,δ]
          have:(decide (r.n<0)||(decide (999<r.n)||decide (t.ro<=r.n)))=false:=by simp;omega
          rw[this,ε]
        replace hk:OR.K (bif jv ⟨im,now,t,tr,o,[a,r,m],ma⟩ (a_ m) r.n==0 then .ok (.fork (yu ⟨im,now,t,tr,o,[a,r,m],ma⟩ a (a_ m) r.n)) λb=>(uU (yv ⟨im,now,t,tr,o,[a,r,m],ma⟩ r.n) (bm (kz t)) {fK with k:=6,l:=a_ m},j8 s (kz t) {fK with k:=6,l:=a_ m} b)else .ex (jv ⟨im,now,t,tr,o,[a,r,m],ma⟩ (a_ m) r.n) ⟨im,now,t,tr,o,[a,r,m],ma⟩ s) K:=hk
        rw[e1]at hk
        have hm:t.ma=(t.ma.toNat:Nat):=by have:=h.n.m0;dsimp only at this;omega
        have hm1:t.ma.toNat<100:=by have:=h.n.m1;have:=h.n.m0;dsimp only at *;omega
        have hr2:=h.n.r2
        dsimp only at hr2
        have h2:=λ{K:KT}=>wj (K:=K) ⟨im,now,t,tr,o,[a,r,m],ma⟩ s (kK t.pa 0) t.ma.toNat h.n.pa hm h.n.ne h.n.le h.n.sm hm1 (by dsimp only;omega) hr2
        have h4:=vz (K:=λout hh=>out=.ret (.d (.int .i64 (gR im o.a)))/\hh=eP ⟨im,now,jo t,tr,o,[a,r,m],ma⟩ s) ⟨im,now,jo t,tr,o,[a,r,m],ma⟩ s o.a ⟨rfl,rfl⟩
        have h5:Z0 20 [gZ c00,.d (.int .i64 o.a),.d (.int .i64 (gR im o.a)),.d (.sl 5 ([a].map cE)),.d (.int .u8 ma)] (.tu [gZ (gA c00 o.a (gR im o.a) [a] ma),.d (.bool true)]):=kV c00 o.a (gR im o.a) [a] ma (by decide) (show 1<_ by decide)
        have h6:=jn (a_ m) h.l
        have h7:=Gy (bm (kz t)) ⟨t.g.cur,gT (a_ m)⟩ (gA c00 o.a (gR im o.a) [a] ma) r.n
        have h8:=λ{K:KT}=>D0 (K:=K) (yv ⟨im,now,t,tr,o,[a,r,m],ma⟩ r.n) s (kz t) {fK with k:=6,l:=a_ m} (.fork (yu ⟨im,now,t,tr,o,[a,r,m],ma⟩ a (a_ m) r.n)) ⟨h.n.nF,h.gs,h.l,(show(3:Int)<=6 by decide),(show(6:Int)<=7 by decide),(show(0:Nat)<_ by decide)⟩ h.st
        have hin:eK .i64 (t.ro-1-r.n):=by unfold eK;omega
        refine sh0 Tryz.f182 ?_
        repeat' ((conv=>whnf);first|exact zf|refine(bh (bu ?_):eO _ (eO (kZ _ _ _ _ 251 _ _ _ _ _ _ _) _))|refine zm ?_|refine zr0 ?_|refine(.inl ⟨hin,?_⟩)|refine(h1 ?_)|refine⟨_,⟨by omega,rfl,rfl⟩,?_⟩|refine zc hw ?_|refine(gg ?_)|refine(h2 ?_)|refine⟨_,_,h4,?_⟩|refine zc h5 ?_|refine zc h6 ?_|refine zc h7 ?_|refine(h8 (λb=>?_))|refine zt ?_|refine zu ?_|intro _)
        conv=>whnf
        exact hk _
    · have e0:(bT t.g (a_ m)==0)=false:=by simp[h0]
      have e1:jv ⟨im,now,t,tr,o,[a,r,m],ma⟩ (a_ m) r.n=bT t.g (a_ m):=by
        unfold jv
        dsimp only
        rw[e0,ε]
      replace hk:OR.K (bif jv ⟨im,now,t,tr,o,[a,r,m],ma⟩ (a_ m) r.n==0 then .ok (.fork (yu ⟨im,now,t,tr,o,[a,r,m],ma⟩ a (a_ m) r.n)) λb=>(uU (yv ⟨im,now,t,tr,o,[a,r,m],ma⟩ r.n) (bm (kz t)) {fK with k:=6,l:=a_ m},j8 s (kz t) {fK with k:=6,l:=a_ m} b)else .ex (jv ⟨im,now,t,tr,o,[a,r,m],ma⟩ (a_ m) r.n) ⟨im,now,t,tr,o,[a,r,m],ma⟩ s) K:=hk
      rw[e1,e0,ε]at hk
      refine sh0 Tryz.f182 ?_
      repeat' ((conv=>whnf);first|exact zf|refine zm ?_|refine zr0 ?_|refine(h1 ?_)|refine⟨_,⟨by omega,rfl,rfl⟩,?_⟩|refine zc hw ?_|refine(jr _ h0 ?_)|refine zt ?_|refine zu ?_|intro _)
      exact hk
  |false=>
    have h1:=λ{K:KT}=>dZ (K:=K) ⟨im,now,t,tr,o,[a,r,m],ma⟩ s [0,1,2] (aM _) hb
    dsimp only at hk
    rw[hb,ε]at hk
    refine sh0 Tryz.f182 ?_
    repeat' ((conv=>whnf);first|exact zf|refine zm ?_|refine zr0 ?_|refine(h1 ?_)|intro _)
    exact hk
def gY(c:Ca)(l:Lb):Ca:={c with t:={c.t with g:=uM c.t.g l}}
def qN(c:Ca)(s:b7):OR:=bif bw [5] c.ar then
  (bif bT c.t.g (a_ (c.ar[0]?.getD dT)) == 0 then (match dH s (c.ar[0]?.getD dT) with
    |none=>.ok .no λ_=>(kX (gY c (a_ (c.ar[0]?.getD dT))) (c.ar[0]?.getD dT).nm,s)
    |some (i,o)=>bif (eu o.va c.t.id).2.2.1 then .ok (mU (eu o.va c.t.id).2.2.2 []) λ_=>(ll (gY c (a_ (c.ar[0]?.getD dT))) (eu o.va c.t.id).2.1,jk s i (c.ar[0]?.getD dT).nm {o with va:=(eu o.va c.t.id).1})
      else .ok .no λ_=>(kX (gY c (a_ (c.ar[0]?.getD dT))) (c.ar[0]?.getD dT).nm,jk s i (c.ar[0]?.getD dT).nm {o with va:=(eu o.va c.t.id).1}))
   else .ex (bT c.t.g (a_ (c.ar[0]?.getD dT))) c s)else .ex (-1) c s
def vN(c:Ca)(s:b7):OR:=bif bw [5,0] c.ar then
  (bif bT c.t.g (a_ (c.ar[0]?.getD dT)) == 0 then (match dH s (c.ar[0]?.getD dT) with
    |none=>.ok .no λ_=>(kX (gY c (a_ (c.ar[0]?.getD dT))) (c.ar[0]?.getD dT).nm,s)
    |some (i,o)=>bif (jl o.va c.t.id (c.ar[1]?.getD dT)).2.1 then .ok (mU (jl o.va c.t.id (c.ar[1]?.getD dT)).2.2 [c.ar[1]?.getD dT]) λ_=>(gY c (a_ (c.ar[0]?.getD dT)),jk s i (c.ar[0]?.getD dT).nm {o with va:=(jl o.va c.t.id (c.ar[1]?.getD dT)).1})
      else .ok .no λ_=>(kX (gY c (a_ (c.ar[0]?.getD dT))) (c.ar[0]?.getD dT).nm,jk s i (c.ar[0]?.getD dT).nm {o with va:=(jl o.va c.t.id (c.ar[1]?.getD dT)).1}))
   else .ex (bT c.t.g (a_ (c.ar[0]?.getD dT))) c s)else .ex (-1) c s
theorem vj{q:List Wt}{i:Nat}:(rJ q i).length<=q.length:=by
 unfold rJ;rw[aK,bC,eJ];omega
theorem vD{x:Vr}{id:List UInt8}:(eu x id).1.q.length<=x.q.length+1:=by
 unfold eu;cases x.full with
 |false=>simp
 |true=>
  cases x.q[sM true x.q]? with
  |none=>exact cA _
  |some w=>exact eC vj
theorem yK{x:Vr}{id:List UInt8}{v:Va}:(jl x id v).1.q.length<=x.q.length+1:=by
 unfold jl;cases x.full with
 |true=>simp
 |false=>
  cases x.q[sM false x.q]? with
  |none=>exact cA _
  |some w=>exact eC vj
def JI(s:b7)(nm:List UInt8):Prop:=∀i o,bW nm s.th=some (i,o)->o.va.q.length<90000000
theorem JI.sm{s:b7}{nm:List UInt8}(h:JI s nm):wI s nm:=λi o ho=>by have:=h i o ho;omega
theorem AF{K:KT}(c:Ca)(s:b7)(h:Va)(har:c.ar=[h])(hs:jL c.t.g)(hl:cL (a_ h))(hst:c.t.c.st.length<1000000000)(hqa:JI s h.nm)(hk:(qN c s).K K):Z1 180 [.p 0 0] (eP c s) K:=by
 obtain⟨im,now,t,tr,op,ar,ma⟩:=c;subst har;unfold qN at hk;cases hb:bw [5] [h] with
 |true=>
  have h1:=λ{K:KT}=>dY (K:=K) ⟨im,now,t,tr,op,[h],ma⟩ s [5] (aM _) hb;dsimp only at hk;rw[hb,δ]at hk
  by_cases hw:bT t.g (a_ h)=0
  .have h2:=λ{K:KT}=>DF (K:=K) ⟨im,now,t,tr,op,[h],ma⟩ s (a_ h) hs hl hw;have h4:=λ{K:KT}=>ji (K:=K) (gY ⟨im,now,t,tr,op,[h],ma⟩ (a_ h)) s h hqa.sm
   replace hk:OR.K (match dH s h with
    |none=>.ok .no λ_=>(kX (gY ⟨im,now,t,tr,op,[h],ma⟩ (a_ h)) h.nm,s)
    |some (i,o)=>bif (eu o.va t.id).2.2.1 then .ok (mU (eu o.va t.id).2.2.2 []) λ_=>(ll (gY ⟨im,now,t,tr,op,[h],ma⟩ (a_ h)) (eu o.va t.id).2.1,jk s i h.nm {o with va:=(eu o.va t.id).1})
     else .ok .no λ_=>(kX (gY ⟨im,now,t,tr,op,[h],ma⟩ (a_ h)) h.nm,jk s i h.nm {o with va:=(eu o.va t.id).1})) K:=by
    have e0:(bT t.g (a_ h)==0)=true:=by simp[hw]
    have:=hk;rw[show(bT t.g (a_ ([h][0]?.getD dT))==0)=true from e0,δ]at this;exact this
   unfold l4 at h4;cases ht:dH s h with
   |none=>
    rw[ht]at h4 hk;have h5:=λ{K:KT}=>mV (K:=K) (gY ⟨im,now,t,tr,op,[h],ma⟩ (a_ h)) s h.nm;refine sh0 Tryz.f180 ?_
    repeat' ((conv=>whnf);first|exact zf|refine zm ?_|refine zr0 ?_|refine(h1 ?_)|refine(h2 ?_)|refine(h4 ?_)|refine(h5 ?_)|refine⟨_,⟨by omega,rfl,rfl⟩,?_⟩|refine zt ?_|refine zu ?_|intro _)
    exact hk none
   |some p=>
    obtain⟨i,o⟩:=p;rw[ht]at h4 hk;dsimp only at hk;have hlk:=mY ht;have hq:=hqa i o hlk;have h5:=Km o.va t.id (by omega);have hql:=vD (x:=o.va) (id:=t.id);generalize eu o.va t.id=r at h5 hql hk;obtain⟨y,v,b,w⟩:=r;have h6:=λ{K:KT}=>l9 (K:=K) s h.nm i {o with va:=y} o hlk rfl rfl (by dsimp only at hql⊢;omega);cases b with
    |true=>
     have h7:=λ{K:KT}=>j2 (K:=K) (gY ⟨im,now,t,tr,op,[h],ma⟩ (a_ h)) (jk s i h.nm {o with va:=y}) v hst;have h8:=λ{K:KT}=>Bn (K:=K) (ll (gY ⟨im,now,t,tr,op,[h],ma⟩ (a_ h)) v) (jk s i h.nm {o with va:=y}) w [];unfold mU at h8 hk;cases he:w == []
     all_goals
      rw[he]at h8 hk;refine sh0 Tryz.f180 ?_
      repeat' ((conv=>whnf);first|exact zf|refine zm ?_|refine zr0 ?_|refine(h1 ?_)|refine(h2 ?_)|refine(h4 ?_)|refine zc h5 ?_|refine(h6 ?_)|refine(h7 ?_)|refine(h8 ?_)|refine⟨_,⟨by omega,rfl,rfl⟩,?_⟩|refine zt ?_|refine zu ?_|intro _)
      exact hk none
    |false=>
     have h7:=λ{K:KT}=>mV (K:=K) (gY ⟨im,now,t,tr,op,[h],ma⟩ (a_ h)) (jk s i h.nm {o with va:=y}) h.nm;refine sh0 Tryz.f180 ?_
     repeat' ((conv=>whnf);first|exact zf|refine zm ?_|refine zr0 ?_|refine(h1 ?_)|refine(h2 ?_)|refine(h4 ?_)|refine zc h5 ?_|refine(h6 ?_)|refine(h7 ?_)|refine⟨_,⟨by omega,rfl,rfl⟩,?_⟩|refine zt ?_|refine zu ?_|intro _)
     exact hk none
  .have h2:=λ{K:KT}=>DG (K:=K) ⟨im,now,t,tr,op,[h],ma⟩ s (a_ h) hs hl hw;have e0:(bT t.g (a_ h)==0)=false:=by simp[hw]
   rw[show(bT t.g (a_ ([h][0]?.getD dT))==0)=false from e0,ε]at hk;refine sh0 Tryz.f180 ?_
   repeat' ((conv=>whnf);first|exact zf|refine zm ?_|refine zr0 ?_|refine(h1 ?_)|refine(h2 ?_)|refine⟨_,⟨by omega,rfl,rfl⟩,?_⟩|refine zt ?_|refine zu ?_|intro _)
   exact hk
 |false=>
  have h1:=λ{K:KT}=>dZ (K:=K) ⟨im,now,t,tr,op,[h],ma⟩ s [5] (aM _) hb;dsimp only at hk;rw[hb,ε]at hk;refine sh0 Tryz.f180 ?_
  repeat' ((conv=>whnf);first|exact zf|refine zm ?_|refine zr0 ?_|refine(h1 ?_)|intro _)
  exact hk
theorem Dx{K:KT}(c:Ca)(s:b7)(h v:Va)(har:c.ar=[h,v])(hs:jL c.t.g)(hl:cL (a_ h))(hqa:JI s h.nm)(hk:(vN c s).K K):Z1 181 [.p 0 0] (eP c s) K:=by
 obtain⟨im,now,t,tr,op,ar,ma⟩:=c;subst har;unfold vN at hk;cases hb:bw [5,0] [h,v] with
 |true=>
  have h1:=λ{K:KT}=>dY (K:=K) ⟨im,now,t,tr,op,[h,v],ma⟩ s [5,0] (aM _) hb;dsimp only at hk;rw[hb,δ]at hk
  by_cases hw:bT t.g (a_ h)=0
  .have h2:=λ{K:KT}=>DF (K:=K) ⟨im,now,t,tr,op,[h,v],ma⟩ s (a_ h) hs hl hw;have h4:=λ{K:KT}=>ji (K:=K) (gY ⟨im,now,t,tr,op,[h,v],ma⟩ (a_ h)) s h hqa.sm
   replace hk:OR.K (match dH s h with
    |none=>.ok .no λ_=>(kX (gY ⟨im,now,t,tr,op,[h,v],ma⟩ (a_ h)) h.nm,s)
    |some (i,o)=>bif (jl o.va t.id v).2.1 then .ok (mU (jl o.va t.id v).2.2 [v]) λ_=>(gY ⟨im,now,t,tr,op,[h,v],ma⟩ (a_ h),jk s i h.nm {o with va:=(jl o.va t.id v).1})
     else .ok .no λ_=>(kX (gY ⟨im,now,t,tr,op,[h,v],ma⟩ (a_ h)) h.nm,jk s i h.nm {o with va:=(jl o.va t.id v).1})) K:=by
    have e0:(bT t.g (a_ h)==0)=true:=by simp[hw]
    have:=hk;rw[show(bT t.g (a_ ([h,v][0]?.getD dT))==0)=true from e0,δ]at this;exact this
   unfold l4 at h4;cases ht:dH s h with
   |none=>
    rw[ht]at h4 hk;have h5:=λ{K:KT}=>mV (K:=K) (gY ⟨im,now,t,tr,op,[h,v],ma⟩ (a_ h)) s h.nm;refine sh0 Tryz.f181 ?_
    repeat' ((conv=>whnf);first|exact zf|refine zm ?_|refine zr0 ?_|refine(h1 ?_)|refine(h2 ?_)|refine(h4 ?_)|refine(h5 ?_)|refine⟨_,⟨by omega,rfl,rfl⟩,?_⟩|refine zt ?_|refine zu ?_|intro _)
    exact hk none
   |some p=>
    obtain⟨i,o⟩:=p;rw[ht]at h4 hk;dsimp only at hk;have hlk:=mY ht;have hq:=hqa i o hlk;have h5:=QB o.va t.id v (by omega);have hql:=yK (x:=o.va) (id:=t.id) (v:=v);generalize jl o.va t.id v=r at h5 hql hk;obtain⟨y,b,w⟩:=r;have h6:=λ{K:KT}=>l9 (K:=K) s h.nm i {o with va:=y} o hlk rfl rfl (by dsimp only at hql⊢;omega);cases b with
    |true=>
     have h8:=λ{K:KT}=>Bn (K:=K) (gY ⟨im,now,t,tr,op,[h,v],ma⟩ (a_ h)) (jk s i h.nm {o with va:=y}) w [v];unfold mU at h8 hk;cases he:w == []
     all_goals
      rw[he]at h8 hk;refine sh0 Tryz.f181 ?_
      repeat' ((conv=>whnf);first|exact zf|refine zm ?_|refine zr0 ?_|refine(h1 ?_)|refine(h2 ?_)|refine(h4 ?_)|refine zc h5 ?_|refine(h6 ?_)|refine(h8 ?_)|refine⟨_,⟨by omega,rfl,rfl⟩,?_⟩|refine zt ?_|refine zu ?_|intro _)
      exact hk none
    |false=>
     have h7:=λ{K:KT}=>mV (K:=K) (gY ⟨im,now,t,tr,op,[h,v],ma⟩ (a_ h)) (jk s i h.nm {o with va:=y}) h.nm;refine sh0 Tryz.f181 ?_
     repeat' ((conv=>whnf);first|exact zf|refine zm ?_|refine zr0 ?_|refine(h1 ?_)|refine(h2 ?_)|refine(h4 ?_)|refine zc h5 ?_|refine(h6 ?_)|refine(h7 ?_)|refine⟨_,⟨by omega,rfl,rfl⟩,?_⟩|refine zt ?_|refine zu ?_|intro _)
     exact hk none
  .have h2:=λ{K:KT}=>DG (K:=K) ⟨im,now,t,tr,op,[h,v],ma⟩ s (a_ h) hs hl hw;have e0:(bT t.g (a_ h)==0)=false:=by simp[hw]
   rw[show(bT t.g (a_ ([h,v][0]?.getD dT))==0)=false from e0,ε]at hk;refine sh0 Tryz.f181 ?_
   repeat' ((conv=>whnf);first|exact zf|refine zm ?_|refine zr0 ?_|refine(h1 ?_)|refine(h2 ?_)|refine⟨_,⟨by omega,rfl,rfl⟩,?_⟩|refine zt ?_|refine zu ?_|intro _)
   exact hk
 |false=>
  have h1:=λ{K:KT}=>dZ (K:=K) ⟨im,now,t,tr,op,[h,v],ma⟩ s [5,0] (aM _) hb;dsimp only at hk;rw[hb,ε]at hk;refine sh0 Tryz.f181 ?_
  repeat' ((conv=>whnf);first|exact zf|refine zm ?_|refine zr0 ?_|refine(h1 ?_)|intro _)
  exact hk
def tD(k:Int)(c:Ca)(s:b7):OR:=bif bw [0,2] c.ar then jY c s {fK with k:=k,l:=a_ (c.ar[1]?.getD dT),v:=c.ar[0]?.getD dT}else .ex (-1) c s
theorem Ak{K:KT}(c:Ca)(s:b7)(a m:Va)(har:c.ar=[a,m])(h:EA c s {fK with k:=3,l:=a_ m,v:=a})(hk:(tD 3 c s).K K):Z1 174 [.p 0 0] (eP c s) K:=by
 obtain⟨im,now,t,tr,o,ar,ma⟩:=c;subst har;have h2:=λ{K:KT}=>p8 (K:=K) ⟨im,now,t,tr,o,[a,m],ma⟩ s _ h;unfold tD at hk;cases hb:bw [0,2] [a,m] with
 |true=>
  have h1:=λ{K:KT}=>dY (K:=K) ⟨im,now,t,tr,o,[a,m],ma⟩ s [0,2] (aM _) hb;dsimp only at hk;rw[hb,δ]at hk
  replace hk:(jY ⟨im,now,t,tr,o,[a,m],ma⟩ s {fK with k:=3,l:=a_ m,v:=a}).K K:=hk
  generalize hR:jY ⟨im,now,t,tr,o,[a,m],ma⟩ s {fK with k:=3,l:=a_ m,v:=a}=R at h2 hk;cases R with
  |ok e f=>
   cases e
   all_goals
    refine sh0 Tryz.f174 ?_
    repeat' ((conv=>whnf);first|exact zf|refine zm ?_|refine zr0 ?_|refine(h1 ?_)|refine(h2 (λb=>?_))|refine⟨_,⟨by omega,rfl,rfl⟩,?_⟩|intro _)
    exact hk _
  |ex n c' s'=>
   have h3:=λ{K:KT}(g:K (.fg (n_ n)) (eP c' s'))=>h2 (K:=K) g;refine sh0 Tryz.f174 ?_
   repeat' ((conv=>whnf);first|exact zf|refine zm ?_|refine zr0 ?_|refine(h1 ?_)|refine(h3 ?_)|refine⟨_,⟨by omega,rfl,rfl⟩,?_⟩|intro _)
   exact hk
 |false=>
  have h1:=λ{K:KT}=>dZ (K:=K) ⟨im,now,t,tr,o,[a,m],ma⟩ s [0,2] (aM _) hb;dsimp only at hk;rw[hb,ε]at hk;refine sh0 Tryz.f174 ?_
  repeat' ((conv=>whnf);first|exact zf|refine zm ?_|refine zr0 ?_|refine(h1 ?_)|intro _)
  exact hk
theorem Aj{K:KT}(c:Ca)(s:b7)(a m:Va)(har:c.ar=[a,m])(h:EA c s {fK with k:=4,l:=a_ m,v:=a})(hk:(tD 4 c s).K K):Z1 176 [.p 0 0] (eP c s) K:=by
 obtain⟨im,now,t,tr,o,ar,ma⟩:=c;subst har;have h2:=λ{K:KT}=>p8 (K:=K) ⟨im,now,t,tr,o,[a,m],ma⟩ s _ h;unfold tD at hk;cases hb:bw [0,2] [a,m] with
 |true=>
  have h1:=λ{K:KT}=>dY (K:=K) ⟨im,now,t,tr,o,[a,m],ma⟩ s [0,2] (aM _) hb;dsimp only at hk;rw[hb,δ]at hk
  replace hk:(jY ⟨im,now,t,tr,o,[a,m],ma⟩ s {fK with k:=4,l:=a_ m,v:=a}).K K:=hk
  generalize hR:jY ⟨im,now,t,tr,o,[a,m],ma⟩ s {fK with k:=4,l:=a_ m,v:=a}=R at h2 hk;cases R with
  |ok e f=>
   cases e
   all_goals
    refine sh0 Tryz.f176 ?_
    repeat' ((conv=>whnf);first|exact zf|refine zm ?_|refine zr0 ?_|refine(h1 ?_)|refine(h2 (λb=>?_))|refine⟨_,⟨by omega,rfl,rfl⟩,?_⟩|intro _)
    exact hk _
  |ex n c' s'=>
   have h3:=λ{K:KT}(g:K (.fg (n_ n)) (eP c' s'))=>h2 (K:=K) g;refine sh0 Tryz.f176 ?_
   repeat' ((conv=>whnf);first|exact zf|refine zm ?_|refine zr0 ?_|refine(h1 ?_)|refine(h3 ?_)|refine⟨_,⟨by omega,rfl,rfl⟩,?_⟩|intro _)
   exact hk
 |false=>
  have h1:=λ{K:KT}=>dZ (K:=K) ⟨im,now,t,tr,o,[a,m],ma⟩ s [0,2] (aM _) hb;dsimp only at hk;rw[hb,ε]at hk;refine sh0 Tryz.f176 ?_
  repeat' ((conv=>whnf);first|exact zf|refine zm ?_|refine zr0 ?_|refine(h1 ?_)|intro _)
  exact hk
def wh(c:Ca)(s:b7):OR:=bif bw [2] c.ar then jY c s {fK with k:=5,l:=a_ (c.ar[0]?.getD dT)}else .ex (-1) c s
theorem Ai{K:KT}(c:Ca)(s:b7)(m:Va)(har:c.ar=[m])(h:EA c s {fK with k:=5,l:=a_ m})(hk:(wh c s).K K):Z1 179 [.p 0 0] (eP c s) K:=by
 obtain⟨im,now,t,tr,o,ar,ma⟩:=c;subst har;have h2:=λ{K:KT}=>p8 (K:=K) ⟨im,now,t,tr,o,[m],ma⟩ s _ h;unfold wh at hk;cases hb:bw [2] [m] with
 |true=>
  have h1:=λ{K:KT}=>dY (K:=K) ⟨im,now,t,tr,o,[m],ma⟩ s [2] (aM _) hb;dsimp only at hk;rw[hb,δ]at hk
  replace hk:(jY ⟨im,now,t,tr,o,[m],ma⟩ s {fK with k:=5,l:=a_ m}).K K:=hk
  generalize hR:jY ⟨im,now,t,tr,o,[m],ma⟩ s {fK with k:=5,l:=a_ m}=R at h2 hk;cases R with
  |ok e f=>
   cases e
   all_goals
    refine sh0 Tryz.f179 ?_
    repeat' ((conv=>whnf);first|exact zf|refine zm ?_|refine zr0 ?_|refine(h1 ?_)|refine(h2 (λb=>?_))|refine⟨_,⟨by omega,rfl,rfl⟩,?_⟩|intro _)
    exact hk _
  |ex n c' s'=>
   have h3:=λ{K:KT}(g:K (.fg (n_ n)) (eP c' s'))=>h2 (K:=K) g;refine sh0 Tryz.f179 ?_
   repeat' ((conv=>whnf);first|exact zf|refine zm ?_|refine zr0 ?_|refine(h1 ?_)|refine(h3 ?_)|refine⟨_,⟨by omega,rfl,rfl⟩,?_⟩|intro _)
   exact hk
 |false=>
  have h1:=λ{K:KT}=>dZ (K:=K) ⟨im,now,t,tr,o,[m],ma⟩ s [2] (aM _) hb;dsimp only at hk;rw[hb,ε]at hk;refine sh0 Tryz.f179 ?_
  repeat' ((conv=>whnf);first|exact zf|refine zm ?_|refine zr0 ?_|refine(h1 ?_)|intro _)
  exact hk
def wi(c:Ca)(s:b7):OR:=bif bw [2] c.ar then jY c s {fK with k:=7,l:=a_ (c.ar[0]?.getD dT),fu:=c.o.a,ma:=c.ma}else .ex (-1) c s
theorem yX{K:KT}(c:Ca)(s:b7)(m:Va)(har:c.ar=[m])(h:EA c s {fK with k:=7,l:=a_ m,fu:=c.o.a,ma:=c.ma})(hk:(wi c s).K K):Z1 188 [.p 0 0] (eP c s) K:=by
 obtain⟨im,now,t,tr,o,ar,ma⟩:=c;subst har;have h2:=λ{K:KT}=>p8 (K:=K) ⟨im,now,t,tr,o,[m],ma⟩ s _ h;unfold wi at hk;cases hb:bw [2] [m] with
 |true=>
  have h1:=λ{K:KT}=>dY (K:=K) ⟨im,now,t,tr,o,[m],ma⟩ s [2] (aM _) hb;dsimp only at hk;rw[hb,δ]at hk
  replace hk:(jY ⟨im,now,t,tr,o,[m],ma⟩ s {fK with k:=7,l:=a_ m,fu:=o.a,ma:=ma}).K K:=hk
  generalize hR:jY ⟨im,now,t,tr,o,[m],ma⟩ s {fK with k:=7,l:=a_ m,fu:=o.a,ma:=ma}=R at h2 hk;cases R with
  |ok e f=>
   cases e
   all_goals
    refine sh0 Tryz.f188 ?_
    repeat' ((conv=>whnf);first|exact zf|refine zm ?_|refine zr0 ?_|refine(h1 ?_)|refine(h2 (λb=>?_))|refine⟨_,⟨by omega,rfl,rfl⟩,?_⟩|intro _)
    exact hk _
  |ex n c' s'=>
   have h3:=λ{K:KT}(g:K (.fg (n_ n)) (eP c' s'))=>h2 (K:=K) g;refine sh0 Tryz.f188 ?_
   repeat' ((conv=>whnf);first|exact zf|refine zm ?_|refine zr0 ?_|refine(h1 ?_)|refine(h3 ?_)|refine⟨_,⟨by omega,rfl,rfl⟩,?_⟩|intro _)
   exact hk
 |false=>
  have h1:=λ{K:KT}=>dZ (K:=K) ⟨im,now,t,tr,o,[m],ma⟩ s [2] (aM _) hb;dsimp only at hk;rw[hb,ε]at hk;refine sh0 Tryz.f188 ?_
  repeat' ((conv=>whnf);first|exact zf|refine zm ?_|refine zr0 ?_|refine(h1 ?_)|intro _)
  exact hk
def jm(c:Ca)(s:b7):OR:=
 bif c.o.c==25 then RH c s else bif c.o.c==26 then RP c s else bif c.o.c==27 then oh c s else bif c.o.c==28 then wv c s else
 bif c.o.c==29 then tD 3 c s else bif c.o.c==30 then tA c s else bif c.o.c==32 then tD 4 c s else bif c.o.c==33 then pV c s else
 bif c.o.c==34 then qK c s else bif c.o.c==35 then wh c s else bif c.o.c==36 then qN c s else bif c.o.c==37 then vN c s else
 bif c.o.c==38 then Ck c s else bif c.o.c==39 then Bo c s else bif c.o.c==40 then wN c s else bif c.o.c==41 then A6 c s else
 bif c.o.c==42 then Ct c s else bif c.o.c==43 then Cb c s else bif c.o.c==45 then wi c s else bif c.o.c==46 then sH c s else .ex 0 c s
def codeF:List (Int×Nat×Int):=[(25,170,0),(26,171,0),(27,172,1),(28,173,1),(29,174,2),(30,175,1),(32,176,2),(33,177,1),(34,178,2),(35,179,1),(36,180,1),(37,181,2),(38,182,3),(39,183,1),(40,184,4),(41,185,2),(42,186,1),(43,187,1),(45,188,1),(46,189,2)]
structure D_(c:Ca)(s:b7):Prop where
  n:Nc c.t
  g:jL c.t.g
  ar:∀v∈c.ar,cL (a_ v)
  gs:lQ s
  st:c.t.c.st.length<800000000
  fr:c.t.c.fr.length<900000000
  sc:c.t.sc.length<900000000
  w:0<=c.now/\c.now<1000000000
  q:∀p∈s.th,p.2.va.q.length<90000000
theorem i_{key:List UInt8}:∀{l:List (List UInt8×Ob)}{i:Nat}{o:Ob},bW key l=some (i,o)->∃p∈l,p.2=o
 |[],_,_,h=>nomatch h
 |p::r,i,o,h=>by
  unfold bW at h
  by_cases hb:key=p.1
  .rw[ζ hb]at h;cases h;exact⟨p,b8 ..,rfl⟩
  .rw[η hb]at h;cases hr:bW key r with
   |none=>rw[hr]at h;cases h
   |some q=>
    rw[hr]at h;obtain⟨p',hp,he⟩:=i_ (i:=q.1) (o:=q.2) (by rw[hr]);cases h;exact⟨p',cM _ hp,he⟩
theorem D_.Qx{c:Ca}{s:b7}(h:D_ c s)(nm:List UInt8):JI s nm:=λi o ho=>by
 obtain⟨p,hp,he⟩:=i_ ho;rw[<-he];exact h.q p hp
theorem D_.Us{c:Ca}{s:b7}(h:D_ c s)(o:Ob)(hl:cL o.l)(h3:3<=o.k)(h7:o.k<=7)(hq:o.va.q.length<100000000):EA c s o:=⟨h.n,h.g,hl,h.gs,h3,h7,hq,by have:=h.st;omega⟩
theorem Ft(a b:Lb):cL (da a b):=⟨ft _,ft _⟩
theorem L4{K:KT}(c:Ca)(s:b7)(F:Nat)(po:Int)(hF:(c.o.c,F,po)∈codeF)(hl:(c.ar.length:Int)=po)(h:D_ c s)(hk:(jm c s).K K):Z1 F [.p 0 0] (eP c s) K:=by
 have hst:c.t.c.st.length<1000000000:=by have:=h.st;omega
 have hfr:c.t.c.fr.length<1000000000:=by have:=h.fr;omega
 unfold jm at hk;have a1:c.ar.length=1->∃m,c.ar=[m]:=λe=>eD.1 e;have a2:c.ar.length=2->∃a b,c.ar=[a,b]:=λe=>by
  match har:c.ar,e with
  |[a,b],_=>exact⟨a,b,rfl⟩
 simp only[codeF,af,bz,cU,or_false]at hF;rcases hF with⟨hc,rfl,rfl⟩|⟨hc,rfl,rfl⟩|⟨hc,rfl,rfl⟩|⟨hc,rfl,rfl⟩|⟨hc,rfl,rfl⟩|⟨hc,rfl,rfl⟩|⟨hc,rfl,rfl⟩|⟨hc,rfl,rfl⟩|⟨hc,rfl,rfl⟩|⟨hc,rfl,rfl⟩|⟨hc,rfl,rfl⟩|⟨hc,rfl,rfl⟩|⟨hc,rfl,rfl⟩|⟨hc,rfl,rfl⟩|⟨hc,rfl,rfl⟩|⟨hc,rfl,rfl⟩|⟨hc,rfl,rfl⟩|⟨hc,rfl,rfl⟩|⟨hc,rfl,rfl⟩|⟨hc,rfl,rfl⟩<;>rw[hc]at hk
 .exact RJ c s hst hk
 .exact RR c s hst hk
 .obtain⟨m,e⟩:=a1 (by omega);have hm:=h.ar m (by rw[e];exact b8 ..);exact GX c s m e h.g hm (Ft _ _) hk
 .obtain⟨m,e⟩:=a1 (by omega);have hm:=h.ar m (by rw[e];exact b8 ..);exact HF c s m e h.g hm hk
 .obtain⟨a,m,e⟩:=a2 (by omega);have hm:=h.ar m (by rw[e];exact cM _ (b8 ..));exact Ak c s a m e (h.Us _ hm (show(3:Int)<=3 by decide) (show(3:Int)<=7 by decide) (show(0:Nat)<_ by decide)) hk
 .obtain⟨m,e⟩:=a1 (by omega);have hm:=h.ar m (by rw[e];exact b8 ..);exact CN c s m e hst h.g hm (Ft _ _) (h.Qx _).sm hk
 .obtain⟨a,m,e⟩:=a2 (by omega);have hm:=h.ar m (by rw[e];exact cM _ (b8 ..));exact Aj c s a m e (h.Us _ hm (show(3:Int)<=4 by decide) (show(4:Int)<=7 by decide) (show(0:Nat)<_ by decide)) hk
 .obtain⟨m,e⟩:=a1 (by omega);have hm:=h.ar m (by rw[e];exact b8 ..);exact A2 c s m e hst h.g hm (Ft _ _) (h.Qx _).sm hk
 .obtain⟨a,v,e⟩:=a2 (by omega);have hm:=h.ar a (by rw[e];exact b8 ..);exact xj c s a v e h.g hm (h.Qx _).sm hk
 .obtain⟨m,e⟩:=a1 (by omega);have hm:=h.ar m (by rw[e];exact b8 ..);exact Ai c s m e (h.Us _ hm (show(3:Int)<=5 by decide) (show(5:Int)<=7 by decide) (show(0:Nat)<_ by decide)) hk
 .obtain⟨m,e⟩:=a1 (by omega);have hm:=h.ar m (by rw[e];exact b8 ..);exact AF c s m e h.g hm hst (h.Qx _) hk
 .obtain⟨a,v,e⟩:=a2 (by omega);have hm:=h.ar a (by rw[e];exact b8 ..);exact Dx c s a v e h.g hm (h.Qx _) hk
 .obtain⟨a,r,m,e⟩:∃a r m,c.ar=[a,r,m]:=by
   match har:c.ar,hl with
   |[a,r,m],_=>exact⟨a,r,m,rfl⟩
  have hm:=h.ar m (by rw[e];simp);exact MR c s a r m e ⟨h.n,h.g,hm,h.gs,hst⟩ hk
 .obtain⟨m,e⟩:=a1 (by omega);have hm:=h.ar m (by rw[e];exact b8 ..);exact K4 c s m e hst h.g hm (Ft _ _) (h.Qx _).sm hk
 .obtain⟨a,r,k,m,e⟩:∃a r k m,c.ar=[a,r,k,m]:=by
   match har:c.ar,hl with
   |[a,r,k,m],_=>exact⟨a,r,k,m,rfl⟩
  have hm:=h.ar m (by rw[e];simp);exact F_ c s a r k m e ⟨h.n,h.g,hm,hfr,by have:=h.sc;omega,h.w⟩ hk
 .obtain⟨a,m,e⟩:=a2 (by omega);have hm:=h.ar m (by rw[e];exact cM _ (b8 ..));exact Gb c s a m e h.g hm hk
 .obtain⟨m,e⟩:=a1 (by omega);have hm:=h.ar m (by rw[e];exact b8 ..);exact M0 c s m e h.g hm hk
 .obtain⟨m,e⟩:=a1 (by omega);have hm:=h.ar m (by rw[e];exact b8 ..);exact Lp c s m e h.g hm hk
 .obtain⟨m,e⟩:=a1 (by omega);have hm:=h.ar m (by rw[e];exact b8 ..);exact yX c s m e (h.Us _ hm (show(3:Int)<=7 by decide) (show(7:Int)<=7 by decide) (show(0:Nat)<_ by decide)) hk
 .obtain⟨a,m,e⟩:=a2 (by omega);have hm:=h.ar m (by rw[e];exact cM _ (b8 ..));exact JO c s a m e hfr hst h.g hm (Ft _ _) (h.Qx _).sm hk
theorem LN{K:H->Prop}(a b:D)(hk:K [.cells [.d a],.cells [.d b]]):Be Tryz.prog 169 [.p 0 0,.p 1 0] [.cells [.d a],.cells [.d b]] none K:=by
 exact s169 rfl (zh0 hk)
theorem LM{K:H->Prop}(a b:D)(n:Int)(hk:K [.cells [.d (.int .i64 n)],.cells [.d (.bool true)]]):Be Tryz.prog 169 [.p 0 0,.p 1 0] [.cells [.d a],.cells [.d b]] (some (n_ n)) K:=by
 exact s169 rfl (zh0 hk)
def OR.L(r:OR)(K:Out->H->Prop):Prop:=match r with
 |.ok e f=>∀b,K (.ret (.tu [.ag [.d (.int .i64 0)],.d (.bool false)])) (Mq (f b).1 e false (f b).2)
 |.ex n c s=>K (.ret (.tu [.ag [.d (.int .i64 n)],.d (.bool true)])) (eP c s)
theorem Lr{K:KT}(F:Nat)(hlt:Nat.blt F 5000000=true)(R:OR)(c:Ca)(s:b7)(hF:∀{K:KT},R.K K->Z1 F [.p 0 0] (eP c s) K)(hk:R.L K):Z1 115 [.p 0 0,.d (.fn F)] (eP c s) K:=by
 cases R with
 |ok e f=>
  cases e
  all_goals
   refine s115 (keep:=false) rfl ?_;unfold UH
   repeat' ((conv=>whnf);first|exact zf|refine zm ?_|intro _)
   conv=>whnf
   rw[hlt]
   repeat' ((conv=>whnf);first|exact zf|refine zm ?_|refine zr0 ?_|refine(hF (λb=>?_))|refine(LN _ _ ?_)|intro _)
   exact hk _
 |ex n c' s'=>
  have hF':=λ{K:KT}(h:K (.fg (n_ n)) (eP c' s'))=>hF (K:=K) h;refine s115 (keep:=false) rfl ?_;unfold UH
  repeat' ((conv=>whnf);first|exact zf|refine zm ?_|intro _)
  conv=>whnf
  rw[hlt]
  repeat' ((conv=>whnf);first|exact zf|refine zm ?_|refine zr0 ?_|refine(hF' ?_)|refine(LM _ _ _ ?_)|intro _)
  exact hk
def W8:List (Int×Nat):=[(25,170),(26,171),(27,172),(28,173),(29,174),(30,175),(32,176),(33,177),(34,178),(35,179),(36,180),(37,181),(38,182),(39,183),(40,184),(41,185),(42,186),(43,187),(45,188),(46,189)]
def U4:List (V×V):=W8.map λp=>(.d (.int .i64 p.1),.d (.fn p.2))
def DQ(c:Int)(F:Nat):Prop:=∃j,qI [0,3] [.d (.int .i64 c)] U4 0=some (some (j,.d (.fn F)))
theorem Jp{K:KT}(hk:K (.ret (.mp 0)) [.mp U4]):Z1 116 [] [] K:=by
 refine si0 Tryz.f116 ?_
 repeat' ((conv=>whnf);first|exact zf|refine zm ?_|refine⟨_,rfl,?_⟩|intro _)
 exact hk
def lZ(im:Im)(t:Th)(now:Int):Ca:=⟨im,now,t,(bQ t).tr,o0,[],0⟩
def qq(c:Ca)(k:Co):Ca:={c with t:={c.t with c:=k}}
def iu(c:Ca)(o:Op)(f:Fr)(po:Int):Ca:={c with o:=o,ma:=f.ma,ar:=kf c.t.c po,t:={c.t with c:={rR c.t.c po with fr:=bV c.t.c.fr f}}}
structure Rs where
  t:Th
  e:Fx
  d:Bool
  s:b7
def KJ(p:Ca×Bool×b7):Rs:=⟨p.1.t,.no,p.2.1,p.2.2⟩
def OR.A(r:OR)(gF:Co)(K:Out->H->Prop):Prop:=match r with
 |.ok e f=>∀b,K (.ret (.tu [])) (Mq (f b).1 e false (f b).2)
 |.ex n c s=>K (.ret (.tu [])) (UX (ke c s gF n))
def OR.fin(r:OR)(gF:Co)(b:Option Nat):Rs:=match r with
 |.ok e f=>⟨(f b).1.t,e,false,(f b).2⟩
 |.ex n c s=>KJ (ke c s gF n)
def FM(c:Ca)(s:b7):OR:=
 bif c.o.c==27 then oh c s else
 bif c.o.c==29 then EG 3 c s else
 bif c.o.c==30 then tA c s else
 bif c.o.c==32 then EG 4 c s else
 bif c.o.c==35 then Gx c s else
 bif c.o.c==41 then A6 c s else .ex 0 c s
def U3(c:Ca)(s:b7)(o:Op)(b:Option Nat):Rs:=
 match c.t.c.fr.getLast?,inf o.c with
 |some f,some i=>(FM (iu c o f i.po) s).fin c.t.c b
 |_,_=>⟨c.t,.no,false,s⟩
def Ek(im:Im)(t:Th)(s:b7)(now:Int)(b:Option Nat):Rs:=
 bif t.st != 0 then⟨t,.no,false,s⟩ else
 bif (du im t.c (bQ t).fr (bQ t).tr).2.k==1 then KJ (oK (qq (lZ im t now) (du im t.c (bQ t).fr (bQ t).tr).1) s (du im t.c (bQ t).fr (bQ t).tr).2.v false) else
 bif (du im t.c (bQ t).fr (bQ t).tr).2.k==2 then KJ (oK (qq (lZ im t now) (du im t.c (bQ t).fr (bQ t).tr).1) s (du im t.c (bQ t).fr (bQ t).tr).2.v true) else
 bif (du im t.c (bQ t).fr (bQ t).tr).2.k==3 then U3 (lZ im t now) s (du im t.c (bQ t).fr (bQ t).tr).2.o b else
 ⟨{t with c:=(du im t.c (bQ t).fr (bQ t).tr).1},.no,false,s⟩
theorem PC{K:KT}(c:Ca)(s:b7)(o:Op)(f:Fr)(i:Info)(F:Nat)(R:OR)(hi:inf o.c=some i)(hf:c.t.c.fr.getLast?=some f)(hlf:c.t.c.fr.length<900000000)(hls:c.t.c.st.length<800000000)(hp:ez c.t.c i.po=true)(hpc:0<=f.pc/\f.pc<1000000000)(hF:DQ o.c F)(hlt:Nat.blt F 5000000=true)
  (hR:∀{K:KT},R.K K->Z1 F [.p 0 0] (eP (iu c o f i.po) s) K) (hx:∀n c' s',R=.ex n c' s'->wI s' c'.t.id)
  (hk:R.A c.t.c K):Z1 73 [.p 0 0,Bc o] (XK c s) K:=by
 have h1:=oH hi;have h2:=yM c.t.c i.po (by omega);rw[lH hp]at h2;have hpos:0<c.t.c.fr.length:=by
  cases h:c.t.c.fr with
  |nil=>rw[h]at hf;cases hf
  |cons=>simp
 have hfl:c.t.c.fr[c.t.c.fr.length-1]?=some f:=by rw[<-dS];exact hf
 have hrow:=nC hpos hfl;have hml:(c.t.c.fr.map bS).length=c.t.c.fr.length:=aH _;obtain⟨ai,hA⟩:=hF;have er:(bV c.t.c.fr f).map bS=(c.t.c.fr.map bS).set (((c.t.c.fr.map bS).length:Int)-1).toNat [.int .i64 f.fu,.int .i64 (f.pc+1),.int .i64 f.ba,.int .u8 f.ma,.sl 5 (f.vars.map cE)]:=by
  unfold bV;rw[fX,aH];congr 1;omega
 have h4:=λ{K:KT}=>Lr (K:=K) F hlt R (iu c o f i.po) s hR;dsimp only[eP,kW,ei,iu]at h4;rw[er]at h4;refine sh0 Tryz.f73 ?_
 repeat' ((conv=>whnf);first|exact zf|refine zm ?_|refine zc h1 ?_|refine⟨bS f,⟨by omega,hrow,rfl⟩,?_⟩|refine zc h2 ?_|refine(sK (c.t.c.fr.map bS) (by omega) ?_)|intro _)
 conv=>whnf
 refine⟨bS f,hrow,?_⟩
 repeat' ((conv=>whnf);first|exact zf|refine zm ?_|intro _)
 conv=>whnf
 refine⟨bS f,hrow,⟨rfl,rfl,rfl⟩,?_⟩
 repeat' ((conv=>whnf);first|exact zf|refine(dG (dG (iy [7] ?_)))|refine zm ?_|refine zr0 ?_|refine(Jp ?_)|refine⟨_,hA,?_⟩|refine(h4 ?_)|refine And.intro ?_ ?_|intro _)
 all_goals
  clear h4 er h1 h2 hR;cases R with
  |ok e g=>
   cases e
   all_goals
    refine λb=>?_
    repeat' ((conv=>whnf);first|exact zf|refine zm ?_|refine(gG rfl ?_)|intro _)
    exact hk _
  |ex n c' s'=>
   have h5:=λ{K:KT}=>LP (K:=K) c' s' c.t.c n (by omega) (by omega) (hx n c' s' rfl)
   conv=>whnf
   repeat' ((conv=>whnf);first|exact zf|refine zm ?_|refine(gM rfl ?_)|refine zr0 ?_|refine(h5 ?_)|intro _)
   exact hk
theorem j1{c:Co}{n kp:Int}:(raise c n kp).2.k≠3:=by
 unfold raise;cases mX c n kp
 .exact(show(2:Int)≠3 by decide)
 .exact(show(0:Int)≠3 by decide)
theorem oX{b:Bool}{x y:Co×Ou}(hx:x.2.k≠3)(hy:y.2.k≠3):(bif b then x else y).2.k≠3:=by cases b<;>assumption
theorem lN{im:Im}{c:Co}{o:Op}{f:Fr}{l:List Va}:(fB im c o f l).2.k≠3:=(show(0:Int)≠3 by decide)
theorem fE{b:Bool}{x y:Co×Ou}{P:Prop}(hx:x.2.k≠3)(hy:b=false->y.2.k=3->P)(h:(bif b then x else y).2.k=3):P:=by
 cases b with
 |true=>exact absurd h hx
 |false=>exact hy rfl h
def H8(c:Int):Prop:=c≠1/\c≠2/\c≠3/\c≠4/\c≠5/\c≠6/\¬(7<=c/\c<=13)/\c≠14/\c≠15/\c≠16/\c≠17/\c≠18/\c≠19/\c≠20/\c≠21/\c≠22/\c≠23/\c≠44/\c≠47
theorem fm{a b:Int}(h:(a==b)=false):a≠b:=by simpa using h
theorem L1{im:Im}{c:Co}{fr tr:Int}{o:Op}{f:Fr}{P:Prop}(hp:mw im c fr tr o f=(c,⟨3,zeroV,o⟩)->o.c≠1->o.c≠2->o.c≠4->o.c≠5->o.c≠6->o.c≠12->¬(7<=o.c/\o.c<=13)->o.c≠14->o.c≠15->o.c≠16->o.c≠17->o.c≠18->o.c≠19->o.c≠20->o.c≠21->o.c≠44->o.c≠47->P)
  (h:(mw im c fr tr o f).2.k=3):P:=by
 have hp:=hp;unfold mw at h hp
 revert h
 have z0:∀{x:Co},(x,cD).2.k≠3:=λ{x}=>(show(0:Int)≠3 by decide)
 refine fE (lN) λh1=>?_;refine fE (lN) λh2=>?_;refine fE (lN) λh4=>?_;refine fE (lN) λh5=>?_;refine fE (lN) λh6=>?_;refine fE (lN) λh12=>?_;refine fE (oX (by split<;>first|exact lN|exact j1) (j1)) λh7=>?_;refine fE (oX (lN) (j1)) λh14=>?_;refine fE z0 λh15=>?_;refine fE (oX (oX (lN) z0) (j1)) λh16=>?_;refine fE (oX z0 (j1)) λh17=>?_;refine fE (oX (show(1:Int)≠3 by decide) z0) λh18=>?_;refine fE (oX (j1) (j1)) λh19=>?_;refine fE z0 λh20=>?_;refine fE (oX z0 (lN)) λh21=>?_;refine fE z0 λh44=>?_;refine fE (lN) λh47=>?_;intro _;have h7':¬(7<=o.c/\o.c<=13):=by simpa using h7
 refine hp ?_ (fm h1) (fm h2) (fm h4) (fm h5) (fm h6) (fm h12) h7' (fm h14) (fm h15) (fm h16) (fm h17) (fm h18) (fm h19) (fm h20) (fm h21) (fm h44) (fm h47);simp only[h1,h2,h4,h5,h6,h12,h7,h14,h15,h16,h17,h18,h19,h20,h21,h44,h47,ε]
theorem L0{im:Im}{c:Co}{fr tr:Int}{o:Op}{f:Fr}(h:(CO im c fr tr o f).2.k=3):CO im c fr tr o f=(c,⟨3,zeroV,o⟩)/\H8 o.c:=by
 have z0:∀{x:Co},(x,cD).2.k≠3:=λ{x}=>(show(0:Int)≠3 by decide)
 have h0:=h;unfold CO at h⊢
 revert h
 refine fE z0 λh3=>?_;refine fE (oX (lN) (j1)) λh22=>?_;refine fE (oX (lN) (j1)) λh23=>?_;refine L1 λhe a1 a2 a4 a5 a6 a12 a7 a14 a15 a16 a17 a18 a19 a20 a21 a44 a47=>?_;refine⟨?_,a1,a2,fm h3,a4,a5,a6,a7,a14,a15,a16,a17,a18,a19,a20,a21,fm h22,fm h23,a44,a47⟩;simp only[h3,h22,h23,ε];exact he
theorem Jc{c:Int}(h1:1<=c)(h2:c<=47)(ha:H8 c)(h24:c≠24)(h31:c≠31):∃F po,(c,F,po)∈codeF:=by
 unfold H8 at ha;have:c=25\/c=26\/c=27\/c=28\/c=29\/c=30\/c=32\/c=33\/c=34\/c=35\/c=36\/c=37\/c=38\/c=39\/c=40\/c=41\/c=42\/c=43\/c=45\/c=46:=by omega
 rcases this with rfl|rfl|rfl|rfl|rfl|rfl|rfl|rfl|rfl|rfl|rfl|rfl|rfl|rfl|rfl|rfl|rfl|rfl|rfl|rfl
 .exact⟨170,0,by decide⟩
 .exact⟨171,0,by decide⟩
 .exact⟨172,1,by decide⟩
 .exact⟨173,1,by decide⟩
 .exact⟨174,2,by decide⟩
 .exact⟨175,1,by decide⟩
 .exact⟨176,2,by decide⟩
 .exact⟨177,1,by decide⟩
 .exact⟨178,2,by decide⟩
 .exact⟨179,1,by decide⟩
 .exact⟨180,1,by decide⟩
 .exact⟨181,2,by decide⟩
 .exact⟨182,3,by decide⟩
 .exact⟨183,1,by decide⟩
 .exact⟨184,4,by decide⟩
 .exact⟨185,2,by decide⟩
 .exact⟨186,1,by decide⟩
 .exact⟨187,1,by decide⟩
 .exact⟨188,1,by decide⟩
 .exact⟨189,2,by decide⟩
theorem xN{c:Int}{F:Nat}{po:Int}(h:(c,F,po)∈codeF):(∃i,inf c=some i/\i.po=po)/\DQ c F/\Nat.blt F 5000000=true/\c≠17:=by
 simp only[codeF,af,bz,cU,or_false]at h;rcases h with⟨rfl,rfl,rfl⟩|⟨rfl,rfl,rfl⟩|⟨rfl,rfl,rfl⟩|⟨rfl,rfl,rfl⟩|⟨rfl,rfl,rfl⟩|⟨rfl,rfl,rfl⟩|⟨rfl,rfl,rfl⟩|⟨rfl,rfl,rfl⟩|⟨rfl,rfl,rfl⟩|⟨rfl,rfl,rfl⟩|⟨rfl,rfl,rfl⟩|⟨rfl,rfl,rfl⟩|⟨rfl,rfl,rfl⟩|⟨rfl,rfl,rfl⟩|⟨rfl,rfl,rfl⟩|⟨rfl,rfl,rfl⟩|⟨rfl,rfl,rfl⟩|⟨rfl,rfl,rfl⟩|⟨rfl,rfl,rfl⟩|⟨rfl,rfl,rfl⟩ <;>
  exact⟨⟨_,rfl,rfl⟩,⟨_,rfl⟩,rfl,by decide⟩
def R6(c:Ca)(s:b7)(o:Op)(b:Option Nat):Rs:=
 match c.t.c.fr.getLast?,inf o.c with
 |some f,some i=>(jm (iu c o f i.po) s).fin c.t.c b
 |_,_=>⟨c.t,.no,false,s⟩
def FP(im:Im)(t:Th)(s:b7)(now:Int)(b:Option Nat):Rs:=
 bif t.st != 0 then⟨t,.no,false,s⟩ else
 bif (du im t.c (bQ t).fr (bQ t).tr).2.k==1 then KJ (oK (qq (lZ im t now) (du im t.c (bQ t).fr (bQ t).tr).1) s (du im t.c (bQ t).fr (bQ t).tr).2.v false) else
 bif (du im t.c (bQ t).fr (bQ t).tr).2.k==2 then KJ (oK (qq (lZ im t now) (du im t.c (bQ t).fr (bQ t).tr).1) s (du im t.c (bQ t).fr (bQ t).tr).2.v true) else
 bif (du im t.c (bQ t).fr (bQ t).tr).2.k==3 then R6 (lZ im t now) s (du im t.c (bQ t).fr (bQ t).tr).2.o b else
 ⟨{t with c:=(du im t.c (bQ t).fr (bQ t).tr).1},.no,false,s⟩
structure Rw(im:Im)(t:Th)(s:b7)(now:Int):Prop where
  x:Rv im t.c
  n:Nc t
  g:jL t.g
  gs:lQ s
  sc:t.sc.length<900000000
  w:0<=now/\now<1000000000
  q:∀p∈s.th,p.2.va.q.length<90000000
theorem Rw.XZ{im:Im}{t:Th}{s:b7}{now:Int}(h:Rw im t s now)(nm:List UInt8):wI s nm:=λi o ho=>by
 obtain⟨p,hp,he⟩:=i_ ho;rw[<-he];have:=h.q p hp;omega
theorem vF{im:Im}{c:Co}{fr tr:Int}(h:Rv im c)(hk:(du im c fr tr).2.k=3):∃o f F po,du im c fr tr=(c,⟨3,zeroV,o⟩)/\c.fr.getLast?=some f/\(o.c,F,po)∈codeF/\ez c po=true/\(0<=f.pc/\f.pc<1000000000):=by
 unfold du at hk⊢;cases hf:fit im c with
 |none=>rw[hf]at hk;exact absurd hk (show ¬(2:Int)=3 by decide)
 |some o=>
  rw[hf]at hk;obtain⟨f,fn,hl,w1,hfn,w2,ho,hr,hop,hpo⟩:=nI hf;simp only[hl]at hk⊢;obtain⟨e,ha⟩:=L0 hk;obtain⟨i,hi⟩:∃i,inf o.c=some i:=by
   unfold jN at hr;cases hi:inf o.c with
   |none=>rw[hi]at hr;cases hr
   |some i=>exact⟨i,rfl⟩
  obtain⟨b1,b2,_⟩:=te hi;obtain⟨d1,d2⟩:=h.dm o hf;obtain⟨F,po,hF⟩:=Jc b1 b2 ha d1 d2;obtain⟨⟨i',hi',hpi⟩,_,_,h17⟩:=xN hF;have ht:fL im o=po:=by
   unfold fL;rw[hi'];rw[show(o.c==17)=false by simp[h17]];exact hpi
  rw[ht]at hpo;obtain⟨p1,p2⟩:=within_iff.1 w2;have hcd:=h.cd _ _ hfn;exact⟨o,f,F,po,e,rfl,hF,hpo,p1,by omega⟩
theorem DP{im:Im}{t:Th}{now:Int}{o:Op}{f:Fr}{po:Int}(hp:ez t.c po=true):((iu (lZ im t now) o f po).ar.length:Int)=po:=by
 have h:=(mo hp).1;have h0:0<=po:=by simp[ez]at hp;omega
 show((kf t.c po).length:Int)=po;rw[h];omega
theorem R4{im:Im}{t:Th}{s:b7}{now:Int}{o:Op}{f:Fr}{po:Int}(h:Rw im t s now)(hp:ez t.c po=true):D_ (iu (lZ im t now) o f po) s where
 n:=⟨h.n.pa,h.n.ne,h.n.le,h.n.sm,h.n.m0,h.n.m1,h.n.r2⟩
 g:=h.g
 ar:=λv hv=>h.x.sm v (dJ hv)
 gs:=h.gs
 st:=by
  have h1:=(mo hp).2;have h2:=h.x.ls;show(rR t.c po).st.length<800000000;omega
 fr:=by
  show(bV t.c.fr f).length<900000000;unfold bV;rw[ga];exact h.x.lf
 sc:=h.sc
 w:=h.w
 q:=h.q
def OR.keeps(r:OR)(s:b7):Prop:=match r with
 |.ok _ _=>True
 |.ex _ _ s'=>s'=s
theorem bH{b:Bool}{x y:OR}{s:b7}(hx:x.keeps s)(hy:y.keeps s):(bif b then x else y).keeps s:=by cases b<;>assumption
theorem dK{e:Fx}{f:Option Nat->Ca×b7}{s:b7}:(OR.ok e f).keeps s:=trivial
theorem cN{n:Int}{c:Ca}{s:b7}:(OR.ex n c s).keeps s:=rfl
theorem nu{c:Ca}{s:b7}{o:Ob}:(jY c s o).keeps s:=bH (bH cN dK) cN
theorem Ay{c:Ca}{s:b7}{l:Lb}:(me c s l).keeps s:=bH dK cN
theorem EV{c:Ca}{s:b7}{o:Ob}:(mJ c s o).keeps s:=bH cN dK
theorem EW{c:Ca}{s:b7}{h:Va}:(pW c s h mJ).keeps s:=by
 unfold pW;refine bH ?_ cN;cases dH s h with
 |none=>exact dK
 |some p=>exact EV
theorem pB{c:Ca}{s:b7}{h:Va}{go:Ca->b7->Ob->RQ}(hg:∀c o,(go c s o).or.keeps s):(h_ c s h go).or.keeps s:=by
 unfold h_;cases dN c.t.g (a_ h)==0 with
 |false=>exact cN
 |true=>
  cases dH s h with
  |none=>exact dK
  |some p=>exact hg _ _
theorem EU{c:Ca}{s:b7}{o:Ob}:(mW c s o).or.keeps s:=by
 unfold mW;cases o.dn
 .exact dK
 .cases o.ex
  .exact dK
  .exact cN
theorem Az{c:Ca}{s:b7}{o:Ob}:(jx c s o).or.keeps s:=by
 unfold jx;cases db c.t.c
 .exact cN
 .exact dK
theorem H4{c:Ca}{s:b7}:(qN c s).keeps s:=by
 unfold qN;refine bH (bH ?_ cN) cN;cases dH s (c.ar[0]?.getD dT) with
 |none=>exact dK
 |some p=>exact bH dK dK
theorem H5{c:Ca}{s:b7}:(vN c s).keeps s:=by
 unfold vN;refine bH (bH ?_ cN) cN;cases dH s (c.ar[0]?.getD dT) with
 |none=>exact dK
 |some p=>exact bH dK dK
theorem Ax{c:Ca}{s:b7}:(qK c s).keeps s:=by
 unfold qK;refine bH (bH ?_ cN) cN;cases dH s (c.ar[0]?.getD dT) with
 |none=>exact dK
 |some p=>exact dK
theorem yS(c:Ca)(s:b7):(jm c s).keeps s:=by
 unfold jm;refine bH dK (bH dK (bH (bH Ay cN) (bH (bH (bH dK cN) cN) (bH (bH nu cN) (bH (bH EW cN) (bH (bH nu cN) (bH (bH (pB λ_ _=>dK) cN)
  (bH Ax (bH (bH nu cN) (bH H4 (bH H5 (bH (bH (bH dK cN) cN) (bH (bH (pB λ_ _=>EU) cN) (bH (bH (bH dK cN) cN) (bH (bH (bH dK cN) cN)
  (bH (bH (bH dK cN) cN) (bH (bH (bH dK cN) cN) (bH (bH nu cN) (bH (bH (pB λ_ _=>Az) cN) cN)))))))))))))))))))
theorem Gl{c c':Ca}{s s':b7}{n:Int}(h:jm c s=.ex n c' s')(hq:∀p∈s.th,p.2.va.q.length<90000000):wI s' c'.t.id:=by
 have:=yS c s;rw[h]at this;have e:s'=s:=this;intro i o ho;obtain⟨p,hp,he⟩:=i_ ho;rw[<-he];rw[e]at hp;have:=hq p hp;omega
theorem Nz {K:KT} (im:Im) (t:Th) (s:b7) (now:Int) (h:t.st=0→Rw im t s now) (hk:∀b,K (.ret (.tu [ep (FP im t s now b).t,re ((FP im t s now b).e.ef (FP im t s now b).d)])) (jW (FP im t s now b).s)) :
    Z1 34 [x4 im,ep t,.p 0 0,.d (.int .i64 now)] (jW s) K:=by
  unfold FP at hk
  by_cases h0:t.st=0
  · have hz:(t.st != 0)=false:=by simp[h0]
    rw[hz]at hk
    have hd:=h h0
    have h1:=xI t
    have h2:=Kq (fr:=(bQ t).fr) (tr:=(bQ t).tr) hd.x
    have hq:=hd.XZ t.id
    have hask:=vF (fr:=(bQ t).fr) (tr:=(bQ t).tr) hd.x
    unfold St at h2
    generalize hr:du im t.c (bQ t).fr (bQ t).tr=r at h2 hk hask
    obtain⟨k,u⟩:=r
    by_cases k1:u.k=1
    · rw[show(u.k==1)=true by simp[k1]]at hk
      have h3:=λ{K:KT}=>nz (K:=K) (qq (lZ im t now) k) s u.v false hq
      refine sh0 Tryz.f34 ?_
      repeat' ((conv=>whnf);first|exact zf|refine zm ?_|refine zc h1 ?_|refine zc h2 ?_|refine zr0 ?_|refine(h3 ?_)|refine zt ?_|refine zu ?_|intro _)
      exact hk none
    · by_cases k2:u.k=2
      · rw[show(u.k==1)=false by simp[k1],show(u.k==2)=true by simp[k2]]at hk
        have h3:=λ{K:KT}=>nz (K:=K) (qq (lZ im t now) k) s u.v true hq
        refine sh0 Tryz.f34 ?_
        repeat' ((conv=>whnf);first|exact zf|refine zm ?_|refine zc h1 ?_|refine zc h2 ?_|refine zr0 ?_|refine(h3 ?_)|refine zt ?_|refine zu ?_|intro _)
        exact hk none
      · by_cases k3:u.k=3
        · rw [show (u.k == 1) = false by simp [k1], show (u.k == 2) = false by simp [k2], show (u.k == 3) = true by simp [k3]] at hk
          obtain⟨o,f,F,po,e,hf,hcf,hp,hpc⟩:=hask k3
          cases e
          obtain⟨⟨i,hi,hpi⟩,hF,hlt,_⟩:=xN hcf
          subst hpi
          have hR:=λ{K:KT}=>L4 (K:=K) (iu (lZ im t now) o f i.po) s F i.po hcf (DP hp) (R4 hd hp)
          have hx:=λn c' s'(h:jm (iu (lZ im t now) o f i.po) s=.ex n c' s')=>Gl h hd.q
          have h3:=λ{K:KT}=>PC (K:=K) (lZ im t now) s o f i F _ hi hf hd.x.lf hd.x.ls hp hpc hF hlt hR hx
          replace hk:∀b,K (.ret (.tu [ep ((jm (iu (lZ im t now) o f i.po) s).fin t.c b).t,re (((jm (iu (lZ im t now) o f i.po) s).fin t.c b).e.ef ((jm (iu (lZ im t now) o f i.po) s).fin t.c b).d)])) (jW ((jm (iu (lZ im t now) o f i.po) s).fin t.c b).s):=λb=>by
            have:=hk b
            unfold R6 at this
            rw[show(lZ im t now).t.c.fr.getLast?=some f from hf,hi]at this
            exact this
          generalize jm (iu (lZ im t now) o f i.po) s=R at h3 hk
          cases R with
          |ok e g=>
            cases e
            all_goals
              refine sh0 Tryz.f34 ?_
              repeat' ((conv=>whnf);first|exact zf|refine zm ?_|refine zc h1 ?_|refine zc h2 ?_|refine zr0 ?_|refine(h3 (λb=>?_))|refine zt ?_|refine zu ?_|intro _)
              exact hk _
          |ex n c' s'=>
            have h4:=λ{K:KT}(g:K (.ret (.tu [])) (UX (ke c' s' t.c n)))=>h3 (K:=K) g
            refine sh0 Tryz.f34 ?_
            repeat' ((conv=>whnf);first|exact zf|refine zm ?_|refine zc h1 ?_|refine zc h2 ?_|refine zr0 ?_|refine(h4 ?_)|refine zt ?_|refine zu ?_|intro _)
            exact hk none
        · rw[show(u.k==1)=false by simp[k1],show(u.k==2)=false by simp[k2],show(u.k==3)=false by simp[k3]]at hk
          refine sh0 Tryz.f34 ?_
          repeat' ((conv=>whnf);first|exact zf|refine zm ?_|refine zc h1 ?_|refine zc h2 ?_|refine zt ?_|refine zu ?_|intro _)
          exact hk none
  · have hz:(t.st != 0)=true:=by simp[h0]
    rw[hz]at hk
    refine sh0 Tryz.f34 ?_
    repeat' ((conv=>whnf);first|exact zf|refine zm ?_|refine zt ?_|refine zu ?_|intro _)
    exact hk none
def zr(im:Im)(t:Th)(s:b7):H:=[.cells ([.d (.sl 5 (im.cs.map cE)),.d (.sl 3 (im.fs.map dc)),.p 1 0]++(ei t).map .d),.cells [.mp 2,.mp 3],.dm (jV s.th),.ms 1 (kM s.nm) none none]
def LF(s:Sc):List Nat:=kK s.nm 0
structure Nb(s:Sc):Prop where
  nm:s.nm=bm (LF s)
  g:ee (LF s)
  l:cL s.l
def dA(t:Th)(s:b7)(now:Int)(b:Option Nat):Th×b7:=match t.sc[jD now t.sc]? with
 |some sc=>(wy t (jD now t.sc) sc,j8 s (LF sc) (qW t (jD now t.sc) sc) b)
 |none=>(t,s)
end Go.Proofs.YtjpgfgajkjhonaaGreatDoor