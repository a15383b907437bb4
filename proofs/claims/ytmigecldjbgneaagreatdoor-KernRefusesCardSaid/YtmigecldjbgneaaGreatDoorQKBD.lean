/- Lemmas. Conditions: none. -/
import Derived.Test.YtmigecldjbgneaaGreatDoorQKBC
set_option maxHeartbeats 16000000
namespace Go.Proofs.YtmigecldjbgneaaGreatDoor
open Go.Vx
set_option maxRecDepth 100000
def gZ(c:Ca)(l:Lb):Ca:={c with t:={c.t with g:=ur c.t.g l}}
def rA(c:Ca)(s:br):OR:=bif cH [5] c.ar then
  (bif b5 c.t.g (bF (c.ar[0]?.getD ck)) == 0 then (match dD s (c.ar[0]?.getD ck) with
    |none=>.ok .no λ_=>(kz (gZ c (bF (c.ar[0]?.getD ck))) (c.ar[0]?.getD ck).nm,s)
    |some (i,o)=>bif (e_ o.va c.t.id).2.2.1 then .ok (nJ (e_ o.va c.t.id).2.2.2 []) λ_=>(mE (gZ c (bF (c.ar[0]?.getD ck))) (e_ o.va c.t.id).2.1,jw s i (c.ar[0]?.getD ck).nm {o with va:=(e_ o.va c.t.id).1})
      else .ok .no λ_=>(kz (gZ c (bF (c.ar[0]?.getD ck))) (c.ar[0]?.getD ck).nm,jw s i (c.ar[0]?.getD ck).nm {o with va:=(e_ o.va c.t.id).1}))
   else .ex (b5 c.t.g (bF (c.ar[0]?.getD ck))) c s)else .ex (-1) c s
def vr(c:Ca)(s:br):OR:=bif cH [5,0] c.ar then
  (bif b5 c.t.g (bF (c.ar[0]?.getD ck)) == 0 then (match dD s (c.ar[0]?.getD ck) with
    |none=>.ok .no λ_=>(kz (gZ c (bF (c.ar[0]?.getD ck))) (c.ar[0]?.getD ck).nm,s)
    |some (i,o)=>bif (jx o.va c.t.id (c.ar[1]?.getD ck)).2.1 then .ok (nJ (jx o.va c.t.id (c.ar[1]?.getD ck)).2.2 [c.ar[1]?.getD ck]) λ_=>(gZ c (bF (c.ar[0]?.getD ck)),jw s i (c.ar[0]?.getD ck).nm {o with va:=(jx o.va c.t.id (c.ar[1]?.getD ck)).1})
      else .ok .no λ_=>(kz (gZ c (bF (c.ar[0]?.getD ck))) (c.ar[0]?.getD ck).nm,jw s i (c.ar[0]?.getD ck).nm {o with va:=(jx o.va c.t.id (c.ar[1]?.getD ck)).1}))
   else .ex (b5 c.t.g (bF (c.ar[0]?.getD ck))) c s)else .ex (-1) c s
theorem wQ{q:List Wt}{i:Nat}:(lp q i).length<=q.length:=by
 unfold lp;rw[aM,a_,dt];omega
theorem vg{x:Vr}{id:List UInt8}:(e_ x id).1.q.length<=x.q.length+1:=by
 unfold e_;cases x.full with
 |false=>simp
 |true=>
  cases x.q[tB true x.q]? with
  |none=>exact bM _
  |some w=>exact cU wQ
theorem zD{x:Vr}{id:List UInt8}{v:Va}:(jx x id v).1.q.length<=x.q.length+1:=by
 unfold jx;cases x.full with
 |true=>simp
 |false=>
  cases x.q[tB false x.q]? with
  |none=>exact bM _
  |some w=>exact cU wQ
def Jr(s:br)(nm:List UInt8):Prop:=∀i o,bw nm s.th=some (i,o)->o.va.q.length<90000000
theorem Jr.sm{s:br}{nm:List UInt8}(h:Jr s nm):yt s nm:=λi o ho=>by have:=h i o ho;omega
theorem An{K:KT}(c:Ca)(s:br)(h:Va)(har:c.ar=[h])(hs:jl c.t.g)(hl:cC (bF h))(hst:c.t.c.st.length<1000000000)(hqa:Jr s h.nm)(hk:(rA c s).K K):Z1 208 [.p 0 0] (fE c s) K:=by
 obtain⟨im,now,t,tr,op,ar,ma⟩:=c;subst har;unfold rA at hk;cases hb:cH [5] [h] with
 |true=>
  have h1:=λ{K:KT}=>dp (K:=K) ⟨im,now,t,tr,op,[h],ma⟩ s [5] (aL _) hb;dsimp only at hk;rw[hb,δ]at hk
  by_cases hw:b5 t.g (bF h)=0
  .have h2:=λ{K:KT}=>Dy (K:=K) ⟨im,now,t,tr,op,[h],ma⟩ s (bF h) hs hl hw;have h4:=λ{K:KT}=>ju (K:=K) (gZ ⟨im,now,t,tr,op,[h],ma⟩ (bF h)) s h hqa.sm
   replace hk:OR.K (match dD s h with
    |none=>.ok .no λ_=>(kz (gZ ⟨im,now,t,tr,op,[h],ma⟩ (bF h)) h.nm,s)
    |some (i,o)=>bif (e_ o.va t.id).2.2.1 then .ok (nJ (e_ o.va t.id).2.2.2 []) λ_=>(mE (gZ ⟨im,now,t,tr,op,[h],ma⟩ (bF h)) (e_ o.va t.id).2.1,jw s i h.nm {o with va:=(e_ o.va t.id).1})
     else .ok .no λ_=>(kz (gZ ⟨im,now,t,tr,op,[h],ma⟩ (bF h)) h.nm,jw s i h.nm {o with va:=(e_ o.va t.id).1})) K:=by
    have e0:(b5 t.g (bF h)==0)=true:=by simp[hw]
    have:=hk;rw[show(b5 t.g (bF ([h][0]?.getD ck))==0)=true from e0,δ]at this;exact this
   unfold l_ at h4;cases ht:dD s h with
   |none=>
    rw[ht]at h4 hk;have h5:=λ{K:KT}=>nK (K:=K) (gZ ⟨im,now,t,tr,op,[h],ma⟩ (bF h)) s h.nm;refine sh0 Tryz.f208 ?_
    repeat' ((conv=>whnf);first|exact zf|refine zm ?_|refine zr0 ?_|refine(h1 ?_)|refine(h2 ?_)|refine(h4 ?_)|refine(h5 ?_)|refine⟨_,⟨by omega,rfl,rfl⟩,?_⟩|refine zB ?_ ?_|refine zt ?_|refine zu ?_|intro _)
    exact hk none
   |some p=>
    obtain⟨i,o⟩:=p;rw[ht]at h4 hk;dsimp only at hk;have hlk:=nP ht;have hq:=hqa i o hlk;have h5:=Lf o.va t.id (by omega);have hql:=vg (x:=o.va) (id:=t.id);generalize e_ o.va t.id=r at h5 hql hk;obtain⟨y,v,b,w⟩:=r;have h6:=λ{K:KT}=>lC (K:=K) s h.nm i {o with va:=y} o hlk rfl rfl (by dsimp only at hql⊢;omega);cases b with
    |true=>
     have h7:=λ{K:KT}=>kj (K:=K) (gZ ⟨im,now,t,tr,op,[h],ma⟩ (bF h)) (jw s i h.nm {o with va:=y}) v hst;have h8:=λ{K:KT}=>C5 (K:=K) (mE (gZ ⟨im,now,t,tr,op,[h],ma⟩ (bF h)) v) (jw s i h.nm {o with va:=y}) w [];unfold nJ at h8 hk;cases he:w == []
     all_goals
      rw[he]at h8 hk;refine sh0 Tryz.f208 ?_
      repeat' ((conv=>whnf);first|exact zf|refine zm ?_|refine zr0 ?_|refine(h1 ?_)|refine(h2 ?_)|refine(h4 ?_)|refine zc h5 ?_|refine(h6 ?_)|refine(h7 ?_)|refine(h8 ?_)|refine⟨_,⟨by omega,rfl,rfl⟩,?_⟩|refine zB ?_ ?_|refine zt ?_|refine zu ?_|intro _)
      exact hk none
    |false=>
     have h7:=λ{K:KT}=>nK (K:=K) (gZ ⟨im,now,t,tr,op,[h],ma⟩ (bF h)) (jw s i h.nm {o with va:=y}) h.nm;refine sh0 Tryz.f208 ?_
     repeat' ((conv=>whnf);first|exact zf|refine zm ?_|refine zr0 ?_|refine(h1 ?_)|refine(h2 ?_)|refine(h4 ?_)|refine zc h5 ?_|refine(h6 ?_)|refine(h7 ?_)|refine⟨_,⟨by omega,rfl,rfl⟩,?_⟩|refine zB ?_ ?_|refine zt ?_|refine zu ?_|intro _)
     exact hk none
  .have h2:=λ{K:KT}=>Dz (K:=K) ⟨im,now,t,tr,op,[h],ma⟩ s (bF h) hs hl hw;have e0:(b5 t.g (bF h)==0)=false:=by simp[hw]
   rw[show(b5 t.g (bF ([h][0]?.getD ck))==0)=false from e0,ε]at hk;refine sh0 Tryz.f208 ?_
   repeat' ((conv=>whnf);first|exact zf|refine zm ?_|refine zr0 ?_|refine(h1 ?_)|refine(h2 ?_)|refine⟨_,⟨by omega,rfl,rfl⟩,?_⟩|refine zB ?_ ?_|refine zt ?_|refine zu ?_|intro _)
   exact hk
 |false=>
  have h1:=λ{K:KT}=>dq (K:=K) ⟨im,now,t,tr,op,[h],ma⟩ s [5] (aL _) hb;dsimp only at hk;rw[hb,ε]at hk;refine sh0 Tryz.f208 ?_
  repeat' ((conv=>whnf);first|exact zf|refine zm ?_|refine zr0 ?_|refine(h1 ?_)|refine zB ?_ ?_|intro _)
  exact hk
theorem E7{K:KT}(c:Ca)(s:br)(h v:Va)(har:c.ar=[h,v])(hs:jl c.t.g)(hl:cC (bF h))(hqa:Jr s h.nm)(hk:(vr c s).K K):Z1 209 [.p 0 0] (fE c s) K:=by
 obtain⟨im,now,t,tr,op,ar,ma⟩:=c;subst har;unfold vr at hk;cases hb:cH [5,0] [h,v] with
 |true=>
  have h1:=λ{K:KT}=>dp (K:=K) ⟨im,now,t,tr,op,[h,v],ma⟩ s [5,0] (aL _) hb;dsimp only at hk;rw[hb,δ]at hk
  by_cases hw:b5 t.g (bF h)=0
  .have h2:=λ{K:KT}=>Dy (K:=K) ⟨im,now,t,tr,op,[h,v],ma⟩ s (bF h) hs hl hw;have h4:=λ{K:KT}=>ju (K:=K) (gZ ⟨im,now,t,tr,op,[h,v],ma⟩ (bF h)) s h hqa.sm
   replace hk:OR.K (match dD s h with
    |none=>.ok .no λ_=>(kz (gZ ⟨im,now,t,tr,op,[h,v],ma⟩ (bF h)) h.nm,s)
    |some (i,o)=>bif (jx o.va t.id v).2.1 then .ok (nJ (jx o.va t.id v).2.2 [v]) λ_=>(gZ ⟨im,now,t,tr,op,[h,v],ma⟩ (bF h),jw s i h.nm {o with va:=(jx o.va t.id v).1})
     else .ok .no λ_=>(kz (gZ ⟨im,now,t,tr,op,[h,v],ma⟩ (bF h)) h.nm,jw s i h.nm {o with va:=(jx o.va t.id v).1})) K:=by
    have e0:(b5 t.g (bF h)==0)=true:=by simp[hw]
    have:=hk;rw[show(b5 t.g (bF ([h,v][0]?.getD ck))==0)=true from e0,δ]at this;exact this
   unfold l_ at h4;cases ht:dD s h with
   |none=>
    rw[ht]at h4 hk;have h5:=λ{K:KT}=>nK (K:=K) (gZ ⟨im,now,t,tr,op,[h,v],ma⟩ (bF h)) s h.nm;refine sh0 Tryz.f209 ?_
    repeat' ((conv=>whnf);first|exact zf|refine zm ?_|refine zr0 ?_|refine(h1 ?_)|refine(h2 ?_)|refine(h4 ?_)|refine(h5 ?_)|refine⟨_,⟨by omega,rfl,rfl⟩,?_⟩|refine zB ?_ ?_|refine zt ?_|refine zu ?_|intro _)
    exact hk none
   |some p=>
    obtain⟨i,o⟩:=p;rw[ht]at h4 hk;dsimp only at hk;have hlk:=nP ht;have hq:=hqa i o hlk;have h5:=Qv o.va t.id v (by omega);have hql:=zD (x:=o.va) (id:=t.id) (v:=v);generalize jx o.va t.id v=r at h5 hql hk;obtain⟨y,b,w⟩:=r;have h6:=λ{K:KT}=>lC (K:=K) s h.nm i {o with va:=y} o hlk rfl rfl (by dsimp only at hql⊢;omega);cases b with
    |true=>
     have h8:=λ{K:KT}=>C5 (K:=K) (gZ ⟨im,now,t,tr,op,[h,v],ma⟩ (bF h)) (jw s i h.nm {o with va:=y}) w [v];unfold nJ at h8 hk;cases he:w == []
     all_goals
      rw[he]at h8 hk;refine sh0 Tryz.f209 ?_
      repeat' ((conv=>whnf);first|exact zf|refine zm ?_|refine zr0 ?_|refine(h1 ?_)|refine(h2 ?_)|refine(h4 ?_)|refine zc h5 ?_|refine(h6 ?_)|refine(h8 ?_)|refine⟨_,⟨by omega,rfl,rfl⟩,?_⟩|refine zB ?_ ?_|refine zt ?_|refine zu ?_|intro _)
      exact hk none
    |false=>
     have h7:=λ{K:KT}=>nK (K:=K) (gZ ⟨im,now,t,tr,op,[h,v],ma⟩ (bF h)) (jw s i h.nm {o with va:=y}) h.nm;refine sh0 Tryz.f209 ?_
     repeat' ((conv=>whnf);first|exact zf|refine zm ?_|refine zr0 ?_|refine(h1 ?_)|refine(h2 ?_)|refine(h4 ?_)|refine zc h5 ?_|refine(h6 ?_)|refine(h7 ?_)|refine⟨_,⟨by omega,rfl,rfl⟩,?_⟩|refine zB ?_ ?_|refine zt ?_|refine zu ?_|intro _)
     exact hk none
  .have h2:=λ{K:KT}=>Dz (K:=K) ⟨im,now,t,tr,op,[h,v],ma⟩ s (bF h) hs hl hw;have e0:(b5 t.g (bF h)==0)=false:=by simp[hw]
   rw[show(b5 t.g (bF ([h,v][0]?.getD ck))==0)=false from e0,ε]at hk;refine sh0 Tryz.f209 ?_
   repeat' ((conv=>whnf);first|exact zf|refine zm ?_|refine zr0 ?_|refine(h1 ?_)|refine(h2 ?_)|refine⟨_,⟨by omega,rfl,rfl⟩,?_⟩|refine zB ?_ ?_|refine zt ?_|refine zu ?_|intro _)
   exact hk
 |false=>
  have h1:=λ{K:KT}=>dq (K:=K) ⟨im,now,t,tr,op,[h,v],ma⟩ s [5,0] (aL _) hb;dsimp only at hk;rw[hb,ε]at hk;refine sh0 Tryz.f209 ?_
  repeat' ((conv=>whnf);first|exact zf|refine zm ?_|refine zr0 ?_|refine(h1 ?_)|refine zB ?_ ?_|intro _)
  exact hk
def tz(k:Int)(c:Ca)(s:br):OR:=bif cH [0,2] c.ar then jd c s {fo with k:=k,l:=bF (c.ar[1]?.getD ck),v:=c.ar[0]?.getD ck}else .ex (-1) c s
theorem B1{K:KT}(c:Ca)(s:br)(a m:Va)(har:c.ar=[a,m])(h:Ed c s {fo with k:=3,l:=bF m,v:=a})(hk:(tz 3 c s).K K):Z1 202 [.p 0 0] (fE c s) K:=by
 obtain⟨im,now,t,tr,o,ar,ma⟩:=c;subst har;have h2:=λ{K:KT}=>qT (K:=K) ⟨im,now,t,tr,o,[a,m],ma⟩ s _ h;unfold tz at hk;cases hb:cH [0,2] [a,m] with
 |true=>
  have h1:=λ{K:KT}=>dp (K:=K) ⟨im,now,t,tr,o,[a,m],ma⟩ s [0,2] (aL _) hb;dsimp only at hk;rw[hb,δ]at hk
  replace hk:(jd ⟨im,now,t,tr,o,[a,m],ma⟩ s {fo with k:=3,l:=bF m,v:=a}).K K:=hk
  generalize hR:jd ⟨im,now,t,tr,o,[a,m],ma⟩ s {fo with k:=3,l:=bF m,v:=a}=R at h2 hk;cases R with
  |ok e f=>
   cases e
   all_goals
    refine sh0 Tryz.f202 ?_
    repeat' ((conv=>whnf);first|exact zf|refine zm ?_|refine zr0 ?_|refine(h1 ?_)|refine(h2 (λb=>?_))|refine⟨_,⟨by omega,rfl,rfl⟩,?_⟩|refine zB ?_ ?_|intro _)
    exact hk _
  |ex n c' s'=>
   have h3:=λ{K:KT}(g:K (.eU (pj n)) (fE c' s'))=>h2 (K:=K) g;refine sh0 Tryz.f202 ?_
   repeat' ((conv=>whnf);first|exact zf|refine zm ?_|refine zr0 ?_|refine(h1 ?_)|refine(h3 ?_)|refine⟨_,⟨by omega,rfl,rfl⟩,?_⟩|refine zB ?_ ?_|intro _)
   exact hk
 |false=>
  have h1:=λ{K:KT}=>dq (K:=K) ⟨im,now,t,tr,o,[a,m],ma⟩ s [0,2] (aL _) hb;dsimp only at hk;rw[hb,ε]at hk;refine sh0 Tryz.f202 ?_
  repeat' ((conv=>whnf);first|exact zf|refine zm ?_|refine zr0 ?_|refine(h1 ?_)|refine zB ?_ ?_|intro _)
  exact hk
theorem B0{K:KT}(c:Ca)(s:br)(a m:Va)(har:c.ar=[a,m])(h:Ed c s {fo with k:=4,l:=bF m,v:=a})(hk:(tz 4 c s).K K):Z1 204 [.p 0 0] (fE c s) K:=by
 obtain⟨im,now,t,tr,o,ar,ma⟩:=c;subst har;have h2:=λ{K:KT}=>qT (K:=K) ⟨im,now,t,tr,o,[a,m],ma⟩ s _ h;unfold tz at hk;cases hb:cH [0,2] [a,m] with
 |true=>
  have h1:=λ{K:KT}=>dp (K:=K) ⟨im,now,t,tr,o,[a,m],ma⟩ s [0,2] (aL _) hb;dsimp only at hk;rw[hb,δ]at hk
  replace hk:(jd ⟨im,now,t,tr,o,[a,m],ma⟩ s {fo with k:=4,l:=bF m,v:=a}).K K:=hk
  generalize hR:jd ⟨im,now,t,tr,o,[a,m],ma⟩ s {fo with k:=4,l:=bF m,v:=a}=R at h2 hk;cases R with
  |ok e f=>
   cases e
   all_goals
    refine sh0 Tryz.f204 ?_
    repeat' ((conv=>whnf);first|exact zf|refine zm ?_|refine zr0 ?_|refine(h1 ?_)|refine(h2 (λb=>?_))|refine⟨_,⟨by omega,rfl,rfl⟩,?_⟩|refine zB ?_ ?_|intro _)
    exact hk _
  |ex n c' s'=>
   have h3:=λ{K:KT}(g:K (.eU (pj n)) (fE c' s'))=>h2 (K:=K) g;refine sh0 Tryz.f204 ?_
   repeat' ((conv=>whnf);first|exact zf|refine zm ?_|refine zr0 ?_|refine(h1 ?_)|refine(h3 ?_)|refine⟨_,⟨by omega,rfl,rfl⟩,?_⟩|refine zB ?_ ?_|intro _)
   exact hk
 |false=>
  have h1:=λ{K:KT}=>dq (K:=K) ⟨im,now,t,tr,o,[a,m],ma⟩ s [0,2] (aL _) hb;dsimp only at hk;rw[hb,ε]at hk;refine sh0 Tryz.f204 ?_
  repeat' ((conv=>whnf);first|exact zf|refine zm ?_|refine zr0 ?_|refine(h1 ?_)|refine zB ?_ ?_|intro _)
  exact hk
def xU(c:Ca)(s:br):OR:=bif cH [2] c.ar then jd c s {fo with k:=5,l:=bF (c.ar[0]?.getD ck)}else .ex (-1) c s
theorem BZ{K:KT}(c:Ca)(s:br)(m:Va)(har:c.ar=[m])(h:Ed c s {fo with k:=5,l:=bF m})(hk:(xU c s).K K):Z1 207 [.p 0 0] (fE c s) K:=by
 obtain⟨im,now,t,tr,o,ar,ma⟩:=c;subst har;have h2:=λ{K:KT}=>qT (K:=K) ⟨im,now,t,tr,o,[m],ma⟩ s _ h;unfold xU at hk;cases hb:cH [2] [m] with
 |true=>
  have h1:=λ{K:KT}=>dp (K:=K) ⟨im,now,t,tr,o,[m],ma⟩ s [2] (aL _) hb;dsimp only at hk;rw[hb,δ]at hk
  replace hk:(jd ⟨im,now,t,tr,o,[m],ma⟩ s {fo with k:=5,l:=bF m}).K K:=hk
  generalize hR:jd ⟨im,now,t,tr,o,[m],ma⟩ s {fo with k:=5,l:=bF m}=R at h2 hk;cases R with
  |ok e f=>
   cases e
   all_goals
    refine sh0 Tryz.f207 ?_
    repeat' ((conv=>whnf);first|exact zf|refine zm ?_|refine zr0 ?_|refine(h1 ?_)|refine(h2 (λb=>?_))|refine⟨_,⟨by omega,rfl,rfl⟩,?_⟩|refine zB ?_ ?_|intro _)
    exact hk _
  |ex n c' s'=>
   have h3:=λ{K:KT}(g:K (.eU (pj n)) (fE c' s'))=>h2 (K:=K) g;refine sh0 Tryz.f207 ?_
   repeat' ((conv=>whnf);first|exact zf|refine zm ?_|refine zr0 ?_|refine(h1 ?_)|refine(h3 ?_)|refine⟨_,⟨by omega,rfl,rfl⟩,?_⟩|refine zB ?_ ?_|intro _)
   exact hk
 |false=>
  have h1:=λ{K:KT}=>dq (K:=K) ⟨im,now,t,tr,o,[m],ma⟩ s [2] (aL _) hb;dsimp only at hk;rw[hb,ε]at hk;refine sh0 Tryz.f207 ?_
  repeat' ((conv=>whnf);first|exact zf|refine zm ?_|refine zr0 ?_|refine(h1 ?_)|refine zB ?_ ?_|intro _)
  exact hk
def xV(c:Ca)(s:br):OR:=bif cH [2] c.ar then jd c s {fo with k:=7,l:=bF (c.ar[0]?.getD ck),fu:=c.o.a,ma:=c.ma}else .ex (-1) c s
theorem zN{K:KT}(c:Ca)(s:br)(m:Va)(har:c.ar=[m])(h:Ed c s {fo with k:=7,l:=bF m,fu:=c.o.a,ma:=c.ma})(hk:(xV c s).K K):Z1 216 [.p 0 0] (fE c s) K:=by
 obtain⟨im,now,t,tr,o,ar,ma⟩:=c;subst har;have h2:=λ{K:KT}=>qT (K:=K) ⟨im,now,t,tr,o,[m],ma⟩ s _ h;unfold xV at hk;cases hb:cH [2] [m] with
 |true=>
  have h1:=λ{K:KT}=>dp (K:=K) ⟨im,now,t,tr,o,[m],ma⟩ s [2] (aL _) hb;dsimp only at hk;rw[hb,δ]at hk
  replace hk:(jd ⟨im,now,t,tr,o,[m],ma⟩ s {fo with k:=7,l:=bF m,fu:=o.a,ma:=ma}).K K:=hk
  generalize hR:jd ⟨im,now,t,tr,o,[m],ma⟩ s {fo with k:=7,l:=bF m,fu:=o.a,ma:=ma}=R at h2 hk;cases R with
  |ok e f=>
   cases e
   all_goals
    refine sh0 Tryz.f216 ?_
    repeat' ((conv=>whnf);first|exact zf|refine zm ?_|refine zr0 ?_|refine(h1 ?_)|refine(h2 (λb=>?_))|refine⟨_,⟨by omega,rfl,rfl⟩,?_⟩|refine zB ?_ ?_|intro _)
    exact hk _
  |ex n c' s'=>
   have h3:=λ{K:KT}(g:K (.eU (pj n)) (fE c' s'))=>h2 (K:=K) g;refine sh0 Tryz.f216 ?_
   repeat' ((conv=>whnf);first|exact zf|refine zm ?_|refine zr0 ?_|refine(h1 ?_)|refine(h3 ?_)|refine⟨_,⟨by omega,rfl,rfl⟩,?_⟩|refine zB ?_ ?_|intro _)
   exact hk
 |false=>
  have h1:=λ{K:KT}=>dq (K:=K) ⟨im,now,t,tr,o,[m],ma⟩ s [2] (aL _) hb;dsimp only at hk;rw[hb,ε]at hk;refine sh0 Tryz.f216 ?_
  repeat' ((conv=>whnf);first|exact zf|refine zm ?_|refine zr0 ?_|refine(h1 ?_)|refine zB ?_ ?_|intro _)
  exact hk
def jz(c:Ca)(s:br):OR:=
 bif c.o.c==25 then SJ c s else bif c.o.c==26 then SN c s else bif c.o.c==27 then xJ c s else bif c.o.c==28 then x6 c s else
 bif c.o.c==29 then tz 3 c s else bif c.o.c==30 then Cy c s else bif c.o.c==32 then tz 4 c s else bif c.o.c==33 then qK c s else
 bif c.o.c==34 then qz c s else bif c.o.c==35 then xU c s else bif c.o.c==36 then rA c s else bif c.o.c==37 then vr c s else
 bif c.o.c==38 then D6 c s else bif c.o.c==39 then C6 c s else bif c.o.c==40 then xA c s else bif c.o.c==41 then MO c s else
 bif c.o.c==42 then Dh c s else bif c.o.c==43 then DQ c s else bif c.o.c==45 then xV c s else bif c.o.c==46 then su c s else .ex 0 c s
def codeF:List (Int×Nat×Int):=[(25,198,0),(26,199,0),(27,200,1),(28,201,1),(29,202,2),(30,203,1),(32,204,2),(33,205,1),(34,206,2),(35,207,1),(36,208,1),(37,209,2),(38,210,3),(39,211,1),(40,212,4),(41,213,2),(42,214,1),(43,215,1),(45,216,1),(46,217,2)]
structure Ec(c:Ca)(s:br):Prop where
  n:RL c.t
  g:jl c.t.g
  ar:∀v∈c.ar,cC (bF v)
  gs:mj s
  st:c.t.c.st.length<800000000
  fr:c.t.c.fr.length<900000000
  sc:c.t.sc.length<900000000
  w:0<=c.now/\c.now<1000000000
  q:∀p∈s.th,p.2.va.q.length<90000000
theorem Ec.Rz{c:Ca}{s:br}(h:Ec c s)(nm:List UInt8):Jr s nm:=λi o ho=>by
 obtain⟨p,hp,he⟩:=gW ho;rw[<-he];exact h.q p hp
theorem Ec.Vw{c:Ca}{s:br}(h:Ec c s)(o:Ob)(hl:cC o.l)(h3:3<=o.k)(h7:o.k<=7)(hq:o.va.q.length<100000000):Ed c s o:=⟨h.n,h.g,hl,h.gs,h3,h7,hq,by have:=h.st;omega⟩
theorem Gu(a b:Lb):cC (dS a b):=⟨gx _,gx _⟩
theorem MV{K:KT}(c:Ca)(s:br)(F:Nat)(po:Int)(hF:(c.o.c,F,po)∈codeF)(hl:(c.ar.length:Int)=po)(h:Ec c s)(hk:(jz c s).K K):Z1 F [.p 0 0] (fE c s) K:=by
 have hst:c.t.c.st.length<1000000000:=by have:=h.st;omega
 have hfr:c.t.c.fr.length<1000000000:=by have:=h.fr;omega
 unfold jz at hk;have a1:c.ar.length=1->∃m,c.ar=[m]:=λe=>eD.1 e;have a2:c.ar.length=2->∃a b,c.ar=[a,b]:=λe=>by
  match har:c.ar,e with
  |[a,b],_=>exact⟨a,b,rfl⟩
 simp only[codeF,ah,dG,eN,or_false]at hF;rcases hF with⟨hc,rfl,rfl⟩|⟨hc,rfl,rfl⟩|⟨hc,rfl,rfl⟩|⟨hc,rfl,rfl⟩|⟨hc,rfl,rfl⟩|⟨hc,rfl,rfl⟩|⟨hc,rfl,rfl⟩|⟨hc,rfl,rfl⟩|⟨hc,rfl,rfl⟩|⟨hc,rfl,rfl⟩|⟨hc,rfl,rfl⟩|⟨hc,rfl,rfl⟩|⟨hc,rfl,rfl⟩|⟨hc,rfl,rfl⟩|⟨hc,rfl,rfl⟩|⟨hc,rfl,rfl⟩|⟨hc,rfl,rfl⟩|⟨hc,rfl,rfl⟩|⟨hc,rfl,rfl⟩|⟨hc,rfl,rfl⟩<;>rw[hc]at hk
 .exact SK c s hst hk
 .exact SO c s hst hk
 .obtain⟨m,e⟩:=a1 (by omega);have hm:=h.ar m (by rw[e];exact aw ..);exact H3 c s m e h.g hm (Gu _ _) hk
 .obtain⟨m,e⟩:=a1 (by omega);have hm:=h.ar m (by rw[e];exact aw ..);exact JE c s m e h.g hm hk
 .obtain⟨a,m,e⟩:=a2 (by omega);have hm:=h.ar m (by rw[e];exact bU _ (aw ..));exact B1 c s a m e (h.Vw _ hm (show(3:Int)<=3 by decide) (show(3:Int)<=7 by decide) (show(0:Nat)<_ by decide)) hk
 .obtain⟨m,e⟩:=a1 (by omega);have hm:=h.ar m (by rw[e];exact aw ..);exact MR c s m e hst h.g hm (Gu _ _) (h.Rz _).sm hk
 .obtain⟨a,m,e⟩:=a2 (by omega);have hm:=h.ar m (by rw[e];exact bU _ (aw ..));exact B0 c s a m e (h.Vw _ hm (show(3:Int)<=4 by decide) (show(4:Int)<=7 by decide) (show(0:Nat)<_ by decide)) hk
 .obtain⟨m,e⟩:=a1 (by omega);have hm:=h.ar m (by rw[e];exact aw ..);exact BI c s m e hst h.g hm (Gu _ _) (h.Rz _).sm hk
 .obtain⟨a,v,e⟩:=a2 (by omega);have hm:=h.ar a (by rw[e];exact aw ..);exact yW c s a v e h.g hm (h.Rz _).sm hk
 .obtain⟨m,e⟩:=a1 (by omega);have hm:=h.ar m (by rw[e];exact aw ..);exact BZ c s m e (h.Vw _ hm (show(3:Int)<=5 by decide) (show(5:Int)<=7 by decide) (show(0:Nat)<_ by decide)) hk
 .obtain⟨m,e⟩:=a1 (by omega);have hm:=h.ar m (by rw[e];exact aw ..);exact An c s m e h.g hm hst (h.Rz _) hk
 .obtain⟨a,v,e⟩:=a2 (by omega);have hm:=h.ar a (by rw[e];exact aw ..);exact E7 c s a v e h.g hm (h.Rz _) hk
 .obtain⟨a,r,m,e⟩:∃a r m,c.ar=[a,r,m]:=by
   match har:c.ar,hl with
   |[a,r,m],_=>exact⟨a,r,m,rfl⟩
  have hm:=h.ar m (by rw[e];simp);exact NG c s a r m e ⟨h.n,h.g,hm,h.gs,hst⟩ hk
 .obtain⟨m,e⟩:=a1 (by omega);have hm:=h.ar m (by rw[e];exact aw ..);exact LR c s m e hst h.g hm (Gu _ _) (h.Rz _).sm hk
 .obtain⟨a,r,k,m,e⟩:∃a r k m,c.ar=[a,r,k,m]:=by
   match har:c.ar,hl with
   |[a,r,k,m],_=>exact⟨a,r,k,m,rfl⟩
  have hm:=h.ar m (by rw[e];simp);exact G_ c s a r k m e ⟨h.n,h.g,hm,hfr,by have:=h.sc;omega,h.w⟩ hk
 .obtain⟨a,m,e⟩:=a2 (by omega);have hm:=h.ar m (by rw[e];exact bU _ (aw ..));exact Q_ c s a m e h.g hm hk
 .obtain⟨m,e⟩:=a1 (by omega);have hm:=h.ar m (by rw[e];exact aw ..);exact NM c s m e h.g hm hk
 .obtain⟨m,e⟩:=a1 (by omega);have hm:=h.ar m (by rw[e];exact aw ..);exact Mg c s m e h.g hm hk
 .obtain⟨m,e⟩:=a1 (by omega);have hm:=h.ar m (by rw[e];exact aw ..);exact zN c s m e (h.Vw _ hm (show(3:Int)<=7 by decide) (show(7:Int)<=7 by decide) (show(0:Nat)<_ by decide)) hk
 .obtain⟨a,m,e⟩:=a2 (by omega);have hm:=h.ar m (by rw[e];exact bU _ (aw ..));exact Jz c s a m e hfr hst h.g hm (Gu _ _) (h.Rz _).sm hk
theorem jm{c:Co}{n kp:Int}:(raise c n kp).2.k≠3:=by
 unfold raise;cases nO c n kp
 .exact(show(2:Int)≠3 by decide)
 .exact(show(0:Int)≠3 by decide)
theorem pP{b:Bool}{x y:Co×Ou}(hx:x.2.k≠3)(hy:y.2.k≠3):(bif b then x else y).2.k≠3:=by cases b<;>assumption
theorem lZ{im:Im}{c:Co}{o:Op}{f:Fr}{l:List Va}:(fD im c o f l).2.k≠3:=(show(0:Int)≠3 by decide)
theorem fJ{b:Bool}{x y:Co×Ou}{P:Prop}(hx:x.2.k≠3)(hy:b=false->y.2.k=3->P)(h:(bif b then x else y).2.k=3):P:=by
 cases b with
 |true=>exact absurd h hx
 |false=>exact hy rfl h
def JT(c:Int):Prop:=c≠1/\c≠2/\c≠3/\c≠4/\c≠5/\c≠6/\¬(7<=c/\c<=13)/\c≠14/\c≠15/\c≠16/\c≠17/\c≠18/\c≠19/\c≠20/\c≠21/\c≠22/\c≠23/\c≠44/\c≠47
theorem fw{a b:Int}(h:(a==b)=false):a≠b:=by simpa using h
theorem MU{im:Im}{c:Co}{fr tr:Int}{o:Op}{f:Fr}{P:Prop}(hp:nZ im c fr tr o f=(c,⟨3,zeroV,o⟩)->o.c≠1->o.c≠2->o.c≠4->o.c≠5->o.c≠6->o.c≠12->¬(7<=o.c/\o.c<=13)->o.c≠14->o.c≠15->o.c≠16->o.c≠17->o.c≠18->o.c≠19->o.c≠20->o.c≠21->o.c≠44->o.c≠47->P)
  (h:(nZ im c fr tr o f).2.k=3):P:=by
 have hp:=hp;unfold nZ at h hp
 revert h
 have z0:∀{x:Co},(x,bu).2.k≠3:=λ{x}=>(show(0:Int)≠3 by decide)
 refine fJ (lZ) λh1=>?_;refine fJ (lZ) λh2=>?_;refine fJ (lZ) λh4=>?_;refine fJ (lZ) λh5=>?_;refine fJ (lZ) λh6=>?_;refine fJ (lZ) λh12=>?_;refine fJ (pP (by split<;>first|exact lZ|exact jm) (jm)) λh7=>?_;refine fJ (pP (lZ) (jm)) λh14=>?_;refine fJ z0 λh15=>?_;refine fJ (pP (pP (lZ) z0) (jm)) λh16=>?_;refine fJ (pP z0 (jm)) λh17=>?_;refine fJ (pP (show(1:Int)≠3 by decide) z0) λh18=>?_;refine fJ (pP (jm) (jm)) λh19=>?_;refine fJ z0 λh20=>?_;refine fJ (pP z0 (lZ)) λh21=>?_;refine fJ z0 λh44=>?_;refine fJ (lZ) λh47=>?_;intro _;have h7':¬(7<=o.c/\o.c<=13):=by simpa using h7
 refine hp ?_ (fw h1) (fw h2) (fw h4) (fw h5) (fw h6) (fw h12) h7' (fw h14) (fw h15) (fw h16) (fw h17) (fw h18) (fw h19) (fw h20) (fw h21) (fw h44) (fw h47);simp only[h1,h2,h4,h5,h6,h12,h7,h14,h15,h16,h17,h18,h19,h20,h21,h44,h47,ε]
theorem MT{im:Im}{c:Co}{fr tr:Int}{o:Op}{f:Fr}(h:(Cz im c fr tr o f).2.k=3):Cz im c fr tr o f=(c,⟨3,zeroV,o⟩)/\JT o.c:=by
 have z0:∀{x:Co},(x,bu).2.k≠3:=λ{x}=>(show(0:Int)≠3 by decide)
 have h0:=h;unfold Cz at h⊢
 revert h
 refine fJ z0 λh3=>?_;refine fJ (pP (lZ) (jm)) λh22=>?_;refine fJ (pP (lZ) (jm)) λh23=>?_;refine MU λhe a1 a2 a4 a5 a6 a12 a7 a14 a15 a16 a17 a18 a19 a20 a21 a44 a47=>?_;refine⟨?_,a1,a2,fw h3,a4,a5,a6,a7,a14,a15,a16,a17,a18,a19,a20,a21,fw h22,fw h23,a44,a47⟩;simp only[h3,h22,h23,ε];exact he
theorem KX{c:Int}(h1:1<=c)(h2:c<=47)(ha:JT c)(h24:c≠24)(h31:c≠31):∃F po,(c,F,po)∈codeF:=by
 unfold JT at ha;have:c=25\/c=26\/c=27\/c=28\/c=29\/c=30\/c=32\/c=33\/c=34\/c=35\/c=36\/c=37\/c=38\/c=39\/c=40\/c=41\/c=42\/c=43\/c=45\/c=46:=by omega
 rcases this with rfl|rfl|rfl|rfl|rfl|rfl|rfl|rfl|rfl|rfl|rfl|rfl|rfl|rfl|rfl|rfl|rfl|rfl|rfl|rfl
 .exact⟨198,0,by decide⟩
 .exact⟨199,0,by decide⟩
 .exact⟨200,1,by decide⟩
 .exact⟨201,1,by decide⟩
 .exact⟨202,2,by decide⟩
 .exact⟨203,1,by decide⟩
 .exact⟨204,2,by decide⟩
 .exact⟨205,1,by decide⟩
 .exact⟨206,2,by decide⟩
 .exact⟨207,1,by decide⟩
 .exact⟨208,1,by decide⟩
 .exact⟨209,2,by decide⟩
 .exact⟨210,3,by decide⟩
 .exact⟨211,1,by decide⟩
 .exact⟨212,4,by decide⟩
 .exact⟨213,2,by decide⟩
 .exact⟨214,1,by decide⟩
 .exact⟨215,1,by decide⟩
 .exact⟨216,1,by decide⟩
 .exact⟨217,2,by decide⟩
theorem xx{c:Int}{F:Nat}{po:Int}(h:(c,F,po)∈codeF):(∃i,inf c=some i/\i.po=po)/\Pp c F/\Nat.blt F 5000000=true/\c≠17:=by
 simp only[codeF,ah,dG,eN,or_false]at h;rcases h with⟨rfl,rfl,rfl⟩|⟨rfl,rfl,rfl⟩|⟨rfl,rfl,rfl⟩|⟨rfl,rfl,rfl⟩|⟨rfl,rfl,rfl⟩|⟨rfl,rfl,rfl⟩|⟨rfl,rfl,rfl⟩|⟨rfl,rfl,rfl⟩|⟨rfl,rfl,rfl⟩|⟨rfl,rfl,rfl⟩|⟨rfl,rfl,rfl⟩|⟨rfl,rfl,rfl⟩|⟨rfl,rfl,rfl⟩|⟨rfl,rfl,rfl⟩|⟨rfl,rfl,rfl⟩|⟨rfl,rfl,rfl⟩|⟨rfl,rfl,rfl⟩|⟨rfl,rfl,rfl⟩|⟨rfl,rfl,rfl⟩|⟨rfl,rfl,rfl⟩ <;>
  exact⟨⟨_,rfl,rfl⟩,⟨_,rfl⟩,rfl,by decide⟩
def S5(c:Ca)(s:br)(o:Op)(b:Option Nat):Rs:=
 match c.t.c.fr.getLast?,inf o.c with
 |some f,some i=>(jz (py c o f i.po) s).fin c.t.c b
 |_,_=>⟨c.t,.no,false,s⟩
def xw(im:Im)(t:Th)(s:br)(now:Int)(b:Option Nat):Rs:=
 bif t.st != 0 then⟨t,.no,false,s⟩ else
 bif (ij im t.c (cZ t).fr (cZ t).tr).2.k==1 then EZ (nB (C3 (sQ im t now) (ij im t.c (cZ t).fr (cZ t).tr).1) s (ij im t.c (cZ t).fr (cZ t).tr).2.v false) else
 bif (ij im t.c (cZ t).fr (cZ t).tr).2.k==2 then EZ (nB (C3 (sQ im t now) (ij im t.c (cZ t).fr (cZ t).tr).1) s (ij im t.c (cZ t).fr (cZ t).tr).2.v true) else
 bif (ij im t.c (cZ t).fr (cZ t).tr).2.k==3 then S5 (sQ im t now) s (ij im t.c (cZ t).fr (cZ t).tr).2.o b else
 ⟨{t with c:=(ij im t.c (cZ t).fr (cZ t).tr).1},.no,false,s⟩
structure RI(im:Im)(t:Th)(s:br)(now:Int):Prop where
  x:Vu im t.c
  n:RL t
  g:jl t.g
  gs:mj s
  sc:t.sc.length<900000000
  w:0<=now/\now<1000000000
  q:∀p∈s.th,p.2.va.q.length<90000000
theorem RI.Vo{im:Im}{t:Th}{s:br}{now:Int}(h:RI im t s now)(nm:List UInt8):yt s nm:=λi o ho=>by
 obtain⟨p,hp,he⟩:=gW ho;rw[<-he];have:=h.q p hp;omega
theorem vi{im:Im}{c:Co}{fr tr:Int}(h:Vu im c)(hk:(ij im c fr tr).2.k=3):∃o f F po,ij im c fr tr=(c,⟨3,zeroV,o⟩)/\c.fr.getLast?=some f/\(o.c,F,po)∈codeF/\fQ c po=true/\(0<=f.pc/\f.pc<1000000000):=by
 unfold ij at hk⊢;cases hf:fit im c with
 |none=>rw[hf]at hk;exact absurd hk (show ¬(2:Int)=3 by decide)
 |some o=>
  rw[hf]at hk;obtain⟨f,fn,hl,w1,hfn,w2,ho,hr,hop,hpo⟩:=qe hf;simp only[hl]at hk⊢;obtain⟨e,ha⟩:=MT hk;obtain⟨i,hi⟩:∃i,inf o.c=some i:=by
   unfold ep at hr;cases hi:inf o.c with
   |none=>rw[hi]at hr;cases hr
   |some i=>exact⟨i,rfl⟩
  obtain⟨b1,b2,_⟩:=ei hi;obtain⟨d1,d2⟩:=h.dm o hf;obtain⟨F,po,hF⟩:=KX b1 b2 ha d1 d2;obtain⟨⟨i',hi',hpi⟩,_,_,h17⟩:=xx hF;have ht:bm im o=po:=by
   unfold bm;rw[hi'];rw[show(o.c==17)=false by simp[h17]];exact hpi
  rw[ht]at hpo;obtain⟨p1,p2⟩:=within_iff.1 w2;have hcd:=h.cd _ _ hfn;exact⟨o,f,F,po,e,rfl,hF,hpo,p1,by omega⟩
theorem ED{im:Im}{t:Th}{now:Int}{o:Op}{f:Fr}{po:Int}(hp:fQ t.c po=true):((py (sQ im t now) o f po).ar.length:Int)=po:=by
 have h:=(nX hp).1;have h0:0<=po:=by simp[fQ]at hp;omega
 show((lF t.c po).length:Int)=po;rw[h];omega
theorem S4{im:Im}{t:Th}{s:br}{now:Int}{o:Op}{f:Fr}{po:Int}(h:RI im t s now)(hp:fQ t.c po=true):Ec (py (sQ im t now) o f po) s where
 n:=⟨h.n.pa,h.n.ne,h.n.le,h.n.sm,h.n.m0,h.n.m1,h.n.r2⟩
 g:=h.g
 ar:=λv hv=>h.x.sm v (eS hv)
 gs:=h.gs
 st:=by
  have h1:=(nX hp).2;have h2:=h.x.ls;show(sM t.c po).st.length<800000000;omega
 fr:=by
  show(bS t.c.fr f).length<900000000;unfold bS;rw[dJ];exact h.x.lf
 sc:=h.sc
 w:=h.w
 q:=h.q
def OR.keeps(r:OR)(s:br):Prop:=match r with
 |.ok _ _=>True
 |.ex _ _ s'=>s'=s
theorem bK{b:Bool}{x y:OR}{s:br}(hx:x.keeps s)(hy:y.keeps s):(bif b then x else y).keeps s:=by cases b<;>assumption
theorem dM{e:Fx}{f:Option Nat->Ca×br}{s:br}:(OR.ok e f).keeps s:=trivial
theorem cF{n:Int}{c:Ca}{s:br}:(OR.ex n c s).keeps s:=rfl
theorem ou{c:Ca}{s:br}{o:Ob}:(jd c s o).keeps s:=bK (bK cF dM) cF
theorem Bf{c:Ca}{s:br}{l:Lb}:(rB c s l).keeps s:=bK dM cF
theorem FB{c:Ca}{s:br}{o:Ob}:(nQ c s o).keeps s:=bK cF dM
theorem FC{c:Ca}{s:br}{h:Va}:(rp c s h nQ).keeps s:=by
 unfold rp;refine bK ?_ cF;cases dD s h with
 |none=>exact dM
 |some p=>exact FB
theorem pf{c:Ca}{s:br}{h:Va}{go:Ca->br->Ob->RQ}(hg:∀c o,(go c s o).or.keeps s):(gz c s h go).or.keeps s:=by
 unfold gz;cases dY c.t.g (bF h)==0 with
 |false=>exact cF
 |true=>
  cases dD s h with
  |none=>exact dM
  |some p=>exact hg _ _
theorem FA{c:Ca}{s:br}{o:Ob}:(nL c s o).or.keeps s:=by
 unfold nL;cases o.dn
 .exact dM
 .cases o.ex
  .exact dM
  .exact cF
theorem Bg{c:Ca}{s:br}{o:Ob}:(kH c s o).or.keeps s:=by
 unfold kH;cases dW c.t.c
 .exact cF
 .exact dM
theorem JP{c:Ca}{s:br}:(rA c s).keeps s:=by
 unfold rA;refine bK (bK ?_ cF) cF;cases dD s (c.ar[0]?.getD ck) with
 |none=>exact dM
 |some p=>exact bK dM dM
theorem JQ{c:Ca}{s:br}:(vr c s).keeps s:=by
 unfold vr;refine bK (bK ?_ cF) cF;cases dD s (c.ar[0]?.getD ck) with
 |none=>exact dM
 |some p=>exact bK dM dM
theorem Be{c:Ca}{s:br}:(qz c s).keeps s:=by
 unfold qz;refine bK (bK ?_ cF) cF;cases dD s (c.ar[0]?.getD ck) with
 |none=>exact dM
 |some p=>exact dM
theorem zJ(c:Ca)(s:br):(jz c s).keeps s:=by
 unfold jz;refine bK dM (bK dM (bK (bK Bf cF) (bK (bK (bK dM cF) cF) (bK (bK ou cF) (bK (bK FC cF) (bK (bK ou cF) (bK (bK (pf λ_ _=>dM) cF)
  (bK Be (bK (bK ou cF) (bK JP (bK JQ (bK (bK (bK dM cF) cF) (bK (bK (pf λ_ _=>FA) cF) (bK (bK (bK dM cF) cF) (bK (bK (bK dM cF) cF)
  (bK (bK (bK dM cF) cF) (bK (bK (bK dM cF) cF) (bK (bK ou cF) (bK (bK (pf λ_ _=>Bg) cF) cF)))))))))))))))))))
theorem Hp {c c':Ca}{s s':br}{n:Int}(h:jz c s=.ex n c' s')(hq:∀p∈s.th,p.2.va.q.length<90000000):yt s' c'.t.id:=by
 have:=zJ c s;rw[h]at this;have e:s'=s:=this;intro i o ho;obtain⟨p,hp,he⟩:=gW ho;rw[<-he];rw[e]at hp;have:=hq p hp;omega
theorem VT {K:KT} (im:Im) (t:Th) (s:br) (now:Int) (h:t.st=0→RI im t s now) (hk:∀b,K (.ret (.tu [eW (xw im t s now b).t,Km ((xw im t s now b).e.ef (xw im t s now b).d)])) (mZ (xw im t s now b).s)) :
    Z1 63 [sC im,eW t,.p 0 0,.d (.int .i64 now)] (mZ s) K:=by
  unfold xw at hk
  by_cases h0:t.st=0
  · have hz:(t.st != 0)=false:=by simp[h0]
    rw[hz]at hk
    have hd:=h h0
    have h1:=D8 t
    have h2:=Ll (fr:=(cZ t).fr) (tr:=(cZ t).tr) hd.x
    have hq:=hd.Vo t.id
    have hask:=vi (fr:=(cZ t).fr) (tr:=(cZ t).tr) hd.x
    unfold St at h2
    generalize hr:ij im t.c (cZ t).fr (cZ t).tr=r at h2 hk hask
    obtain⟨k,u⟩:=r
    by_cases k1:u.k=1
    · rw[show(u.k==1)=true by simp[k1]]at hk
      have h3:=λ{K:KT}=>wN (K:=K) (C3 (sQ im t now) k) s u.v false hq
      refine sh0 Tryz.f63 ?_
      repeat' ((conv=>whnf);first|exact zf|refine zm ?_|refine zc h1 ?_|refine zc h2 ?_|refine zr0 ?_|refine(h3 ?_)|refine zB ?_ ?_|refine zt ?_|refine zu ?_|intro _)
      exact hk none
    · by_cases k2:u.k=2
      · rw[show(u.k==1)=false by simp[k1],show(u.k==2)=true by simp[k2]]at hk
        have h3:=λ{K:KT}=>wN (K:=K) (C3 (sQ im t now) k) s u.v true hq
        refine sh0 Tryz.f63 ?_
        repeat' ((conv=>whnf);first|exact zf|refine zm ?_|refine zc h1 ?_|refine zc h2 ?_|refine zr0 ?_|refine(h3 ?_)|refine zB ?_ ?_|refine zt ?_|refine zu ?_|intro _)
        exact hk none
      · by_cases k3:u.k=3
        · rw [show (u.k == 1) = false by simp [k1], show (u.k == 2) = false by simp [k2], show (u.k == 3) = true by simp [k3]] at hk
          obtain⟨o,f,F,po,e,hf,hcf,hp,hpc⟩:=hask k3
          cases e
          obtain⟨⟨i,hi,hpi⟩,hF,hlt,_⟩:=xx hcf
          subst hpi
          have hR:=λ{K:KT}=>MV (K:=K) (py (sQ im t now) o f i.po) s F i.po hcf (ED hp) (S4 hd hp)
          have hx:=λn c' s'(h:jz (py (sQ im t now) o f i.po) s=.ex n c' s')=>Hp h hd.q
          have h3:=λ{K:KT}=>V3 (K:=K) (sQ im t now) s o f i F _ hi hf hd.x.lf hd.x.ls hp hpc hF hlt hR hx
          replace hk:∀b,K (.ret (.tu [eW ((jz (py (sQ im t now) o f i.po) s).fin t.c b).t,Km (((jz (py (sQ im t now) o f i.po) s).fin t.c b).e.ef ((jz (py (sQ im t now) o f i.po) s).fin t.c b).d)])) (mZ ((jz (py (sQ im t now) o f i.po) s).fin t.c b).s):=λb=>by
            have:=hk b
            unfold S5 at this
            rw[show(sQ im t now).t.c.fr.getLast?=some f from hf,hi]at this
            exact this
          generalize jz (py (sQ im t now) o f i.po) s=R at h3 hk
          cases R with
          |ok e g=>
            cases e
            all_goals
              refine sh0 Tryz.f63 ?_
              repeat' ((conv=>whnf);first|exact zf|refine zm ?_|refine zc h1 ?_|refine zc h2 ?_|refine zr0 ?_|refine(h3 (λb=>?_))|refine zB ?_ ?_|refine zt ?_|refine zu ?_|intro _)
              exact hk _
          |ex n c' s'=>
            have h4:=λ{K:KT}(g:K (.ret (.tu [])) (WH (lE c' s' t.c n)))=>h3 (K:=K) g
            refine sh0 Tryz.f63 ?_
            repeat' ((conv=>whnf);first|exact zf|refine zm ?_|refine zc h1 ?_|refine zc h2 ?_|refine zr0 ?_|refine(h4 ?_)|refine zB ?_ ?_|refine zt ?_|refine zu ?_|intro _)
            exact hk none
        · rw[show(u.k==1)=false by simp[k1],show(u.k==2)=false by simp[k2],show(u.k==3)=false by simp[k3]]at hk
          refine sh0 Tryz.f63 ?_
          repeat' ((conv=>whnf);first|exact zf|refine zm ?_|refine zc h1 ?_|refine zc h2 ?_|refine zB ?_ ?_|refine zt ?_|refine zu ?_|intro _)
          exact hk none
  · have hz:(t.st != 0)=true:=by simp[h0]
    rw[hz]at hk
    refine sh0 Tryz.f63 ?_
    repeat' ((conv=>whnf);first|exact zf|refine zm ?_|refine zB ?_ ?_|refine zt ?_|refine zu ?_|intro _)
    exact hk none
def Sr(t:Th):List Nat:=gk t.id 0
def jf(k:Kn)(x:Th):Kn:=gX k (Sr x) x
def AF(k:Kn)(id:List UInt8)(E:Ef):Kn:=E.Ab.foldl tI (E.log.foldl (λk e=>x7 k id e) (E.out.foldl (λk e=>rH k id e) (E.fork.foldl jf k)))
def Qa(n:Nat)(k:Kn)(id:List UInt8)(E:Ef):Kn:=bif E.dn then oP (n+1) (AF k id E) id else AF k id E
def KD(k:Kn)(R:Rs):Kn:=xL {k with s:=R.s} R.t
def runs(k:Kn)(id:List UInt8):Bool:=match dy id k.th with
 |some (_,t)=>decide (t.st=0)
 |none=>false
def PL(n:Nat)(k:Kn)(id:List UInt8)(b:Option Nat):Kn:=match dy id k.th with
 |some (_,t)=>bif decide (t.st=0)then Qa n (KD k (xw k.im t k.s k.now b)) id ((xw k.im t k.s k.now b).e.ef (xw k.im t k.s k.now b).d)else k
 |none=>k
structure Wu(k:Kn)(x:Th):Prop where
  id:x.id=b8 (Sr x)
  g:dr (Sr x)
  o:∀y∈k.ord,dr y
  n:k.ord.length<100000000
structure U4(I:Nat->Kn->Prop)(n:Nat)(k:Kn)(id:List UInt8)(E:Ef):Prop where
  f:∀j x,E.fork[j]?=some x->Wu ((E.fork.take j).foldl jf k) x
  o:∀j,((E.out.take j).foldl (λk e=>rH k id e) (E.fork.foldl jf k)).fa.length<100000000
  l:∀j,((E.log.take j).foldl (λk e=>x7 k id e) (E.out.foldl (λk e=>rH k id e) (E.fork.foldl jf k))).le.length<100000000
  w:∀j x,E.Ab[j]?=some x->x.l.length<1000000000/\∀p∈((E.Ab.take j).foldl tI (E.log.foldl (λk e=>x7 k id e) (E.out.foldl (λk e=>rH k id e) (E.fork.foldl jf k)))).th,p.2.c.st.length<1000000000
  d:E.dn=true->I n (AF k id E)
theorem VS{K:KT}(im:Im)(t:Th)(s:br)(now:Int)(h:t.st=0->RI im t s now)(hk:∀b R E,R=xw im t s now b->E=R.e.ef R.d->K (.ret (.tu [eW R.t,Km E])) (mZ R.s)) :
 Z1 63 [sC im,eW t,.p 0 0,.d (.int .i64 now)] (mZ s) K:=VT im t s now h λb=>hk b _ _ rfl rfl
theorem runK{K:KT}{I:Nat->Kn->Prop}(hI:DI I)(n:Nat)(k:Kn)(id:List UInt8)
  (hr:∀i t,dy id k.th=some (i,t)->t.st=0->RI k.im t k.s k.now/\∀b,U4 I n (KD k (xw k.im t k.s k.now b)) id ((xw k.im t k.s k.now b).e.ef (xw k.im t k.s k.now b).d))
  (hk:∀b,K (.ret (.d (.bool (runs k id)))) (fU false (PL n k id b))):Z1 32 [.p 0 0,.d (.str id)] (fU false k) K:=by
 have hm:=pg id k.th 0;unfold runs PL at hk;cases h:dy id k.th with
 |none=>
  rw[h]at hm hk;refine sh0 Tryz.f32 ?_
  repeat' ((conv=>whnf);first|exact zf|refine zm ?_|refine zB ?_ ?_|intro _)
  refine⟨_,hm,?_⟩
  repeat' ((conv=>whnf);first|exact zf|refine zm ?_|refine zB ?_ ?_|refine zt ?_|refine zu ?_|intro _)
  exact hk none
 |some p=>
  obtain⟨i,t⟩:=p;rw[h]at hm hk;dsimp only at hk
  by_cases h0:t.st=0
  .obtain⟨hT,hE⟩:=hr i t h h0;have h3:=λ{K:KT}=>VS (K:=K) k.im t k.s k.now λ_=>hT;rw[φ h0]at hk;simp only[δ]at hk;refine sh0 Tryz.f32 ?_
   repeat' ((conv=>whnf);first|exact zf|refine zm ?_|refine zB ?_ ?_|intro _)
   refine⟨_,hm,?_⟩
   repeat' ((conv=>whnf);first|exact zf|refine(a8 (a8 ?_))|refine zm ?_|refine zr0 ?_|refine(h3 (λb R E hR hEE=>?_))|refine zB ?_ ?_|refine zt ?_|refine zu ?_|intro _)
   all_goals
    have hE:=hE b;have hk:=hk b;rw[<-hR,<-hEE]at hE hk;clear hEE hR hm h3 hr h;have h4:=λ{K:KT}=>zE (K:=K) false {k with s:=R.s} R.t
    change ∀{K:KT},K (.ret (.tu [])) (fU false (KD k R))->_ at h4
    generalize KD k R=k1 at h4 hE hk;have h5:=λ{K:KT}=>VK (K:=K) jf E.fork k1 λj x hx K hK=>u0 _ (Sr x) x (hE.f j x hx).id (hE.f j x hx).g (hE.f j x hx).o (hE.f j x hx).n hK;have h6:=λ{K:KT}=>VI (K:=K) id (λk e=>rH k id e) E.out (E.fork.foldl jf k1) λj x hx K hK=>Wa _ id x (hE.o j) hK;have h7:=λ{K:KT}=>VJ (K:=K) id (λk e=>x7 k id e) E.log (E.out.foldl (λk e=>rH k id e) (E.fork.foldl jf k1)) λj x hx K hK=>XE _ id x (hE.l j) hK;have h8:=λ{K:KT}=>VH (K:=K) tI E.Ab (E.log.foldl (λk e=>x7 k id e) (E.out.foldl (λk e=>rH k id e) (E.fork.foldl jf k1))) λj x hx K hK=>TE _ x (hE.w j x hx).1 (hE.w j x hx).2 hK;have hd:=hE.d;unfold Qa at hk
    change ∀{K:KT},K (.ret (.tu [])) (fU false (AF k1 id E))->_ at h8
    have h9:=λ{K:KT}(hh:E.dn=true)=>Pm hI n false (AF k1 id E) id (hd hh) K;clear hE hd;generalize AF k1 id E=k5 at h8 h9 hk;generalize E.log.foldl (λk e=>x7 k id e) (E.out.foldl (λk e=>rH k id e) (E.fork.foldl jf k1))=k4 at h7 h8;generalize E.out.foldl (λk e=>rH k id e) (E.fork.foldl jf k1)=k3 at h6 h7;generalize E.fork.foldl jf k1=k2 at h5 h6;obtain⟨ef,eo,el,ew,ed⟩:=E;cases ed with
    |false=>
     repeat' ((conv=>whnf);first|exact zf|refine zm ?_|refine zr0 ?_|refine(h4 ?_)|refine(h5 ?_)|refine(h6 ?_)|refine(h7 ?_)|refine(h8 ?_)|refine zB ?_ ?_|intro _)
     exact hk
    |true=>
     have h9:=λ{K:KT}=>h9 (K:=K) rfl
     repeat' ((conv=>whnf);first|exact zf|refine zm ?_|refine zr0 ?_|refine(h4 ?_)|refine(h5 ?_)|refine(h6 ?_)|refine(h7 ?_)|refine(h8 ?_)|refine(h9 ?_)|refine zB ?_ ?_|intro _)
     exact hk
  .rw[τ h0]at hk;refine sh0 Tryz.f32 ?_
   repeat' ((conv=>whnf);first|exact zf|refine zm ?_|refine zB ?_ ?_|intro _)
   refine⟨_,hm,?_⟩
   repeat' ((conv=>whnf);first|exact zf|refine zm ?_|refine zB ?_ ?_|refine zt ?_|refine zu ?_|intro _)
   exact hk none
def TU(s:Sc):List Nat:=gk s.nm 0
structure U0(s:Sc):Prop where
  nm:s.nm=b8 (TU s)
  g:dr (TU s)
  l:cC s.l
def sj(t:Th)(s:br)(now:Int)(b:Option Nat):Th×br:=match t.sc[lj now t.sc]? with
 |some sc=>(rM t (lj now t.sc) sc,lr s (TU sc) (n_ t (lj now t.sc) sc) b)
 |none=>(t,s)
theorem GS{a b:UInt8}(h:∀i,i<8->a.toBitVec.getLsbD i=b.toBitVec.getLsbD i):a=b:=
 UInt8.toBitVec_inj.1 (BitVec.eq_of_getLsbD_eq λi hi=>h i hi)
theorem wb{a:UInt8}:a=0<->∀i,i<8->a.toBitVec.getLsbD i=false:=by
 constructor
 .intro h i _;rw[h];simp
 .intro h;exact GS λi hi=>by rw[h i hi];simp
theorem DZ(c b:UInt8):zn c.toNat b.toNat=true<->∀i,i<8->c.toBitVec.getLsbD i=true->b.toBitVec.getLsbD i=true:=by
 unfold zn;rw[Fl,ξ];have:((c &&& ~~~b).toNat:Int)=0<->c &&& ~~~b=0:=by
  rw[<-UInt8.toNat_inj];simp
 rw[this,wb];constructor
 .intro h i hi hc;have:=h i hi;simp[hc,hi]at this;exact this
 .intro h i hi;have:=h i hi;simp only[j8,UInt8.toBitVec_not,fM,BitVec.getLsbD_not,hi,decide_true,lP];cases hc:c.toBitVec.getLsbD i with
  |true=>simp[this hc]
  |false=>rfl
theorem JZ(b:UInt8):zn b.toNat b.toNat=true:=(DZ b b).2 λ_ _ h=>h
theorem B5{c b x:UInt8}(h:zn c.toNat b.toNat=true)(hx:(c &&& x==0)=false):(b &&& x==0)=false:=by
 rw[beq_eq_false_iff_ne]at hx⊢;intro hb;apply hx;rw[wb]at hb⊢;intro i hi;have h1:=(DZ c b).1 h i hi;have h2:=hb i hi;simp only[j8,fM]at h2⊢;cases hc:c.toBitVec.getLsbD i with
 |true=>rw[h1 hc]at h2;simpa using h2
 |false=>rfl
theorem zp{l:List UInt8}{n:Nat}:nA l n=true<->∃b∈l,b.toNat=n:=by
 unfold nA;rw[eO];simp
theorem p9{l:List UInt8}:∀{k:Nat}{n:Int},n∈eu l k->∃m,m<k/\n=(m:Int)/\nA l m=true
 |0,n,h=>by simp[eu]at h
 |k+1,n,h=>by
  rw[jO]at h;unfold jB at h;cases hb:nA l k&&!(oneOf k (eu l k)) with
  |false=>
   rw[hb,ε]at h;obtain⟨m,h1,h2,h3⟩:=p9 h;exact⟨m,by omega,h2,h3⟩
  |true=>
   rw[hb,δ,aT,aF]at h;rcases h with h|h
   .obtain⟨m,h1,h2,h3⟩:=p9 h;exact⟨m,by omega,h2,h3⟩
   .exact⟨k,by omega,h,by simp at hb;exact hb.1⟩
theorem qU{l:List UInt8}:∀{k:Nat}{m:Nat},k<=256->m<k->nA l m=true->∃n∈eu l k,zn n m=true
 |0,m,_,hm,_=>absurd hm (Nat.not_lt_zero _)
 |k+1,m,hk,hm,h=>by
  rw[jO];unfold jB
  by_cases hmk:m=k
  .subst hmk;rw[h,lP];cases ho:oneOf m (eu l m) with
   |true=>
    rw[qC,ε];unfold oneOf at ho;obtain⟨x,hx,hx2⟩:=eO.1 ho;exact⟨x,hx,hx2⟩
   |false=>
    rw[Bool.not_false,δ];refine⟨(m:Int),by simp,?_⟩;have:=JZ (UInt8.ofNat m);rw[gL,cm (by omega)]at this;exact this
  .obtain⟨n,hn,h2⟩:=qU (k:=k) (m:=m) (by omega) (by omega) h;cases nA l k&&!(oneOf k (eu l k))
   .exact⟨n,hn,h2⟩
   .exact⟨n,by rw[δ,aT];exact .inl hn,h2⟩
theorem wE{l:List UInt8}{c:UInt8}(h:c∈least l):c∈l:=by
 unfold least at h;obtain⟨n,hn,rfl⟩:=bQ.1 h;obtain⟨m,h1,rfl,h3⟩:=p9 hn;obtain⟨b,hb,rfl⟩:=zp.1 h3;simpa using hb
theorem z6{l:List UInt8}{b:UInt8}(h:b∈l):∃c∈least l,zn c.toNat b.toNat=true:=by
 have hb:=b.toNat_lt;obtain⟨n,hn,h2⟩:=qU (l:=l) (k:=256) (m:=b.toNat) (aL _) hb (zp.2 ⟨b,h,rfl⟩);have h3:=wF l 256 (aL _) n hn;refine⟨UInt8.ofNat n.toNat,bQ.2 ⟨n,hn,rfl⟩,?_⟩;rw[gL,cm (by omega),show((n.toNat:Nat):Int)=n by omega];exact h2
theorem kD{l:List UInt8}{x:UInt8}:gI l x=true<->∀b∈l,(b &&& x==0)=false:=by
 unfold gI;rw[aP];simp
theorem zZ(l:List UInt8)(x:UInt8):gI (least l) x=gI l x:=by
 rw[j0,kD,kD];constructor
 .intro h b hb;obtain⟨c,hc,h2⟩:=z6 hb;exact B5 h2 (h c hc)
 .intro h c hc;exact h c (wE hc)
theorem x4{l:List UInt8}(h:∀b∈l,b &&& 63=b):mg l=l:=by
 unfold mg
 induction l with
 |nil=>rfl
 |cons b r ih=>rw[dI,h b (by simp),ih λx hx=>h x (by simp[hx])]
theorem qQ{l:List UInt8}{b:UInt8}(h:b∈eP l):b &&& 63=b:=by
 have:=wE h;unfold mg at this;obtain⟨c,_,rfl⟩:=bQ.1 this;rw[UInt8.and_assoc,UInt8.and_self]
def yx(l:List UInt8)(x:Nat):Bool:=kC (eP l) x
theorem w_(l:List UInt8)(x:Nat):yx l x=gI (mg l) (UInt8.ofNat x):=zZ _ _
theorem yw(l:List UInt8)(x:Nat):yx (eP l) x=yx l x:=by
 rw[w_,x4 λb hb=>qQ hb];rfl
theorem Lr(a b:List UInt8)(x:Nat):yx (pz a b) x=(yx a x&&yx b x):=by
 unfold pz;rw[yw,w_,x4]
 .unfold gI yx kC gI;rw[List.all_append]
 .intro c hc;rcases aT.1 hc with h|h<;>exact qQ h
theorem zH(c d x:UInt8):((c ||| d) &&& x==0)=((c &&& x==0)&&(d &&& x==0)):=by
 rw[j0,aO,ξ,ξ,ξ];simp only[wb];constructor
 .intro h;constructor<;>intro i hi<;>have:=h i hi<;>simp only[j8,UInt8.toBitVec_or,fM,BitVec.getLsbD_or]at this⊢<;>revert this <;>
   cases c.toBitVec.getLsbD i<;>cases d.toBitVec.getLsbD i<;>cases x.toBitVec.getLsbD i<;>simp
 .intro⟨h1,h2⟩ i hi;have h1:=h1 i hi;have h2:=h2 i hi;simp only[j8,UInt8.toBitVec_or,fM,BitVec.getLsbD_or]at h1 h2⊢
  revert h1 h2
  cases c.toBitVec.getLsbD i<;>cases d.toBitVec.getLsbD i<;>cases x.toBitVec.getLsbD i<;>simp
theorem Q5(a b:List UInt8)(x:Nat):yx (Kz a b) x=(yx a x||yx b x):=by
 unfold Kz;rw[yw,w_,x4]
 .show gI _ _=(gI _ _||gI _ _);rw[j0,cT,kD,kD,kD];unfold gH;constructor
  .intro h
   by_cases ha:∀c∈eP a,(c &&& UInt8.ofNat x==0)=false
   .exact .inl ha
   .refine .inr λd hd=>?_;simp only[Classical.not_forall]at ha;obtain⟨c,hc,h2⟩:=ha;have h3:=h (c ||| d) (aj.2 ⟨c,hc,bQ.2 ⟨d,hd,rfl⟩⟩);rw[zH]at h3
    revert h2 h3
    cases(c &&& UInt8.ofNat x==0)<;>simp
  .rintro (h|h) e he
   all_goals
    obtain⟨c,hc,he⟩:=aj.1 he;obtain⟨d,hd,rfl⟩:=bQ.1 he;rw[zH]
    first
     |rw[h c hc];rfl
     |rw[h d hd,Bool.and_false]
 .intro e he;unfold gH at he;obtain⟨c,hc,he⟩:=aj.1 he;obtain⟨d,hd,rfl⟩:=bQ.1 he;have h1:=qQ hc;have h2:=qQ hd;have:(c ||| d) &&& 63=(c &&& 63) ||| (d &&& 63):=by
   refine GS λi _=>?_;simp only[j8,UInt8.toBitVec_or,fM,BitVec.getLsbD_or];cases c.toBitVec.getLsbD i<;>cases d.toBitVec.getLsbD i<;>simp
  rw[this,h1,h2]
theorem rC(l:List UInt8):∀k,k<=64->∃T:Nat,Ao l k=(T:Int)/\T<2 ^ 64/\∀j,T.testBit j=(decide (j<k)&&kC l j)
 |0,_=>⟨0,rfl,by decide,λj=>by simp⟩
 |k+1,hk=>by
  obtain⟨T,h1,h2,h3⟩:=rC l k (by omega);rw[vh];cases hb:kC l k with
  |false=>
   rw[ε];refine⟨T,h1,h2,λj=>?_⟩;rw[h3 j]
   by_cases hj:j=k
   .subst hj;simp[hb]
   .have:decide (j<k)=decide (j<k+1):=by rw[decide_eq_decide];omega
    rw[this]
  |true=>
   rw[δ];have hpw:(2:Nat) ^ k<2 ^ 64:=Nat.pow_lt_pow_right (by decide) (by omega);have hs:A_ .shl .u64 1 k=((2 ^ k:Nat):Int):=by
    show IntKind.u64.wrap (1*2 ^ min ((k:Int)).toNat 64)=_;rw[show min ((k:Int)).toNat 64=k by omega];show((1*2 ^ k:Int)) % 18446744073709551616=_;have:(1*2 ^ k:Int)=((2 ^ k:Nat):Int):=by simp
    rw[this];generalize(2:Nat) ^ k=p at hpw;omega
   have ho:∀a b:Nat,a<2 ^ 64->b<2 ^ 64->jF .or .u64 (a:Int) (b:Int)=((a ||| b:Nat):Int):=by
    intro a b ha hb;show((((BitVec.ofInt 64 (a:Int) ||| BitVec.ofInt 64 (b:Int)).toNat:Nat):Int)) % 18446744073709551616=_;have hlt:=Nat.or_lt_two_pow ha hb;simp only[lz,BitVec.toNat_or,BitVec.toNat_ofNat,cm ha,cm hb];omega
   rw[h1,hs,ho T _ h2 hpw];refine⟨T ||| 2 ^ k,rfl,Nat.or_lt_two_pow h2 hpw,λj=>?_⟩;rw[Nat.testBit_or,h3 j,Nat.testBit_two_pow]
   by_cases hj:j=k
   .subst hj;simp[hb]
   .have h4:decide (j<k)=decide (j<k+1):=by rw[decide_eq_decide];omega
    rw[h4,show decide (k=j)=false by simp;omega,dL]
theorem q7(a b:List UInt8):iE a b=true<->∀x,x<64->yx a x=true->yx b x=true:=by
 obtain⟨S,a1,a2,a3⟩:=rC (eP a) 64 (aL _);obtain⟨T,b1,b2,b3⟩:=rC (eP b) 64 (aL _);unfold iE tQ;rw[a1,b1,ξ];have e:jF .andNot .u64 (S:Int) (T:Int)=0<->(BitVec.ofNat 64 S &&& ~~~BitVec.ofNat 64 T)=0#64:=by
  show((((BitVec.ofInt 64 (S:Int) &&& ~~~BitVec.ofInt 64 (T:Int)).toNat:Nat):Int)) % 18446744073709551616=0<->_;rw[lz,lz];generalize BitVec.ofNat 64 S &&& ~~~BitVec.ofNat 64 T=w;have:=w.isLt;rw[<-BitVec.toNat_inj];simp only[BitVec.toNat_ofNat];omega
 rw[e];constructor
 .intro h x hx hs;have h1:(BitVec.ofNat 64 S &&& ~~~BitVec.ofNat 64 T).getLsbD x=false:=by rw[h];simp
  simp only[fM,BitVec.getLsbD_not,BitVec.getLsbD_ofNat,hx,decide_true,lP,a3 x,b3 x]at h1;have hs:kC (eP a) x=true:=hs;rw[hs]at h1;show kC (eP b) x=true;simpa using h1
 .intro h;refine BitVec.eq_of_getLsbD_eq λi hi=>?_;have h1:=h i hi;unfold yx at h1;simp only[fM,BitVec.getLsbD_not,BitVec.getLsbD_ofNat,hi,decide_true,lP,a3 i,b3 i];cases hs:kC (eP a) i with
  |false=>simp
  |true=>rw[h1 hs];simp
theorem FU(l m:Lb):bH l m=true<->(∀x,x<64->yx m.s x=true->yx l.s x=true)/\∀x,x<64->yx l.i x=true->yx m.i x=true:=by
 unfold bH;rw[aO,q7,q7]
theorem xn(l m:Lb):bH l (dS l m)=true:=by
 rw[FU];unfold dS;simp only[Lr,Q5];exact⟨λx _ h=>by simp at h;exact h.1,λx _ h=>by simp[h]⟩
theorem wu(l m:Lb):cC (dS l m):=by
 simp only[cC,dS,pz,Kz];exact And.intro (gx _) (gx _)
theorem Lo(l m:Lb):cC (nv l m):=by
 simp only[cC,nv,pz,Kz];exact And.intro (gx _) (gx _)
theorem ki(l:Lb):cC (gV l):=by
 unfold cC gV;exact And.intro (gx _) (gx _)
end Go.Proofs.YtmigecldjbgneaaGreatDoor