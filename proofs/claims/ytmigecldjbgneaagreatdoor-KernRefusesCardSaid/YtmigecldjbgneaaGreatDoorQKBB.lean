/- Lemmas. Conditions: none. -/
import Derived.Test.YtmigecldjbgneaaGreatDoorQKBA
set_option maxHeartbeats 8000000
namespace Go.Proofs.YtmigecldjbgneaaGreatDoor
open Go.Vx
set_option maxRecDepth 100000
inductive OR where
  |ok (e:Fx) (f:Option Nat->Ca×br)
  |ex (n:Int) (c:Ca) (s:br)
def OR.K(r:OR)(K:Out->H->Prop):Prop:=match r with
 |.ok e f=>∀b,K (.ret (.tu [])) (Nc (f b).1 e false (f b).2)
 |.ex n c s=>K (.eU (pj n)) (fE c s)
def gk:List UInt8->Nat->List Nat
 |[],a=>[a]
 |c::r,a=>bif c==46 then a::gk r 0 else gk r (10*a+(c.toNat-48))
def qE(t:Th):List Nat:=gk t.pa 0++[t.ma.toNat]
structure RL(t:Th):Prop where
  pa:t.pa=b8 (gk t.pa 0)
  ne:gk t.pa 0≠[]
  le:(gk t.pa 0).length<24
  sm:∀n∈gk t.pa 0,n<100
  m0:0<=t.ma
  m1:t.ma<100
  r2:t.ro<1000000000
theorem RL.oG{t:Th}(h:RL t):dr (qE t):=by
 refine⟨by simp[qE],?_,λn hn=>?_⟩
 .have:=h.le;simp[qE];omega
 .rcases aT.1 hn with g|g
  .exact h.sm n g
  .rw[aF.1 g];have:=h.m1;have:=h.m0;omega
def rB(c:Ca)(s:br)(l:Lb):OR:=bif dY c.t.g l==0 then .ok .no λ_=>({c with t:={c.t with g:=cj c.t.g l}},s)else .ex (dY c.t.g l) c s
def cH(ks:List Int)(ar:List Va):Bool:=(ks.zip ar).all λp=>p.1==0||p.2.k==p.1
def rm(ks:List Int):List (List D):=ks.map λn=>[.int .i64 n]
def Rk(b:Bool)(c:Ca)(s:br)(K:Out->H->Prop):Prop:=match b with
 |true=>K (.ret (.tu [])) (fE c s)
 |false=>K (.eU (pj (-1))) (fE c s)
theorem zd{K:KT}(c:Ca)(s:br)(ks:List Int)(B:Bool)(hl:ks.length<=c.ar.length)(hb:cH ks c.ar=B)(hk:Rk B c s K):Z1 259 [.p 0 0,.d (.sl 1 (rm ks))] (fE c s) K:=by
 have hl1:(rm ks).length=ks.length:=aI _;have hl2:(c.ar.map b9).length=c.ar.length:=aI _;refine sh0 Tryz.f259 ?_
 repeat' ((conv=>whnf);first|exact zf|refine zm ?_|refine zB ?_ ?_|intro _)
 conv=>whnf
 refine bA [(0,.p 0 0),(6,.d (.sl 1 (rm ks))),(7,.d (.int .i64 (rm ks).length))] (λi:Nat=>i<=ks.length/\cH (ks.drop i) (c.ar.drop i)=B) (λi=>[(8,.d (.int .i64 i))]) (λ_=>fE c s) (λi=>ks.length-i) 0 ⟨aY _,hb⟩ ?_ ?_ ?_ (λi hi=>?_)
 .exact zzz
 .exact zzz
 .exact rfl
 repeat' ((conv=>whnf);first|exact zf|refine zm ?_|refine zB ?_ ?_|intro _)
 refine aU (λhlt=>?_) (λhge=>?_)
 .have hlt:i<ks.length:=by rw[<-hl1];simpa using hlt
  obtain⟨k,hm⟩:∃k,ks[i]?=some k:=⟨_,aA hlt⟩
  obtain⟨v,hv⟩:∃v,c.ar[i]?=some v:=⟨_,aA (by omega)⟩
  have hdk:ks.drop i=k::ks.drop (i+1):=by
   rw[bC hlt];rw[aA hlt]at hm;rw[af hm]
  have hdv:c.ar.drop i=v::c.ar.drop (i+1):=by
   have h2:i<c.ar.length:=by omega
   rw[bC h2];rw[aA h2]at hv;rw[af hv]
  have hB:=hi.2;rw[hdk,hdv]at hB;simp only[cH,List.zip_cons_cons,qB]at hB;have hrow:(rm ks)[i]?=some [D.int .i64 k]:=by simp[rm,hm]
  have hrow2:(c.ar.map b9)[i]?=some (b9 v):=by simp[hv]
  repeat' ((conv=>whnf);first|exact zf|refine zm ?_|refine zB ?_ ?_|intro _)
  refine⟨_,⟨by omega,hrow,rfl⟩,?_⟩
  by_cases hk0:k=0
  .subst hk0
   repeat' ((conv=>whnf);first|exact zf|refine zm ?_|refine zB ?_ ?_|refine zt ?_|refine zu ?_|intro _)
   refine⟨i+1,⟨hlt,by simpa[cH]using hB⟩,aN hlt (aQ i),zzz,zzz,rfl⟩
  .by_cases hkv:v.k=k
   .skip
    repeat' ((conv=>whnf);first|exact zf|refine zm ?_|refine⟨_,⟨by omega,hrow2,rfl⟩,?_⟩|refine zB ?_ ?_|refine zt ?_|refine zu ?_|intro _)
    refine⟨i+1,⟨hlt,by simpa[cH,hkv]using hB⟩,aN hlt (aQ i),zzz,zzz,rfl⟩
   .have hBf:B=false:=by rw[<-hB];simp[hk0,hkv]
    rw[hBf]at hk
    repeat' ((conv=>whnf);first|exact zf|refine zm ?_|refine⟨_,⟨by omega,hrow2,rfl⟩,?_⟩|refine(jr _ ?_)|refine zB ?_ ?_|refine zt ?_|refine zu ?_|intro _)
    exact hk
 .have hge:i=ks.length:=by
   have:¬i<ks.length:=by rw[<-hl1];simpa using hge
   omega
  have hBt:B=true:=by rw[<-hi.2,hge,du];rfl
  rw[hBt]at hk
  repeat' ((conv=>whnf);first|exact zf|refine zm ?_|refine zB ?_ ?_|intro _)
  exact hk
theorem dp{K:KT}(c:Ca)(s:br)(ks:List Int)(hl:ks.length<=c.ar.length)(hb:cH ks c.ar=true)(hk:K (.ret (.tu [])) (fE c s)):Z1 259 [.p 0 0,.d (.sl 1 (rm ks))] (fE c s) K:=zd c s ks true hl hb hk
theorem dq{K:KT}(c:Ca)(s:br)(ks:List Int)(hl:ks.length<=c.ar.length)(hb:cH ks c.ar=false)(hk:K (.eU (pj (-1))) (fE c s)):Z1 259 [.p 0 0,.d (.sl 1 (rm ks))] (fE c s) K:=zd c s ks false hl hb hk
theorem Gc{K:KT}(c:Ca)(s:br)(l:Lb)(hs:jl c.t.g)(hl:cC l)(hj:cC (dS c.t.g.cur l))(hk:(rB c s l).K K):Z1 260 [.p 0 0,lO l] (fE c s) K:=by
 unfold rB at hk
 by_cases he:dY c.t.g l=0
 .rw[he]at hk;exact nR c s l hs hl hj he (hk none)
 .have hb:(dY c.t.g l==0)=false:=by simp[he]
  rw[hb]at hk;exact nS c s l hs hl hj he hk
def xJ(c:Ca)(s:br):OR:=bif cH [2] c.ar then rB c s (bF (c.ar[0]?.getD ck))else .ex (-1) c s
theorem H3{K:KT}(c:Ca)(s:br)(m:Va)(har:c.ar=[m])(hs:jl c.t.g)(hl:cC (bF m))(hj:cC (dS c.t.g.cur (bF m)))(hk:(xJ c s).K K):Z1 200 [.p 0 0] (fE c s) K:=by
 obtain⟨im,now,t,tr,o,ar,ma⟩:=c;subst har;have h2:=λ{K:KT}=>Gc (K:=K) ⟨im,now,t,tr,o,[m],ma⟩ s (bF m) hs hl hj;unfold xJ at hk;cases hb:cH [2] [m] with
 |true=>
  have h1:=λ{K:KT}=>dp (K:=K) ⟨im,now,t,tr,o,[m],ma⟩ s [2] (aL _) hb;dsimp only at hk;rw[hb,δ]at hk
  replace hk:(rB ⟨im,now,t,tr,o,[m],ma⟩ s (bF m)).K K:=hk
  generalize hR:rB ⟨im,now,t,tr,o,[m],ma⟩ s (bF m)=R at h2 hk;cases R with
  |ok e f=>
   cases e
   all_goals
    refine sh0 Tryz.f200 ?_
    repeat' ((conv=>whnf);first|exact zf|refine zm ?_|refine zr0 ?_|refine(h1 ?_)|refine(h2 (λb=>?_))|refine⟨_,⟨by omega,rfl,rfl⟩,?_⟩|refine zB ?_ ?_|intro _)
    exact hk _
  |ex n c' s'=>
   have h3:=λ{K:KT}(g:K (.eU (pj n)) (fE c' s'))=>h2 (K:=K) g;refine sh0 Tryz.f200 ?_
   repeat' ((conv=>whnf);first|exact zf|refine zm ?_|refine zr0 ?_|refine(h1 ?_)|refine(h3 ?_)|refine⟨_,⟨by omega,rfl,rfl⟩,?_⟩|refine zB ?_ ?_|intro _)
   exact hk
 |false=>
  have h1:=λ{K:KT}=>dq (K:=K) ⟨im,now,t,tr,o,[m],ma⟩ s [2] (aL _) hb;dsimp only at hk;rw[hb,ε]at hk;refine sh0 Tryz.f200 ?_
  repeat' ((conv=>whnf);first|exact zf|refine zm ?_|refine zr0 ?_|refine(h1 ?_)|refine zB ?_ ?_|intro _)
  exact hk
def MO(c:Ca)(s:br):OR:=bif cH [0,2] c.ar then
 (bif b5 c.t.g (bF (c.ar[1]?.getD ck))==0 then .ok (.out ⟨bF (c.ar[1]?.getD ck),c.ar[0]?.getD ck⟩) λ_=>(c,s)else .ex (b5 c.t.g (bF (c.ar[1]?.getD ck))) c s)else .ex (-1) c s
theorem Q_{K:KT}(c:Ca)(s:br)(a m:Va)(har:c.ar=[a,m])(hs:jl c.t.g)(hl:cC (bF m))(hk:(MO c s).K K):Z1 213 [.p 0 0] (fE c s) K:=by
 obtain⟨im,now,t,tr,o,ar,ma⟩:=c;subst har;have h2:=gr t.g (bF m) hs hl;unfold MO at hk;cases hb:cH [0,2] [a,m] with
 |true=>
  have h1:=λ{K:KT}=>dp (K:=K) ⟨im,now,t,tr,o,[a,m],ma⟩ s [0,2] (aL _) hb;dsimp only at hk;rw[hb,δ]at hk
  by_cases hw:b5 t.g (bF m)=0
  .rw[hw]at h2;have hwb:(b5 t.g (bF m)==0)=true:=by simp[hw]
   replace hk:OR.K (bif b5 t.g (bF m)==0 then .ok (.out ⟨bF m,a⟩) λ_=>(⟨im,now,t,tr,o,[a,m],ma⟩,s)else .ex (b5 t.g (bF m)) ⟨im,now,t,tr,o,[a,m],ma⟩ s) K:=hk
   rw[hwb,δ]at hk;refine sh0 Tryz.f213 ?_
   repeat' ((conv=>whnf);first|exact zf|refine(iP ?_)|refine zm ?_|refine zr0 ?_|refine(h1 ?_)|refine zc h2 ?_|refine(jA ?_)|refine⟨_,⟨by omega,rfl,rfl⟩,?_⟩|refine zB ?_ ?_|intro _)
   exact hk none
  .have hwb:(b5 t.g (bF m)==0)=false:=by simp[hw]
   replace hk:OR.K (bif b5 t.g (bF m)==0 then .ok (.out ⟨bF m,a⟩) λ_=>(⟨im,now,t,tr,o,[a,m],ma⟩,s)else .ex (b5 t.g (bF m)) ⟨im,now,t,tr,o,[a,m],ma⟩ s) K:=hk
   rw[hwb,ε]at hk;refine sh0 Tryz.f213 ?_
   repeat' ((conv=>whnf);first|exact zf|refine zm ?_|refine zr0 ?_|refine(h1 ?_)|refine zc h2 ?_|refine(lG _ hw ?_)|refine⟨_,⟨by omega,rfl,rfl⟩,?_⟩|refine zB ?_ ?_|intro _)
   exact hk
 |false=>
  have h1:=λ{K:KT}=>dq (K:=K) ⟨im,now,t,tr,o,[a,m],ma⟩ s [0,2] (aL _) hb;dsimp only at hk;rw[hb,ε]at hk;refine sh0 Tryz.f213 ?_
  repeat' ((conv=>whnf);first|exact zf|refine zm ?_|refine zr0 ?_|refine(h1 ?_)|refine zB ?_ ?_|intro _)
  exact hk
def dD(s:br)(h:Va):Option (Nat×Ob):=match bw h.nm s.th with
 |some (i,o)=>bif (o.k==h.k)&&((o.l.s==h.ls)&&(o.l.i==h.li))then some (i,o)else none
 |none=>none
def l_(s:br)(h:Va):Ob:=((dD s h).map (·.2)).getD fo
def yt(s:br)(nm:List UInt8):Prop:=∀i o,bw nm s.th=some (i,o)->o.va.q.length<100000000
theorem ju{K:KT}(c:Ca)(s:br)(h:Va)(hqa:yt s h.nm)(hk:K (.ret (.tu [jG (l_ s h),.d (.bool (dD s h).isSome)])) (fE c s)):Z1 269 [.p 0 0,jh h] (fE c s) K:=by
 have hq:(fy s h.nm).va.q.length<100000000:=by
  unfold fy;cases hlk:bw h.nm s.th with
  |none=>simp[fo,BX]
  |some p=>exact hqa p.1 p.2 hlk
 have hg:=qb (K:=λout hh=>out=.ret (.tu [jG (fy s h.nm),.d (.bool (l9 s h.nm))])/\hh=mZ s) s h.nm hq ⟨rfl,rfl⟩;unfold fy l9 at hg;unfold l_ dD at hk;cases hlk:bw h.nm s.th with
 |none=>
  rw[hlk]at hg hk;refine s269.go (keep:=false) rfl ?_
  repeat' ((conv=>whnf);first|exact zf|refine da _ _ [111] ?_ rfl|refine a8 (a8 ?_)|refine zm ?_|refine Sat.eqs (hg) ?_|refine zr0 ?_|refine zB ?_ ?_|refine zt ?_|refine zu ?_|intro _)
  all_goals
   exact hk
 |some p=>
  obtain⟨i,o⟩:=p;rw[hlk]at hg hk;dsimp only[Option.map,Option.getD,Option.isSome]at hg;dsimp only at hk;cases hkk:o.k==h.k with
  |false=>
   rw[hkk]at hk;refine s269.go (keep:=false) rfl ?_
   repeat' ((conv=>whnf);first|exact zf|refine da _ _ [111] ?_ rfl|refine a8 (a8 ?_)|refine zm ?_|refine Sat.eqs (hg) ?_|refine zr0 ?_|refine zB ?_ ?_|refine zt ?_|refine zu ?_|intro _)
   all_goals
    exact hk
  |true=>
   cases hll:(o.l.s==h.ls)&&(o.l.i==h.li) with
   |false=>
    rw[hkk,hll]at hk;have e2:(!(o.l.s==h.ls&&(o.l.i==h.li&&true)))=true:=by rw[eA,hll];rfl
    refine s269.go (keep:=false) rfl ?_
    repeat' ((conv=>whnf);first|exact zf|refine da _ _ [111] ?_ rfl|refine a8 (a8 ?_)|refine zm ?_|refine Sat.eqs (hg) ?_|refine zr0 ?_|refine(bf e2 ?_)|refine zB ?_ ?_|refine zt ?_|refine zu ?_|intro _)
    all_goals
     exact hk
   |true=>
    rw[hkk,hll]at hk;have e2:(!(o.l.s==h.ls&&(o.l.i==h.li&&true)))=false:=by rw[eA,hll];rfl
    refine s269.go (keep:=false) rfl ?_
    repeat' ((conv=>whnf);first|exact zf|refine da _ _ [111] ?_ rfl|refine a8 (a8 ?_)|refine zm ?_|refine Sat.eqs (hg) ?_|refine zr0 ?_|refine(bB e2 ?_)|refine zB ?_ ?_|refine zt ?_|refine zu ?_|intro _)
    all_goals
     exact hk
def nQ(c:Ca)(s:br)(o:Ob):OR:=bif o.ex then .ex o.v.n c s else .ok .no λ_=>({c with t:={c.t with c:=jb c.t.c o.v}},s)
theorem Cb{K:KT}(c:Ca)(s:br)(o:Ob)(hl:c.t.c.st.length<1000000000)(hk:(nQ c s o).K K):Z1 265 [.p 0 0,jG o] (fE c s) K:=by
 obtain⟨ok,ol,ov,oe,od,oq,of,om⟩:=o;unfold nQ at hk;cases oe with
 |true=>
  replace hk:K (.eU (pj ov.n)) (fE c s):=hk
  refine sh0 Tryz.f265 ?_
  repeat' ((conv=>whnf);first|exact zf|refine zm ?_|refine(jr _ ?_)|refine zB ?_ ?_|intro _)
  exact hk
 |false=>
  replace hk:K (.ret (.tu [])) (fE {c with t:={c.t with c:=jb c.t.c ov}} s):=hk none
  have h1:=λ{K:KT}=>kj (K:=K) c s ov hl;refine sh0 Tryz.f265 ?_
  repeat' ((conv=>whnf);first|exact zf|refine zm ?_|refine zr0 ?_|refine(h1 ?_)|refine zB ?_ ?_|intro _)
  exact hk
def rp(c:Ca)(s:br)(h:Va)(go:Ca->br->Ob->OR):OR:=
 bif dY c.t.g (bF h)==0 then(match dD s h with
  |some (_,o)=>go {c with t:={c.t with g:=cj c.t.g (bF h)}} s o
  |none=>.ok .no λ_=>({c with t:={c.t with g:=cj c.t.g (bF h),c:=jb c.t.c (num 0)}},s))else .ex (dY c.t.g (bF h)) c s
theorem HX{K:KT}(c:Ca)(s:br)(h:Va)(hl:c.t.c.st.length<1000000000)(hs:jl c.t.g)(hlh:cC (bF h))(hj:cC (dS c.t.g.cur (bF h)))(hqa:yt s h.nm)(hk:(rp c s h nQ).K K):Z1 264 [.p 0 0,jh h,.fc 1000265 [.p 0 0]] (fE c s) K:=by
 unfold rp at hk
 by_cases he:dY c.t.g (bF h)=0
 .have h1:=λ{K:KT}=>nR (K:=K) c s (bF h) hs hlh hj he;have h2:=λ{K:KT}=>ju (K:=K) {c with t:={c.t with g:=cj c.t.g (bF h)}} s h hqa;rw[he]at hk;unfold l_ at h2;cases ht:dD s h with
  |none=>
   rw[ht]at h2 hk
   replace hk:K (.ret (.tu [])) (fE {c with t:={c.t with g:=cj c.t.g (bF h),c:=jb c.t.c (num 0)}} s):=hk none
   have h3:=λ{K:KT}=>kj (K:=K) {c with t:={c.t with g:=cj c.t.g (bF h)}} s (num 0) hl;refine sh0 Tryz.f264 ?_
   repeat' ((conv=>whnf);first|exact zf|refine zm ?_|refine zr0 ?_|refine(h1 ?_)|refine(h2 ?_)|refine(h3 ?_)|refine zB ?_ ?_|intro _)
   exact hk
  |some p=>
   obtain⟨i,o⟩:=p;rw[ht]at h2 hk
   replace hk:(nQ {c with t:={c.t with g:=cj c.t.g (bF h)}} s o).K K:=hk
   have h3:=λ{K:KT}=>Cb (K:=K) {c with t:={c.t with g:=cj c.t.g (bF h)}} s o hl;generalize hR:nQ {c with t:={c.t with g:=cj c.t.g (bF h)}} s o=R at h3 hk;cases R with
   |ok e f=>
    cases e
    all_goals
     refine sh0 Tryz.f264 ?_
     repeat' ((conv=>whnf);first|exact zf|refine zm ?_|refine zr0 ?_|refine(h1 ?_)|refine(h2 ?_)|refine(h3 (λb=>?_))|refine zB ?_ ?_|intro _)
     exact hk _
   |ex n c' s'=>
    have h4:=λ{K:KT}(g:K (.eU (pj n)) (fE c' s'))=>h3 (K:=K) g;refine sh0 Tryz.f264 ?_
    repeat' ((conv=>whnf);first|exact zf|refine zm ?_|refine zr0 ?_|refine(h1 ?_)|refine(h2 ?_)|refine(h4 ?_)|refine zB ?_ ?_|intro _)
    exact hk
 .have hb:(dY c.t.g (bF h)==0)=false:=by simp[he]
  rw[hb]at hk;have h1:=λ{K:KT}=>nS (K:=K) c s (bF h) hs hlh hj he;refine sh0 Tryz.f264 ?_
  repeat' ((conv=>whnf);first|exact zf|refine zm ?_|refine zr0 ?_|refine(h1 ?_)|refine zB ?_ ?_|intro _)
  exact hk
def Cy(c:Ca)(s:br):OR:=bif cH [3] c.ar then rp c s (c.ar[0]?.getD ck) nQ else .ex (-1) c s
theorem MR{K:KT}(c:Ca)(s:br)(h:Va)(har:c.ar=[h])(hl:c.t.c.st.length<1000000000)(hs:jl c.t.g)(hlh:cC (bF h))(hj:cC (dS c.t.g.cur (bF h)))(hqa:yt s h.nm)(hk:(Cy c s).K K):Z1 203 [.p 0 0] (fE c s) K:=by
 obtain⟨im,now,t,tr,o,ar,ma⟩:=c;subst har;have h2:=λ{K:KT}=>HX (K:=K) ⟨im,now,t,tr,o,[h],ma⟩ s h hl hs hlh hj hqa;unfold Cy at hk;cases hb:cH [3] [h] with
 |true=>
  have h1:=λ{K:KT}=>dp (K:=K) ⟨im,now,t,tr,o,[h],ma⟩ s [3] (aL _) hb;dsimp only at hk;rw[hb,δ]at hk
  replace hk:(rp ⟨im,now,t,tr,o,[h],ma⟩ s h nQ).K K:=hk
  generalize hR:rp ⟨im,now,t,tr,o,[h],ma⟩ s h nQ=R at h2 hk;cases R with
  |ok e f=>
   cases e
   all_goals
    refine sh0 Tryz.f203 ?_
    repeat' ((conv=>whnf);first|exact zf|refine zm ?_|refine zr0 ?_|refine(h1 ?_)|refine(h2 (λb=>?_))|refine⟨_,⟨by omega,rfl,rfl⟩,?_⟩|refine zB ?_ ?_|intro _)
    exact hk _
  |ex n c' s'=>
   have h3:=λ{K:KT}(g:K (.eU (pj n)) (fE c' s'))=>h2 (K:=K) g;refine sh0 Tryz.f203 ?_
   repeat' ((conv=>whnf);first|exact zf|refine zm ?_|refine zr0 ?_|refine(h1 ?_)|refine(h3 ?_)|refine⟨_,⟨by omega,rfl,rfl⟩,?_⟩|refine zB ?_ ?_|intro _)
   exact hk
 |false=>
  have h1:=λ{K:KT}=>dq (K:=K) ⟨im,now,t,tr,o,[h],ma⟩ s [3] (aL _) hb;dsimp only at hk;rw[hb,ε]at hk;refine sh0 Tryz.f203 ?_
  repeat' ((conv=>whnf);first|exact zf|refine zm ?_|refine zr0 ?_|refine(h1 ?_)|refine zB ?_ ?_|intro _)
  exact hk
def jN(s:br)(on id:List UInt8):br:=match bw on s.th with
 |some (i,o)=>bif o.k==5&&(j4 o.va id).2 then jw s i on {o with va:=(j4 o.va id).1}else s
 |none=>s
theorem NH{K:KT}(lk:Bool)(k:Kn)(on id:List UInt8)(hq:∀p∈k.s.th,p.2.va.q.length<90000000)(hk:K (.ret (.tu [])) (fU lk {k with s:=jN k.s on id})):Z1 103 [.p 0 0,.d (.str on),.d (.str id)] (fU lk k) K:=by
 have hqo:(fy k.s on).va.q.length<100000000:=by
  unfold fy;cases hlk:bw on k.s.th with
  |none=>simp[fo,BX]
  |some p=>
   obtain⟨x,hx,he⟩:=gW hlk;have:=hq x hx;simp only[bJ,cR];rw[<-he];omega
 have hg:=qb (K:=λout h=>out=.ret (.tu [jG (fy k.s on),.d (.bool (l9 k.s on))])/\h=mZ k.s) k.s on hqo ⟨rfl,rfl⟩;unfold fy l9 at hg;unfold fy at hqo;unfold jN at hk;cases hlk:bw on k.s.th with
 |none=>
  rw[hlk]at hg hk;cases lk
  all_goals
   refine sh0 Tryz.f103 ?_
   repeat' ((conv=>whnf);first|exact zf|refine da _ _ [111] ?_ rfl|refine a8 (a8 ?_)|refine zm ?_|refine Sat.eqs (hg) ?_|refine zr0 ?_|refine zB ?_ ?_|refine zt ?_|refine zu ?_|intro _)
   exact hk
 |some p=>
  obtain⟨i,o⟩:=p;rw[hlk]at hg hk hqo;have hqo:o.va.q.length<100000000:=hqo;dsimp only at hk
  by_cases h5:o.k=5
  .have h1:=Rh o.va id hqo;have e5:(o.k==5)=true:=by simp[h5]
   rw[e5,lP]at hk;cases hb:(j4 o.va id).2 with
   |true=>
    rw[hb]at hk h1;have hqn:(j4 o.va id).1.q.length<100000000:=by
     revert hb
     unfold j4;cases decide (gJ id o.va.q<o.va.q.length)
     .intro h;cases h
     .intro _;show(lp o.va.q _).length<_;unfold lp;rw[aM,a_,dt];omega
    have hset:=λ{K:KT}=>lC (K:=K) k.s on i {o with va:=(j4 o.va id).1} o hlk rfl rfl hqn;cases lk
    all_goals
     refine sh0 Tryz.f103 ?_
     repeat' ((conv=>whnf);first|exact zf|refine da _ _ [111] ?_ rfl|refine a8 (a8 ?_)|refine zm ?_|refine Sat.eqs (hg) ?_|refine zr0 ?_|refine zc h1 ?_|refine zr0 ?_|refine(hset ?_)|refine zB ?_ ?_|refine zt ?_|refine zu ?_|intro _)
     exact hk
   |false=>
    rw[hb]at hk h1;cases lk
    all_goals
     refine sh0 Tryz.f103 ?_
     repeat' ((conv=>whnf);first|exact zf|refine da _ _ [111] ?_ rfl|refine a8 (a8 ?_)|refine zm ?_|refine Sat.eqs (hg) ?_|refine zr0 ?_|refine zc h1 ?_|refine zB ?_ ?_|refine zt ?_|refine zu ?_|intro _)
     exact hk
  .have e5:(o.k==5)=false:=by simp[h5]
   rw[e5,iV]at hk;cases lk
   all_goals
    refine sh0 Tryz.f103 ?_
    repeat' ((conv=>whnf);first|exact zf|refine da _ _ [111] ?_ rfl|refine a8 (a8 ?_)|refine zm ?_|refine Sat.eqs (hg) ?_|refine zr0 ?_|refine zB ?_ ?_|refine zt ?_|refine zu ?_|intro _)
    exact hk
def x8(k:Kn)(t:Th)(at':Nat)(sc:Sc)(b:Option Nat):Kn:=
 xL {k with s:=lr (bif t.st==1 then jN k.s t.on t.id else k.s) (gk sc.nm 0) (n_ t at' sc) b} (rM t at' sc)
theorem u4(s:br)(on id:List UInt8):(jN s on id).nm=s.nm:=by
 unfold jN;split
 .rename_i o _;cases(o.k==5&&(j4 o.va id).2)<;>rfl
 .rfl
theorem Ri{K:KT}(lk:Bool)(k:Kn)(t:Th)(at':Nat)(sc:Sc)(hs:t.sc[at']?=some sc)(hnm:sc.nm=b8 (gk sc.nm 0))(hg:dr (gk sc.nm 0))(hl:cC sc.l)(hc:cC t.g.cur)(hn:t.sc.length<1000000000)(hst:t.c.st.length<1000000000)(hgs:mj k.s)
  (hq:∀p∈k.s.th,p.2.va.q.length<90000000) (hk:∀b,K (.ret (.tu [])) (fU lk (x8 k t at' sc b))):Z1 62 [.p 0 0,eW t,.d (.int .i64 at')] (fU lk k) K:=by
 have h3:=Mk t at' sc hs hc hl hn hst;unfold x8 at hk;rw[hnm]at h3
 by_cases h1:t.st=1
 .have e1:(t.st==1)=true:=by simp[h1]
  rw[e1,δ]at hk;have h2:=λ{K:KT}=>NH (K:=K) lk k t.on t.id hq;have h4:=λ{K:KT}=>mX (K:=K) (jN k.s t.on t.id) (gk sc.nm 0) (n_ t at' sc) ⟨hg,⟨by rw[u4];exact hgs.1,by rw[u4];exact hgs.2⟩,hl,(show(3:Int)<=3 by decide),(show(3:Int)<=7 by decide),(show(0:Nat)<_ by decide)⟩;have h5:=λ{K:KT}(b:Option Nat)=>zE (K:=K) lk {k with s:=lr (jN k.s t.on t.id) (gk sc.nm 0) (n_ t at' sc) b} (rM t at' sc);cases lk
  all_goals
   refine sh0 Tryz.f62 ?_
   repeat' ((conv=>whnf);first|exact zf|refine zm ?_|refine zr0 ?_|refine(h2 ?_)|refine zc h3 ?_|refine(h4 (λb n=>?_))|refine(h5 _ ?_)|refine zB ?_ ?_|refine zt ?_|refine zu ?_|intro _)
   exact hk _
 .have e1:(t.st==1)=false:=by simp[h1]
  rw[e1,ε]at hk;have h4:=λ{K:KT}=>mX (K:=K) k.s (gk sc.nm 0) (n_ t at' sc) ⟨hg,hgs,hl,(show(3:Int)<=3 by decide),(show(3:Int)<=7 by decide),(show(0:Nat)<_ by decide)⟩;have h5:=λ{K:KT}(b:Option Nat)=>zE (K:=K) lk {k with s:=lr k.s (gk sc.nm 0) (n_ t at' sc) b} (rM t at' sc);cases lk
  all_goals
   refine sh0 Tryz.f62 ?_
   repeat' ((conv=>whnf);first|exact zf|refine zm ?_|refine zr0 ?_|refine zc h3 ?_|refine(h4 (λb n=>?_))|refine(h5 _ ?_)|refine zB ?_ ?_|refine zt ?_|refine zu ?_|intro _)
   exact hk _
structure U3(t:Th):Prop where
  g:cC t.g.cur
  sn:t.sc.length<1000000000
  st:t.c.st.length<1000000000
  sc:∀s∈t.sc,s.nm=b8 (gk s.nm 0)/\dr (gk s.nm 0)/\cC s.l
structure MX(k:Kn)(id:List UInt8)(i:Nat)(t:Th):Prop where
  f:dy id k.th=some (i,t)
  l:U3 t
  gs:mj k.s
  q:∀p∈k.s.th,p.2.va.q.length<90000000
def kN(k:Kn)(id:List UInt8)(b:Option Nat):Kn:=match dy id k.th with
 |some (_,t)=>(match t.sc[lj k.now t.sc]? with
  |some sc=>x8 k t (lj k.now t.sc) sc b
  |none=>k)
 |none=>k
def YQ(k:Kn):H:=[.cells [.p 1 0],FE k 2 3 4 7 8,.dm (k_ k.th),GB true k.ord,.cells [.mp 5,.mp 6],.dm (iW k.s.th),.ms 1 (ik k.s.nm) none none,.rows 9 (k.fa.map fm),.rows 8 (k.le.map jT)]
def XP(k:Kn):H:=[GB true k.ord,.cells [.p 2 0],FE k 3 0 4 7 8,.dm (k_ k.th),.cells [.mp 5,.mp 6],.dm (iW k.s.th),.ms 1 (ik k.s.nm) none none,.rows 9 (k.fa.map fm),.rows 8 (k.le.map jT)]
theorem CP{K:KT}(k:Kn)(id:List UInt8)(i:Nat)(t:Th)(h:MX k id i t)(hk:∀b,K (.ret (.tu [])) (YQ (kN k id b))):Z1 60 [.d (.str id),.p 0 0] (YQ k) K:=by
 have hm:=pg id k.th 0;rw[h.f]at hm;have h1:=VP t k.now;unfold F0 at h1;unfold kN at hk;rw[h.f]at hk;dsimp only at hk;cases hs:t.sc[lj k.now t.sc]? with
 |none=>
  have hlt:¬lj k.now t.sc<t.sc.length:=λhlt=>by rw[aA hlt]at hs;cases hs
  rw[η hlt]at h1;rw[hs]at hk;refine sh0 Tryz.f60 ?_
  repeat' ((conv=>whnf);first|exact zf|refine zm ?_|refine zB ?_ ?_|intro _)
  refine⟨_,hm,?_⟩
  repeat' ((conv=>whnf);first|exact zf|refine zm ?_|refine zc h1 ?_|refine(bB (by decide) ?_)|refine zB ?_ ?_|intro _)
  exact hk none
 |some sc=>
  have hlt:=(aC.1 hs).1;rw[ζ hlt]at h1;rw[hs]at hk;obtain⟨m1,m2,m3⟩:=h.l.sc sc (aG hs);have h2:=λ{K:KT}=>Ri (K:=K) true k t (lj k.now t.sc) sc hs m1 m2 m3 h.l.g h.l.sn h.l.st h.gs h.q;have hge:decide ((0:Int)<=(lj k.now t.sc:Int))=true:=by simp
  generalize lj k.now t.sc=d at h1 h2 hge hk⊢;refine sh0 Tryz.f60 ?_
  repeat' ((conv=>whnf);first|exact zf|refine zm ?_|refine zB ?_ ?_|intro _)
  refine⟨_,hm,?_⟩
  repeat' ((conv=>whnf);first|exact zf|refine zm ?_|refine zc h1 ?_|refine(bf hge ?_)|refine zr0 ?_|refine(h2 (λb=>?_))|refine zB ?_ ?_|intro _)
  exact hk _
theorem VM{K:KT}(I:Nat->Kn->Prop)(k:Kn)(h0:I 0 k)(ho:∀j k',I j k'->k'.ord=k.ord)(hI:∀j k' x,k.ord[j]?=some x->I j k'->(∃i t,MX k' (b8 x) i t)/\∀b,I (j+1) (kN k' (b8 x) b))(hk:∀k',I k.ord.length k'->K (.ret (.tu [])) (XP k')) :
  Z1 59 [.os 0,.fc 60 [.p 1 0]] (XP k) K:=by
 have e1:(cM (k.ord.map b8)).length=k.ord.length:=by rw[ff,aI]
 refine sh0 Tryz.f59 ?_
 repeat' ((conv=>whnf);first|exact zf|refine zm ?_|refine zB ?_ ?_|intro _)
 conv=>whnf
 refine bA [(1,.fc 60 [.p 1 0]),(6,.os 0),(7,.d (.int .i64 (cM (k.ord.map b8)).length))] (λx:Nat×Kn=>x.1<=k.ord.length/\I x.1 x.2) (λx=>[(8,.d (.int .i64 x.1))]) (λx=>XP x.2) (λx=>k.ord.length-x.1) (0,k) ⟨aY _,h0⟩ ?_ ?_ ?_ (λ⟨j,k'⟩ hi=>?_)
 .exact zzz
 .exact zzz
 .exact rfl
 repeat' ((conv=>whnf);first|exact zf|refine zm ?_|refine zB ?_ ?_|intro _)
 refine aU (λhlt=>?_) (λhge=>?_)
 .have hlt:j<k.ord.length:=by rw[<-e1];simpa using hlt
  obtain⟨x,hx⟩:∃x,k.ord[j]?=some x:=⟨_,aA hlt⟩
  have e2:=ho j k' hi.2;have e3:(cM (k'.ord.map b8)).length=k.ord.length:=by rw[ff,aI,e2]
  have hrow:(cM (k'.ord.map b8))[j]?=some [D.str (b8 x)]:=by rw[e2];simp[cM,hx]
  obtain⟨⟨i,t,hat⟩,hnx⟩:=hI j k' x hx hi.2;have h2:=λ{K:KT}=>CP (K:=K) k' (b8 x) i t hat
  repeat' ((conv=>whnf);first|exact zf|refine zm ?_|refine⟨[.str (b8 x)],hrow,?_⟩|refine zr0 ?_|refine(h2 (λb=>?_))|refine zB ?_ ?_|intro _)
  refine⟨(j+1,_),⟨hlt,hnx b⟩,aN hlt (aQ j),zzz,zzz,rfl⟩
 .have hge:j=k.ord.length:=by
   have h1:¬j<k.ord.length:=by rw[<-e1];simpa using hge
   have:=hi.1;omega
  subst hge
  repeat' ((conv=>whnf);first|exact zf|refine zm ?_|refine zB ?_ ?_|intro _)
  exact hk _ hi.2
def tN(k:Kn):Kn:={k with now:=k.now+1}
theorem S0{K:KT}(I:Nat->Kn->Prop)(k:Kn)(hn:0<=k.now/\k.now<1000000000)(h0:I 0 (tN k))(ho:∀j k',I j k'->k'.ord=k.ord)(hI:∀j k' x,k.ord[j]?=some x->I j k'->(∃i t,MX k' (b8 x) i t)/\∀b,I (j+1) (kN k' (b8 x) b))(hk:∀k',I k.ord.length k'->K (.ret (.tu [])) (fU false k')) :
  Z1 31 [.p 0 0] (fU false k) K:=by
 have h2:=λ{K:KT}=>VM (K:=K) I (tN k) h0 ho hI;refine sh0 Tryz.f31 ?_
 repeat' ((conv=>whnf);first|exact zf|refine zm ?_|refine(h2 (λk' h'=>?_))|refine zB ?_ ?_|intro _)
 exact hk _ h'
def gX(k:Kn)(id:List Nat)(t:Th):Kn:=xL {k with ord:=bif uv k.ord id then k.ord else mN k.ord id} t
def Yh(k:Kn):H:=[FE k 1 8 3 6 7,.dm (k_ k.th),.no,.cells [.mp 4,.mp 5],.dm (iW k.s.th),.ms 1 (ik k.s.nm) none none,.rows 9 (k.fa.map fm),.rows 8 (k.le.map jT),GB false k.ord]
theorem u0{K:KT}(k:Kn)(id:List Nat)(t:Th)(hid:t.id=b8 id)(hg:dr id)(ho:∀x∈k.ord,dr x)(hn:k.ord.length<100000000)(hk:K (.ret (.tu [])) (fU false (gX k id t))):Z1 26 [.p 0 0,eW t] (fU false k) K:=by
 have h1:=qj k.ord id ho hg (by omega);have hble:=tA k.ord id k.ord.length 0 k.ord.length (aY _) (aL _);have h2:=sk (k.ord.map b8) (b8 id) (mV k.ord id) (by rw[aI];exact hble) (by rw[aI];omega);rw[show(k.ord.map b8).take (mV k.ord id)++b8 id::(k.ord.map b8).drop (mV k.ord id)=(mN k.ord id).map b8 by simp[mN]]at h2;rw[<-hid]at h1 h2;unfold gX at hk;cases hb:uv k.ord id with
 |true=>
  rw[hb]at h1 hk;have h3:=λ{K:KT}=>zE (K:=K) false k t;refine sh0 Tryz.f26 ?_
  repeat' ((conv=>whnf);first|exact zf|refine(a8 (a8 ?_))|refine zm ?_|refine(.inl ⟨_,h1,rfl,?_⟩)|refine zr0 ?_|refine(h3 ?_)|refine zB ?_ ?_|intro _)
  all_goals exact hk
 |false=>
  rw[hb]at h1 hk;have h3:=λ{K:KT}=>zE (K:=K) false {k with ord:=mN k.ord id} t;refine Sat.tell (by decide) [0,1,8,3,4,5,6,7] (o:=.ret (.tu [])) (x:=Yh (xL {k with ord:=mN k.ord id} t)) ?_ rfl hk;refine sh0 Tryz.f26 ?_
  repeat' ((conv=>whnf);first|exact zf|refine(a8 (a8 ?_))|refine(qi ?_)|refine da _ _ [52,10000000] ?_ rfl|refine a8 (a8 ?_)|refine zm ?_|refine(.inl ⟨_,h1,rfl,?_⟩)|refine Sat.eqs (h2) ?_|refine zr0 ?_|refine(h3 ?_)|refine zB ?_ ?_|intro _)
def rH(k:Kn)(id:List UInt8)(e:Ev):Kn:={k with fa:=k.fa++[⟨k.now,id,e.l,e.v⟩]}
def x7(k:Kn)(id:List UInt8)(e:En):Kn:={k with le:=k.le++[⟨k.now,id,e⟩]}
def tI(k:Kn)(w:Wo):Kn:=match dy w.id k.th with
 |some (_,t)=>xL k (ic t w.l)
 |none=>k
theorem Wa{K:KT}(k:Kn)(id:List UInt8)(e:Ev)(hn:k.fa.length<100000000)(hk:K (.ret (.tu [])) (fU false (rH k id e))):Z1 66 [.ag [.p 0 0,.d (.str id)],.ag ((oO e).map .d)] (fU false k) K:=by
 unfold rH fU at hk;simp only[bt,dI,gO]at hk;refine sh0 Tryz.f66 ?_
 repeat' ((conv=>whnf);first|exact zf|refine(tD ?_)|refine zm ?_|refine zB ?_ ?_|intro _)
 all_goals exact hk
theorem XE{K:KT}(k:Kn)(id:List UInt8)(e:En)(hn:k.le.length<100000000)(hk:K (.ret (.tu [])) (fU false (x7 k id e))):Z1 68 [.ag [.p 0 0,.d (.str id)],.ag ((lh e).map .d)] (fU false k) K:=by
 unfold x7 fU at hk;simp only[bt,dI,gO]at hk;refine sh0 Tryz.f68 ?_
 repeat' ((conv=>whnf);first|exact zf|refine(tD ?_)|refine zm ?_|refine zB ?_ ?_|intro _)
 all_goals exact hk
theorem oh{key:List UInt8}:∀{l:List (List UInt8×Th)}{x:Nat×Th},dy key l=some x->∃p∈l,p.2=x.2
 |p::r,x,h=>by
  rw[dy]at h;split at h
  .cases h;exact⟨p,.head _,rfl⟩
  .rw[aJ]at h;obtain⟨y,hy,rfl⟩:=h;obtain⟨q,hq,e⟩:=oh hy;exact⟨q,.tail _ hq,e⟩
theorem JG{key:List UInt8}{l:List (List UInt8×Th)}{i:Nat}{t:Th}(h:dy key l=some (i,t))(hst:∀p∈l,p.2.c.st.length<1000000000):t.c.st.length<1000000000:=by
 obtain⟨p,hp,e⟩:=oh h;rw[<-show p.2=t from e];exact hst p hp
theorem TE{K:KT}(k:Kn)(w:Wo)(hl:w.l.length<1000000000)(hst:∀p∈k.th,p.2.c.st.length<1000000000)(hk:K (.ret (.tu [])) (fU false (tI k w))):Z1 70 [.p 0 0,.ag ((oN w).map .d)] (fU false k) K:=by
 have hm:=pg w.id k.th 0;unfold tI at hk;cases h:dy w.id k.th with
 |none=>
  rw[h]at hm hk;refine sh0 Tryz.f70 ?_
  repeat' ((conv=>whnf);first|exact zf|refine zm ?_|refine zB ?_ ?_|intro _)
  all_goals
   refine⟨_,hm,?_⟩
   repeat' ((conv=>whnf);first|exact zf|refine zm ?_|refine zB ?_ ?_|intro _)
   exact hk
 |some p=>
  obtain⟨i,t⟩:=p;rw[h]at hm hk;have h1:=Ah t w.l hl (JG h hst);have h2:=λ{K:KT}=>zE (K:=K) false k (ic t w.l);refine sh0 Tryz.f70 ?_
  repeat' ((conv=>whnf);first|exact zf|refine zm ?_|refine zB ?_ ?_|intro _)
  all_goals
   refine⟨_,hm,?_⟩
   repeat' ((conv=>whnf);first|exact zf|refine zm ?_|refine zc h1 ?_|refine zr0 ?_|refine(h2 ?_)|refine zB ?_ ?_|intro _)
   exact hk
theorem VK{K:KT}(f:Kn->Th->Kn)(l:List Th)(k:Kn)(hc:∀j x,l[j]?=some x->∀K:Out->H->Prop,K (.ret (.tu [])) (fU false (f ((l.take j).foldl f k) x))->Z1 26 [.p 0 0,eW x] (fU false ((l.take j).foldl f k)) K)(hk:K (.ret (.tu [])) (fU false (l.foldl f k))) :
  Z1 64 [.d (.sl 20 (l.map eF)),.fc (1000000+26) [.p 0 0]] (fU false k) K:=by
 have e1:(l.map eF).length=l.length:=aI _;refine sh0 Tryz.f64 ?_
 repeat' ((conv=>whnf);first|exact zf|refine zm ?_|refine zB ?_ ?_|intro _)
 conv=>whnf
 refine bA [(1,.fc (1000000+26) [.p 0 0]),(6,.d (.sl 20 (l.map eF))),(7,.d (.int .i64 (l.map eF).length))] (λj:Nat=>j<=l.length) (λj=>[(8,.d (.int .i64 j))]) (λj=>fU false ((l.take j).foldl f k)) (λj=>l.length-j) 0 (aY _) ?_ ?_ ?_ (λj hi=>?_)
 .exact zzz
 .exact zzz
 .exact rfl
 repeat' ((conv=>whnf);first|exact zf|refine zm ?_|refine zB ?_ ?_|intro _)
 refine aU (λhlt=>?_) (λhge=>?_)
 .have hlt:j<l.length:=by rw[<-e1];simpa using hlt
  obtain⟨x,hx⟩:∃x,l[j]?=some x:=⟨_,aA hlt⟩
  have hrow:(l.map eF)[j]?=some (eF x):=by rw[aB,hx];rfl
  have h2:=λ{K:KT}=>hc j x hx K;have e2:f ((l.take j).foldl f k) x=(l.take (j+1)).foldl f k:=by rw[bV,hx];simp
  rw[e2]at h2;generalize(l.take j).foldl f k=k1 at h2⊢
  repeat' ((conv=>whnf);first|exact zf|refine zm ?_|refine⟨eF x,⟨by omega,hrow,rfl⟩,?_⟩|refine zr0 ?_|refine(h2 ?_)|refine zB ?_ ?_|intro _)
  refine⟨j+1,hlt,aN hlt (aQ j),zzz,zzz,rfl⟩
 .have hge:j=l.length:=by
   have h1:¬j<l.length:=by rw[<-e1];simpa using hge
   omega
  subst hge;rw[cG]
  repeat' ((conv=>whnf);first|exact zf|refine zm ?_|refine zB ?_ ?_|intro _)
  exact hk
theorem VI{K:KT}(id:List UInt8)(f:Kn->Ev->Kn)(l:List Ev)(k:Kn)(hc:∀j x,l[j]?=some x->∀K:Out->H->Prop,K (.ret (.tu [])) (fU false (f ((l.take j).foldl f k) x))->Z1 66 [.ag [.p 0 0,.d (.str id)],.ag ((oO x).map .d)] (fU false ((l.take j).foldl f k)) K)(hk:K (.ret (.tu [])) (fU false (l.foldl f k))) :
  Z1 65 [.d (.sl 7 (l.map oO)),.fc (1500000+66) [.p 0 0,.d (.str id)]] (fU false k) K:=by
 have e1:(l.map oO).length=l.length:=aI _;refine sh0 Tryz.f65 ?_
 repeat' ((conv=>whnf);first|exact zf|refine zm ?_|refine zB ?_ ?_|intro _)
 conv=>whnf
 refine bA [(1,.fc (1500000+66) [.p 0 0,.d (.str id)]),(6,.d (.sl 7 (l.map oO))),(7,.d (.int .i64 (l.map oO).length))] (λj:Nat=>j<=l.length) (λj=>[(8,.d (.int .i64 j))]) (λj=>fU false ((l.take j).foldl f k)) (λj=>l.length-j) 0 (aY _) ?_ ?_ ?_ (λj hi=>?_)
 .exact zzz
 .exact zzz
 .exact rfl
 repeat' ((conv=>whnf);first|exact zf|refine zm ?_|refine zB ?_ ?_|intro _)
 refine aU (λhlt=>?_) (λhge=>?_)
 .have hlt:j<l.length:=by rw[<-e1];simpa using hlt
  obtain⟨x,hx⟩:∃x,l[j]?=some x:=⟨_,aA hlt⟩
  have hrow:(l.map oO)[j]?=some (oO x):=by rw[aB,hx];rfl
  have h2:=λ{K:KT}=>hc j x hx K;have e2:f ((l.take j).foldl f k) x=(l.take (j+1)).foldl f k:=by rw[bV,hx];simp
  rw[e2]at h2;generalize(l.take j).foldl f k=k1 at h2⊢
  repeat' ((conv=>whnf);first|exact zf|refine zm ?_|refine⟨oO x,⟨by omega,hrow,rfl⟩,?_⟩|refine zr0 ?_|refine(h2 ?_)|refine zB ?_ ?_|intro _)
  refine⟨j+1,hlt,aN hlt (aQ j),zzz,zzz,rfl⟩
 .have hge:j=l.length:=by
   have h1:¬j<l.length:=by rw[<-e1];simpa using hge
   omega
  subst hge;rw[cG]
  repeat' ((conv=>whnf);first|exact zf|refine zm ?_|refine zB ?_ ?_|intro _)
  exact hk
theorem VJ{K:KT}(id:List UInt8)(f:Kn->En->Kn)(l:List En)(k:Kn)(hc:∀j x,l[j]?=some x->∀K:Out->H->Prop,K (.ret (.tu [])) (fU false (f ((l.take j).foldl f k) x))->Z1 68 [.ag [.p 0 0,.d (.str id)],.ag ((lh x).map .d)] (fU false ((l.take j).foldl f k)) K)(hk:K (.ret (.tu [])) (fU false (l.foldl f k))) :
  Z1 67 [.d (.sl 6 (l.map lh)),.fc (1500000+68) [.p 0 0,.d (.str id)]] (fU false k) K:=by
 have e1:(l.map lh).length=l.length:=aI _;refine sh0 Tryz.f67 ?_
 repeat' ((conv=>whnf);first|exact zf|refine zm ?_|refine zB ?_ ?_|intro _)
 conv=>whnf
 refine bA [(1,.fc (1500000+68) [.p 0 0,.d (.str id)]),(6,.d (.sl 6 (l.map lh))),(7,.d (.int .i64 (l.map lh).length))] (λj:Nat=>j<=l.length) (λj=>[(8,.d (.int .i64 j))]) (λj=>fU false ((l.take j).foldl f k)) (λj=>l.length-j) 0 (aY _) ?_ ?_ ?_ (λj hi=>?_)
 .exact zzz
 .exact zzz
 .exact rfl
 repeat' ((conv=>whnf);first|exact zf|refine zm ?_|refine zB ?_ ?_|intro _)
 refine aU (λhlt=>?_) (λhge=>?_)
 .have hlt:j<l.length:=by rw[<-e1];simpa using hlt
  obtain⟨x,hx⟩:∃x,l[j]?=some x:=⟨_,aA hlt⟩
  have hrow:(l.map lh)[j]?=some (lh x):=by rw[aB,hx];rfl
  have h2:=λ{K:KT}=>hc j x hx K;have e2:f ((l.take j).foldl f k) x=(l.take (j+1)).foldl f k:=by rw[bV,hx];simp
  rw[e2]at h2;generalize(l.take j).foldl f k=k1 at h2⊢
  repeat' ((conv=>whnf);first|exact zf|refine zm ?_|refine⟨lh x,⟨by omega,hrow,rfl⟩,?_⟩|refine zr0 ?_|refine(h2 ?_)|refine zB ?_ ?_|intro _)
  refine⟨j+1,hlt,aN hlt (aQ j),zzz,zzz,rfl⟩
 .have hge:j=l.length:=by
   have h1:¬j<l.length:=by rw[<-e1];simpa using hge
   omega
  subst hge;rw[cG]
  repeat' ((conv=>whnf);first|exact zf|refine zm ?_|refine zB ?_ ?_|intro _)
  exact hk
theorem VH{K:KT}(f:Kn->Wo->Kn)(l:List Wo)(k:Kn)(hc:∀j x,l[j]?=some x->∀K:Out->H->Prop,K (.ret (.tu [])) (fU false (f ((l.take j).foldl f k) x))->Z1 70 [.p 0 0,.ag ((oN x).map .d)] (fU false ((l.take j).foldl f k)) K)(hk:K (.ret (.tu [])) (fU false (l.foldl f k))) :
  Z1 69 [.d (.sl 2 (l.map oN)),.fc (1000000+70) [.p 0 0]] (fU false k) K:=by
 have e1:(l.map oN).length=l.length:=aI _;refine sh0 Tryz.f69 ?_
 repeat' ((conv=>whnf);first|exact zf|refine zm ?_|refine zB ?_ ?_|intro _)
 conv=>whnf
 refine bA [(1,.fc (1000000+70) [.p 0 0]),(6,.d (.sl 2 (l.map oN))),(7,.d (.int .i64 (l.map oN).length))] (λj:Nat=>j<=l.length) (λj=>[(8,.d (.int .i64 j))]) (λj=>fU false ((l.take j).foldl f k)) (λj=>l.length-j) 0 (aY _) ?_ ?_ ?_ (λj hi=>?_)
 .exact zzz
 .exact zzz
 .exact rfl
 repeat' ((conv=>whnf);first|exact zf|refine zm ?_|refine zB ?_ ?_|intro _)
 refine aU (λhlt=>?_) (λhge=>?_)
 .have hlt:j<l.length:=by rw[<-e1];simpa using hlt
  obtain⟨x,hx⟩:∃x,l[j]?=some x:=⟨_,aA hlt⟩
  have hrow:(l.map oN)[j]?=some (oN x):=by rw[aB,hx];rfl
  have h2:=λ{K:KT}=>hc j x hx K;have e2:f ((l.take j).foldl f k) x=(l.take (j+1)).foldl f k:=by rw[bV,hx];simp
  rw[e2]at h2;generalize(l.take j).foldl f k=k1 at h2⊢
  repeat' ((conv=>whnf);first|exact zf|refine zm ?_|refine⟨oN x,⟨by omega,hrow,rfl⟩,?_⟩|refine zr0 ?_|refine(h2 ?_)|refine zB ?_ ?_|intro _)
  refine⟨j+1,hlt,aN hlt (aQ j),zzz,zzz,rfl⟩
 .have hge:j=l.length:=by
   have h1:¬j<l.length:=by rw[<-e1];simpa using hge
   omega
  subst hge;rw[cG]
  repeat' ((conv=>whnf);first|exact zf|refine zm ?_|refine zB ?_ ?_|intro _)
  exact hk
theorem MC{K:H->Prop}(a b:D)(hk:K [.cells [.d a],.cells [.d b]]):vF Tryz.prog 197 [.p 0 0,.p 1 0] [.cells [.d a],.cells [.d b]] none K:=by
 refine s197 rfl ?_
 repeat' ((conv=>whnf);first|exact zf|refine zm ?_|refine zB ?_ ?_|intro _)
 exact hk
theorem MB{K:H->Prop}(a b:D)(n:Int)(hk:K [.cells [.d (.int .i64 n)],.cells [.d (.bool true)]]):vF Tryz.prog 197 [.p 0 0,.p 1 0] [.cells [.d a],.cells [.d b]] (some (pj n)) K:=by
 refine s197 rfl ?_
 repeat' ((conv=>whnf);first|exact zf|refine zm ?_|refine zB ?_ ?_|intro _)
 exact hk
def OR.L(r:OR)(K:Out->H->Prop):Prop:=match r with
 |.ok e f=>∀b,K (.ret (.tu [.ag [.d (.int .i64 0)],.d (.bool false)])) (Nc (f b).1 e false (f b).2)
 |.ex n c s=>K (.ret (.tu [.ag [.d (.int .i64 n)],.d (.bool true)])) (fE c s)
theorem Mj{K:KT}(F:Nat)(hlt:Nat.blt F 5000000=true)(R:OR)(c:Ca)(s:br)(hF:∀{K:KT},R.K K->Z1 F [.p 0 0] (fE c s) K)(hk:R.L K):Z1 148 [.p 0 0,.d (.fn F)] (fE c s) K:=by
 cases R with
 |ok e f=>
  cases e
  all_goals
   refine s148 (keep:=false) rfl ?_;unfold R_
   repeat' ((conv=>whnf);first|exact zf|refine zm ?_|refine zB ?_ ?_|intro _)
   conv=>whnf
   rw[hlt]
   repeat' ((conv=>whnf);first|exact zf|refine zm ?_|refine zr0 ?_|refine(hF (λb=>?_))|refine(MC _ _ ?_)|refine zB ?_ ?_|intro _)
   exact hk _
 |ex n c' s'=>
  have hF':=λ{K:KT}(h:K (.eU (pj n)) (fE c' s'))=>hF (K:=K) h;refine s148 (keep:=false) rfl ?_;unfold R_
  repeat' ((conv=>whnf);first|exact zf|refine zm ?_|refine zB ?_ ?_|intro _)
  conv=>whnf
  rw[hlt]
  repeat' ((conv=>whnf);first|exact zf|refine zm ?_|refine zr0 ?_|refine(hF' ?_)|refine(MB _ _ _ ?_)|refine zB ?_ ?_|intro _)
  exact hk
def Xn:List (Int×Nat):=[(25,198),(26,199),(27,200),(28,201),(29,202),(30,203),(32,204),(33,205),(34,206),(35,207),(36,208),(37,209),(38,210),(39,211),(40,212),(41,213),(42,214),(43,215),(45,216),(46,217)]
def V2:List (V×V):=Xn.map λp=>(.d (.int .i64 p.1),.d (.fn p.2))
def Pp(c:Int)(F:Nat):Prop:=∃j,nI [0,3] [.d (.int .i64 c)] V2 0=some (some (j,.d (.fn F)))
theorem Kf{K:KT}(hk:K (.ret (.mp 0)) [.mp V2]):Z1 149 [] [] K:=by
 refine si0 Tryz.f149 ?_
 repeat' ((conv=>whnf);first|exact zf|refine zm ?_|refine⟨_,rfl,?_⟩|refine zB ?_ ?_|intro _)
 exact hk
def sQ(im:Im)(t:Th)(now:Int):Ca:=⟨im,now,t,(cZ t).tr,o0,[],0⟩
def C3(c:Ca)(k:Co):Ca:={c with t:={c.t with c:=k}}
def py(c:Ca)(o:Op)(f:Fr)(po:Int):Ca:={c with o:=o,ma:=f.ma,ar:=lF c.t.c po,t:={c.t with c:={sM c.t.c po with fr:=bS c.t.c.fr f}}}
structure Rs where
  t:Th
  e:Fx
  d:Bool
  s:br
def EZ(p:Ca×Bool×br):Rs:=⟨p.1.t,.no,p.2.1,p.2.2⟩
def OR.A(r:OR)(gC:Co)(K:Out->H->Prop):Prop:=match r with
 |.ok e f=>∀b,K (.ret (.tu [])) (Nc (f b).1 e false (f b).2)
 |.ex n c s=>K (.ret (.tu [])) (WH (lE c s gC n))
def OR.fin(r:OR)(gC:Co)(b:Option Nat):Rs:=match r with
 |.ok e f=>⟨(f b).1.t,e,false,(f b).2⟩
 |.ex n c s=>EZ (lE c s gC n)
theorem V3{K:KT}(c:Ca)(s:br)(o:Op)(f:Fr)(i:Info)(F:Nat)(R:OR)(hi:inf o.c=some i)(hf:c.t.c.fr.getLast?=some f)(hlf:c.t.c.fr.length<900000000)(hls:c.t.c.st.length<800000000)(hp:fQ c.t.c i.po=true)(hpc:0<=f.pc/\f.pc<1000000000)(hF:Pp o.c F)(hlt:Nat.blt F 5000000=true)
  (hR:∀{K:KT},R.K K->Z1 F [.p 0 0] (fE (py c o f i.po) s) K) (hx:∀n c' s',R=.ex n c' s'->yt s' c'.t.id)
  (hk:R.A c.t.c K):Z1 108 [.p 0 0,CT o] (YO c s) K:=by
 have h1:=e6 hi;have h2:=zF c.t.c i.po (by omega);rw[lT hp]at h2;have hpos:0<c.t.c.fr.length:=by
  cases h:c.t.c.fr with
  |nil=>rw[h]at hf;cases hf
  |cons=>simp
 have hfl:c.t.c.fr[c.t.c.fr.length-1]?=some f:=by rw[<-dU];exact hf
 have hrow:=oB hpos hfl;have hml:(c.t.c.fr.map bP).length=c.t.c.fr.length:=aI _;obtain⟨ai,hA⟩:=hF;have er:(bS c.t.c.fr f).map bP=(c.t.c.fr.map bP).set (((c.t.c.fr.map bP).length:Int)-1).toNat [.int .i64 f.fu,.int .i64 (f.pc+1),.int .i64 f.ba,.int .u8 f.ma,.sl 5 (f.vars.map b9)]:=by
  unfold bS;rw[eR,aI];congr 1;omega
 have h4:=λ{K:KT}=>Mj (K:=K) F hlt R (py c o f i.po) s hR;dsimp only[fE,kr,eF,py]at h4;rw[er]at h4;refine sh0 Tryz.f108 ?_
 repeat' ((conv=>whnf);first|exact zf|refine(iP ?_)|refine zm ?_|refine zc h1 ?_|refine⟨bP f,⟨by omega,hrow,rfl⟩,?_⟩|refine zc h2 ?_|refine(qg (c.t.c.fr.map bP) (by omega) ?_)|refine zB ?_ ?_|intro _)
 conv=>whnf
 refine⟨bP f,hrow,?_⟩
 repeat' ((conv=>whnf);first|exact zf|refine(iP ?_)|refine zm ?_|refine zB ?_ ?_|intro _)
 conv=>whnf
 refine⟨bP f,hrow,⟨rfl,rfl,rfl⟩,?_⟩
 repeat' ((conv=>whnf);first|exact zf|refine(iP ?_)|refine(a8 (a8 (jM [7] ?_)))|refine zm ?_|refine zr0 ?_|refine(Kf ?_)|refine⟨_,hA,?_⟩|refine(h4 ?_)|refine zB ?_ ?_|refine And.intro ?_ ?_|intro _)
 all_goals
  clear h4 er h1 h2 hR;cases R with
  |ok e g=>
   cases e
   all_goals
    refine λb=>?_
    repeat' ((conv=>whnf);first|exact zf|refine(iP ?_)|refine zm ?_|refine(bB rfl ?_)|refine zB ?_ ?_|intro _)
    exact hk _
  |ex n c' s'=>
   have h5:=λ{K:KT}=>MG (K:=K) c' s' c.t.c n (by omega) (by omega) (hx n c' s' rfl)
   conv=>whnf
   repeat' ((conv=>whnf);first|exact zf|refine(iP ?_)|refine zm ?_|refine(bf rfl ?_)|refine zr0 ?_|refine(h5 ?_)|refine zB ?_ ?_|intro _)
   exact hk
def Dt(c:Ca)(e:List V)(a:V)(s:Nat):List V:=
 [.nl 5,.nl 3,.p s 0,.d (.int .i64 c.now)]++(eF c.t).map .d++[.d (.int .i64 c.tr)]++e++[.d (.int .i64 c.o.c),.d (.int .i64 c.o.a),a,.d (.int .u8 c.ma)]
def YN(c:Ca)(s:br):H:=.cells (Dt c [.nl 20,.nl 7,.nl 6,.nl 2,.d (.bool false)] (.nl 5) 1)::[.cells [.mp 2,.mp 3],.dm (iW s.th),.ms 1 (ik s.nm) none none]
def YM(p:Ca×Bool×br):H:=.cells (Dt p.1 [.nl 20,.nl 7,.nl 6,.nl 2,.d (.bool p.2.1)] (.nl 5) 1)::[.cells [.mp 2,.mp 3],.dm (iW p.2.2.th),.ms 1 (ik p.2.2.nm) none none]
theorem FW{K:KT}(c:Ca)(s:br)(v:Va)(ex:Bool)(hqa:∀i o,bw c.t.id s.th=some (i,o)->o.va.q.length<100000000)(hk:K (.ret (.tu [])) (YM (nB c s v ex))):Z1 107 [.p 0 0,jh v,.d (.bool ex)] (YN c s) K:=by
 have h1:=rT c.t v ex;have hid:(eV c.t v ex).id=c.t.id:=rfl;unfold nB at hk;generalize eV c.t v ex=t at h1 hid hk;rw[<-hid]at hqa;have hq:(fy s t.id).va.q.length<100000000:=by
  unfold fy;cases hlk:bw t.id s.th with
  |none=>simp[fo,BX]
  |some p=>exact hqa p.1 p.2 hlk
 by_cases h30:t.st=3
 .have hnot:¬(t.st≠3/\t.st≠4):=λh=>h.1 h30;simp only[hnot,ψ]at hk;have hg:=qb (K:=λout h=>out=.ret (.tu [jG (fy s t.id),.d (.bool (l9 s t.id))])/\h=mZ s) s t.id hq ⟨rfl,rfl⟩;unfold fy l9 at hg;cases hlk:bw t.id s.th with
  |none=>
   rw[hlk]at hg hk;refine sh0 Tryz.f107 ?_
   repeat' ((conv=>whnf);first|exact zf|refine da _ _ [111] ?_ rfl|refine a8 (a8 ?_)|refine zm ?_|refine zc h1 ?_|refine Sat.eqs (hg) ?_|refine zr0 ?_|refine zB ?_ ?_|refine zt ?_|refine zu ?_|intro _)
   all_goals exact hk
  |some p=>
   obtain⟨i,o⟩:=p;rw[hlk]at hg hk
   by_cases h6:o.k=6
   .have hset:=λ{K:KT}=>lC (K:=K) s t.id i {o with v:=v,ex:=ex,dn:=true} o hlk rfl rfl (hqa i o hlk);dsimp only at hk;rw[ζ h6]at hk;refine sh0 Tryz.f107 ?_
    repeat' ((conv=>whnf);first|exact zf|refine da _ _ [111] ?_ rfl|refine a8 (a8 ?_)|refine zm ?_|refine zc h1 ?_|refine Sat.eqs (hg) ?_|refine zr0 ?_|refine zr0 ?_|refine(hset ?_)|refine zB ?_ ?_|refine zt ?_|refine zu ?_|intro _)
    all_goals exact hk
   .simp only[h6,ψ]at hk;refine sh0 Tryz.f107 ?_
    repeat' ((conv=>whnf);first|exact zf|refine da _ _ [111] ?_ rfl|refine a8 (a8 ?_)|refine zm ?_|refine zc h1 ?_|refine Sat.eqs (hg) ?_|refine zr0 ?_|refine zB ?_ ?_|refine zt ?_|refine zu ?_|intro _)
    all_goals exact hk
 .by_cases h3:t.st=4
  .have hnot:¬(t.st≠3/\t.st≠4):=λh=>h.2 h3;simp only[hnot,ψ]at hk;have hg:=qb (K:=λout h=>out=.ret (.tu [jG (fy s t.id),.d (.bool (l9 s t.id))])/\h=mZ s) s t.id hq ⟨rfl,rfl⟩;unfold fy l9 at hg;cases hlk:bw t.id s.th with
   |none=>
    rw[hlk]at hg hk;refine sh0 Tryz.f107 ?_
    repeat' ((conv=>whnf);first|exact zf|refine da _ _ [111] ?_ rfl|refine a8 (a8 ?_)|refine zm ?_|refine zc h1 ?_|refine Sat.eqs (hg) ?_|refine zr0 ?_|refine zB ?_ ?_|refine zt ?_|refine zu ?_|intro _)
    all_goals exact hk
   |some p=>
    obtain⟨i,o⟩:=p;rw[hlk]at hg hk
    by_cases h6:o.k=6
    .have hset:=λ{K:KT}=>lC (K:=K) s t.id i {o with v:=v,ex:=ex,dn:=true} o hlk rfl rfl (hqa i o hlk);dsimp only at hk;rw[ζ h6]at hk;refine sh0 Tryz.f107 ?_
     repeat' ((conv=>whnf);first|exact zf|refine da _ _ [111] ?_ rfl|refine a8 (a8 ?_)|refine zm ?_|refine zc h1 ?_|refine Sat.eqs (hg) ?_|refine zr0 ?_|refine zr0 ?_|refine(hset ?_)|refine zB ?_ ?_|refine zt ?_|refine zu ?_|intro _)
     all_goals exact hk
    .simp only[h6,ψ]at hk;refine sh0 Tryz.f107 ?_
     repeat' ((conv=>whnf);first|exact zf|refine da _ _ [111] ?_ rfl|refine a8 (a8 ?_)|refine zm ?_|refine zc h1 ?_|refine Sat.eqs (hg) ?_|refine zr0 ?_|refine zB ?_ ?_|refine zt ?_|refine zu ?_|intro _)
     all_goals exact hk
  .have hyes:t.st≠3/\t.st≠4:=⟨h30,h3⟩
   rw[ζ hyes]at hk;refine sh0 Tryz.f107 ?_
   repeat' ((conv=>whnf);first|exact zf|refine zm ?_|refine zc h1 ?_|refine zB ?_ ?_|refine zt ?_|refine zu ?_|intro _)
   all_goals exact hk
theorem H0{K:KT}(c:Ca)(s:br)(k:Co)(code:Int)(hf:k.fr.length<1000000000)(hst:k.st.length<1000000000)(hqa:∀i o,bw c.t.id s.th=some (i,o)->o.va.q.length<100000000)(hk:K (.ret (.tu [])) (YM (lE c s k code))) :
  Z1 150 [.p 0 0,gp k,.d (.int .i64 code)] (YN c s) K:=by
 have h1:=sY k code c.tr hf hst;unfold lE at hk;generalize raise k code c.tr=r at h1 hk;have h2:=λ{K:KT}=>FW (K:=K) {c with t:={c.t with c:=r.1}} s r.2.v true hqa;cases hb:r.2.k==2 with
 |true=>
  simp only[hb,δ]at hk;refine sh0 Tryz.f150 ?_
  repeat' ((conv=>whnf);first|exact zf|refine zm ?_|refine zc h1 ?_|refine zr0 ?_|refine(h2 ?_)|refine zB ?_ ?_|refine zt ?_|refine zu ?_|intro _)
  all_goals exact hk
 |false=>
  simp only[hb,ε]at hk;refine sh0 Tryz.f150 ?_
  repeat' ((conv=>whnf);first|exact zf|refine zm ?_|refine zc h1 ?_|refine zB ?_ ?_|refine zt ?_|refine zu ?_|intro _)
  all_goals exact hk
def E5(t:Th)(s:br)(n:Int):Rs:=EZ (lE (sQ ⟨[],[]⟩ (ic t []) 0) s (ic t []).c n)
theorem HO{K:KT}(t:Th)(s:br)(v:Va)(hf:t.c.fr.length<1000000000)(hst:t.c.st.length<1000000000)(hq:yt s t.id)(hk:K (.ret (.tu [eW (E5 t s v.n).t,Km ((E5 t s v.n).e.ef (E5 t s v.n).d)])) (mZ (E5 t s v.n).s)) :
  Z1 112 [eW t,.p 0 0,jh v,.d (.bool true)] (mZ s) K:=by
 have h1:=D8 t;have h2:=Ah t [] (by decide) hst;have h3:=λ{K:KT}=>H0 (K:=K) (sQ ⟨[],[]⟩ (ic t []) 0) s (ic t []).c v.n hf (by show(t.c.st++[]).length<_;rw[eI];exact hst) hq;refine sh0 Tryz.f112 ?_
 repeat' ((conv=>whnf);first|exact zf|refine(a8 (a8 ?_))|refine zm ?_|refine zc h1 ?_|refine zc h2 ?_|refine zr0 ?_|refine(h3 ?_)|refine zB ?_ ?_|refine zt ?_|refine zu ?_|refine And.intro ?_ ?_|intro _)
 all_goals exact hk
def mz(t:Th)(s:br)(v:Va)(ex:Bool):Rs:=bif ex then E5 t s v.n else⟨ic t [v],.no,false,s⟩
theorem MA{K:KT}(t:Th)(s:br)(v:Va)(ex:Bool)(hf:t.c.fr.length<1000000000)(hst:t.c.st.length<1000000000)(hq:yt s t.id)(hk:K (.ret (.tu [eW (mz t s v ex).t,Km (Fx.ef .no (mz t s v ex).d)])) (mZ (mz t s v ex).s)) :
  Z1 112 [eW t,.p 0 0,jh v,.d (.bool ex)] (mZ s) K:=by
 cases ex with
 |true=>exact HO t s v hf hst hq hk
 |false=>
  have h2:=Ah t [v] (by simp) hst;refine sh0 Tryz.f112 ?_
  repeat' ((conv=>whnf);first|exact zf|refine zm ?_|refine zc h2 ?_|refine zB ?_ ?_|refine zt ?_|refine zu ?_|refine And.intro ?_ ?_|intro _)
  all_goals exact hk
end Go.Proofs.YtmigecldjbgneaaGreatDoor