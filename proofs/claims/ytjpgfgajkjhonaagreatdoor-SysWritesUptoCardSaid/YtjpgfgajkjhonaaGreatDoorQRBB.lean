/- Lemmas. Conditions: none. -/
import Derived.Test.YtjpgfgajkjhonaaGreatDoorQRBA
set_option maxHeartbeats 4000000
namespace Go.Proofs.YtjpgfgajkjhonaaGreatDoor
open Go.Vx
set_option maxRecDepth 100000
inductive OR where
  |ok (e:Fx) (f:Option Nat->Ca×b7)
  |ex (n:Int) (c:Ca) (s:b7)
def OR.K(r:OR)(K:Out->H->Prop):Prop:=match r with
 |.ok e f=>∀b,K (.ret (.tu [])) (Mq (f b).1 e false (f b).2)
 |.ex n c s=>K (.fg (n_ n)) (eP c s)
def kK:List UInt8->Nat->List Nat
 |[],a=>[a]
 |c::r,a=>bif c==46 then a::kK r 0 else kK r (10*a+(c.toNat-48))
def kz(t:Th):List Nat:=kK t.pa 0++[t.ma.toNat]
structure Nc(t:Th):Prop where
  pa:t.pa=bm (kK t.pa 0)
  ne:kK t.pa 0≠[]
  le:(kK t.pa 0).length<24
  sm:∀n∈kK t.pa 0,n<100
  m0:0<=t.ma
  m1:t.ma<100
  r2:t.ro<1000000000
structure QS(c:Ca)(s:b7)(o:Ob):Prop where
  n:Nc c.t
  g:jL c.t.g
  l:cL o.l
  gs:lQ s
  k3:3<=o.k
  k7:o.k<=7
  Xb:ky o.l=true
  q:o.va.q.length<100000000
  new:bW (bm (kz c.t)) s.th=none
  st:c.t.c.st.length<1000000000
theorem Nc.nF{t:Th}(h:Nc t):ee (kz t):=by
 refine⟨by simp[kz],?_,λn hn=>?_⟩
 .have:=h.le;simp[kz];omega
 .rcases aR.1 hn with g|g
  .exact h.sm n g
  .rw[aL.1 g];have:=h.m1;have:=h.m0;omega
def rD(c:Ca)(s:b7)(o:Ob):OR:=
 bif bT c.t.g o.l==0 then(bif decide (c.t.ro<1)then .ex (-5) c s else .ok .no λb=>(uU {c with t:=jo c.t} (bm (kz c.t)) o,qi s (kz c.t) o b))else .ex (bT c.t.g o.l) c s
theorem Lm{K:KT}(c:Ca)(s:b7)(o:Ob)(h:QS c s o)(hk:(rD c s o).K K):Z1 237 [.p 0 0,gJ o] (eP c s) K:=by
 unfold rD at hk
 by_cases hw:bT c.t.g o.l=0
 .rw[hw]at hk
  by_cases hr:c.t.ro<1
  .rw[φ hr]at hk
   replace hk:K (.fg (n_ (-5))) (eP c s):=hk
   have h1:=fR c.t.g o.l h.g h.l;rw[hw]at h1;have h2:=λ{K:KT}=>CY (K:=K) c s hr;refine sh0 Tryz.f237 ?_
   repeat' ((conv=>whnf);first|exact zf|refine zm ?_|refine zc h1 ?_|intro _)
   conv=>whnf
   refine gg ?_
   repeat' ((conv=>whnf);first|exact zf|refine(dG (xM ?_))|refine zm ?_|refine zr0 ?_|refine(h2 ?_)|refine And.intro ?_ ?_|intro _)
   all_goals exact hk
  .rw[τ hr]at hk
   replace hk:∀b,K (.ret (.tu [])) (eP (uU {c with t:=jo c.t} (bm (kz c.t)) o) (qi s (kz c.t) o b)):=hk
   have hm:c.t.ma=(c.t.ma.toNat:Nat):=by have:=h.n.m0;omega
   exact Ll c s (kK c.t.pa 0) c.t.ma.toNat o h.g hw h.n.pa hm h.n.ne h.n.le h.n.sm (by have:=h.n.m1;omega) (by omega) h.n.r2 h.n.nF h.gs h.l h.k3 h.k7 h.Xb h.q h.new h.st hk
 .have hb:(bT c.t.g o.l==0)=false:=by simp[hw]
  rw[hb]at hk
  replace hk:K (.fg (n_ (bT c.t.g o.l))) (eP c s):=hk
  have h1:=fR c.t.g o.l h.g h.l;refine sh0 Tryz.f237 ?_
  repeat' ((conv=>whnf);first|exact zf|refine zm ?_|refine zc h1 ?_|refine(jr _ hw ?_)|intro _)
  exact hk
def me(c:Ca)(s:b7)(l:Lb):OR:=bif dN c.t.g l==0 then .ok .no λ_=>({c with t:={c.t with g:=cw c.t.g l}},s)else .ex (dN c.t.g l) c s
def bw(ks:List Int)(ar:List Va):Bool:=(ks.zip ar).all λp=>p.1==0||p.2.k==p.1
def qz(ks:List Int):List (List D):=ks.map λn=>[.int .i64 n]
def Qj(b:Bool)(c:Ca)(s:b7)(K:Out->H->Prop):Prop:=match b with
 |true=>K (.ret (.tu [])) (eP c s)
 |false=>K (.fg (n_ (-1))) (eP c s)
theorem yi{K:KT}(c:Ca)(s:b7)(ks:List Int)(B:Bool)(hl:ks.length<=c.ar.length)(hb:bw ks c.ar=B)(hk:Qj B c s K):Z1 233 [.p 0 0,.d (.sl 1 (qz ks))] (eP c s) K:=by
 have hl1:(qz ks).length=ks.length:=aH _;have hl2:(c.ar.map cE).length=c.ar.length:=aH _;refine sh0 Tryz.f233 ?_
 repeat' ((conv=>whnf);first|exact zf|refine zm ?_|intro _)
 conv=>whnf
 refine bM [(0,.p 0 0),(6,.d (.sl 1 (qz ks))),(7,.d (.int .i64 (qz ks).length))] (λi:Nat=>i<=ks.length/\bw (ks.drop i) (c.ar.drop i)=B) (λi=>[(8,.d (.int .i64 i))]) (λ_=>eP c s) (λi=>ks.length-i) 0 ⟨ae _,hb⟩ ?_ ?_ ?_ (λi hi=>?_)
 .exact zzz
 .exact zzz
 .exact rfl
 repeat' ((conv=>whnf);first|exact zf|refine zm ?_|intro _)
 refine aW (λhlt=>?_) (λhge=>?_)
 .have hlt:i<ks.length:=by rw[<-hl1];simpa using hlt
  obtain⟨k,hm⟩:∃k,ks[i]?=some k:=⟨_,aA hlt⟩
  obtain⟨v,hv⟩:∃v,c.ar[i]?=some v:=⟨_,aA (by omega)⟩
  have hdk:ks.drop i=k::ks.drop (i+1):=by
   rw[bO hlt];rw[aA hlt]at hm;rw[aq hm]
  have hdv:c.ar.drop i=v::c.ar.drop (i+1):=by
   have h2:i<c.ar.length:=by omega
   rw[bO h2];rw[aA h2]at hv;rw[aq hv]
  have hB:=hi.2;rw[hdk,hdv]at hB;simp only[bw,List.zip_cons_cons,lA]at hB;have hrow:(qz ks)[i]?=some [D.int .i64 k]:=by simp[qz,hm]
  have hrow2:(c.ar.map cE)[i]?=some (cE v):=by simp[hv]
  repeat' ((conv=>whnf);first|exact zf|refine zm ?_|intro _)
  refine⟨_,⟨by omega,hrow,rfl⟩,?_⟩
  by_cases hk0:k=0
  .subst hk0
   repeat' ((conv=>whnf);first|exact zf|refine zm ?_|refine zt ?_|refine zu ?_|intro _)
   refine⟨i+1,⟨hlt,by simpa[bw]using hB⟩,az hlt (bL i),zzz,zzz,rfl⟩
  .by_cases hkv:v.k=k
   .skip
    repeat' ((conv=>whnf);first|exact zf|refine zm ?_|refine⟨_,⟨by omega,hrow2,rfl⟩,?_⟩|refine zt ?_|refine zu ?_|intro _)
    refine⟨i+1,⟨hlt,by simpa[bw,hkv]using hB⟩,az hlt (bL i),zzz,zzz,rfl⟩
   .have hBf:B=false:=by rw[<-hB];simp[hk0,hkv]
    rw[hBf]at hk
    repeat' ((conv=>whnf);first|exact zf|refine zm ?_|refine⟨_,⟨by omega,hrow2,rfl⟩,?_⟩|refine(jd _ ?_)|refine zt ?_|refine zu ?_|intro _)
    exact hk
 .have hge:i=ks.length:=by
   have:¬i<ks.length:=by rw[<-hl1];simpa using hge
   omega
  have hBt:B=true:=by rw[<-hi.2,hge,kq];rfl
  rw[hBt]at hk
  exact zh0 hk
theorem dY{K:KT}(c:Ca)(s:b7)(ks:List Int)(hl:ks.length<=c.ar.length)(hb:bw ks c.ar=true)(hk:K (.ret (.tu [])) (eP c s)):Z1 233 [.p 0 0,.d (.sl 1 (qz ks))] (eP c s) K:=yi c s ks true hl hb hk
theorem dZ{K:KT}(c:Ca)(s:b7)(ks:List Int)(hl:ks.length<=c.ar.length)(hb:bw ks c.ar=false)(hk:K (.fg (n_ (-1))) (eP c s)):Z1 233 [.p 0 0,.d (.sl 1 (qz ks))] (eP c s) K:=yi c s ks false hl hb hk
theorem Fe{K:KT}(c:Ca)(s:b7)(l:Lb)(hs:jL c.t.g)(hl:cL l)(hj:cL (da c.t.g.cur l))(hk:(me c s l).K K):Z1 234 [.p 0 0,je l] (eP c s) K:=by
 unfold me at hk
 by_cases he:dN c.t.g l=0
 .rw[he]at hk;exact mZ c s l hs hl hj he (hk none)
 .have hb:(dN c.t.g l==0)=false:=by simp[he]
  rw[hb]at hk;exact mc c s l hs hl hj he hk
def EG(k:Int)(c:Ca)(s:b7):OR:=bif bw [0,2] c.ar then rD c s {fK with k:=k,l:=a_ (c.ar[1]?.getD dT),v:=c.ar[0]?.getD dT}else .ex (-1) c s
theorem EH{K:KT}(c:Ca)(s:b7)(a m:Va)(har:c.ar=[a,m])(h:QS c s {fK with k:=3,l:=a_ m,v:=a})(hk:(EG 3 c s).K K):Z1 174 [.p 0 0] (eP c s) K:=by
 obtain⟨im,now,t,tr,o,ar,ma⟩:=c;subst har;have h2:=λ{K:KT}=>Lm (K:=K) ⟨im,now,t,tr,o,[a,m],ma⟩ s _ h;unfold EG at hk;cases hb:bw [0,2] [a,m] with
 |true=>
  have h1:=λ{K:KT}=>dY (K:=K) ⟨im,now,t,tr,o,[a,m],ma⟩ s [0,2] (aM _) hb;dsimp only at hk;rw[hb,δ]at hk
  replace hk:(rD ⟨im,now,t,tr,o,[a,m],ma⟩ s {fK with k:=3,l:=a_ m,v:=a}).K K:=hk
  generalize hR:rD ⟨im,now,t,tr,o,[a,m],ma⟩ s {fK with k:=3,l:=a_ m,v:=a}=R at h2 hk;cases R with
  |ok e f=>
   cases e
   all_goals
    refine sh0 Tryz.f174 ?_
    repeat' ((conv=>whnf);first|exact zf|refine zm ?_|refine zr0 ?_|refine(h1 ?_)|refine(h2 (λb=>?_))|refine⟨_,⟨by omega,rfl,rfl⟩,?_⟩|intro _)
    exact hk _
  |ex n c' s'=>
   have h3:=λ{K:KT}(g:K (.fg (n_ n)) (eP c' s'))=>h2 (K:=K) g;refine sh0 Tryz.f174 ?_
   repeat' ((conv=>whnf);first|exact zf|refine zm ?_|refine zr0 ?_|refine(h1 ?_)|refine(h3 ?_)|refine⟨_,⟨by omega,rfl,rfl⟩,?_⟩|intro _)
   exact hk
 |false=>
  have h1:=λ{K:KT}=>dZ (K:=K) ⟨im,now,t,tr,o,[a,m],ma⟩ s [0,2] (aM _) hb;dsimp only at hk;rw[hb,ε]at hk;refine sh0 Tryz.f174 ?_
  repeat' ((conv=>whnf);first|exact zf|refine zm ?_|refine zr0 ?_|refine(h1 ?_)|intro _)
  exact hk
def Gx(c:Ca)(s:b7):OR:=bif bw [2] c.ar then rD c s {fK with k:=5,l:=a_ (c.ar[0]?.getD dT)}else .ex (-1) c s
def oh(c:Ca)(s:b7):OR:=bif bw [2] c.ar then me c s (a_ (c.ar[0]?.getD dT))else .ex (-1) c s
theorem GX{K:KT}(c:Ca)(s:b7)(m:Va)(har:c.ar=[m])(hs:jL c.t.g)(hl:cL (a_ m))(hj:cL (da c.t.g.cur (a_ m)))(hk:(oh c s).K K):Z1 172 [.p 0 0] (eP c s) K:=by
 obtain⟨im,now,t,tr,o,ar,ma⟩:=c;subst har;have h2:=λ{K:KT}=>Fe (K:=K) ⟨im,now,t,tr,o,[m],ma⟩ s (a_ m) hs hl hj;unfold oh at hk;cases hb:bw [2] [m] with
 |true=>
  have h1:=λ{K:KT}=>dY (K:=K) ⟨im,now,t,tr,o,[m],ma⟩ s [2] (aM _) hb;dsimp only at hk;rw[hb,δ]at hk
  replace hk:(me ⟨im,now,t,tr,o,[m],ma⟩ s (a_ m)).K K:=hk
  generalize hR:me ⟨im,now,t,tr,o,[m],ma⟩ s (a_ m)=R at h2 hk;cases R with
  |ok e f=>
   cases e
   all_goals
    refine sh0 Tryz.f172 ?_
    repeat' ((conv=>whnf);first|exact zf|refine zm ?_|refine zr0 ?_|refine(h1 ?_)|refine(h2 (λb=>?_))|refine⟨_,⟨by omega,rfl,rfl⟩,?_⟩|intro _)
    exact hk _
  |ex n c' s'=>
   have h3:=λ{K:KT}(g:K (.fg (n_ n)) (eP c' s'))=>h2 (K:=K) g;refine sh0 Tryz.f172 ?_
   repeat' ((conv=>whnf);first|exact zf|refine zm ?_|refine zr0 ?_|refine(h1 ?_)|refine(h3 ?_)|refine⟨_,⟨by omega,rfl,rfl⟩,?_⟩|intro _)
   exact hk
 |false=>
  have h1:=λ{K:KT}=>dZ (K:=K) ⟨im,now,t,tr,o,[m],ma⟩ s [2] (aM _) hb;dsimp only at hk;rw[hb,ε]at hk;refine sh0 Tryz.f172 ?_
  repeat' ((conv=>whnf);first|exact zf|refine zm ?_|refine zr0 ?_|refine(h1 ?_)|intro _)
  exact hk
def A6(c:Ca)(s:b7):OR:=bif bw [0,2] c.ar then
 (bif bT c.t.g (a_ (c.ar[1]?.getD dT))==0 then .ok (.out ⟨a_ (c.ar[1]?.getD dT),c.ar[0]?.getD dT⟩) λ_=>(c,s)else .ex (bT c.t.g (a_ (c.ar[1]?.getD dT))) c s)else .ex (-1) c s
theorem Gb{K:KT}(c:Ca)(s:b7)(a m:Va)(har:c.ar=[a,m])(hs:jL c.t.g)(hl:cL (a_ m))(hk:(A6 c s).K K):Z1 185 [.p 0 0] (eP c s) K:=by
 obtain⟨im,now,t,tr,o,ar,ma⟩:=c;subst har;have h2:=fR t.g (a_ m) hs hl;unfold A6 at hk;cases hb:bw [0,2] [a,m] with
 |true=>
  have h1:=λ{K:KT}=>dY (K:=K) ⟨im,now,t,tr,o,[a,m],ma⟩ s [0,2] (aM _) hb;dsimp only at hk;rw[hb,δ]at hk
  by_cases hw:bT t.g (a_ m)=0
  .rw[hw]at h2;have hwb:(bT t.g (a_ m)==0)=true:=by simp[hw]
   replace hk:OR.K (bif bT t.g (a_ m)==0 then .ok (.out ⟨a_ m,a⟩) λ_=>(⟨im,now,t,tr,o,[a,m],ma⟩,s)else .ex (bT t.g (a_ m)) ⟨im,now,t,tr,o,[a,m],ma⟩ s) K:=hk
   rw[hwb,δ]at hk;refine sh0 Tryz.f185 ?_
   repeat' ((conv=>whnf);first|exact zf|refine zm ?_|refine zr0 ?_|refine(h1 ?_)|refine zc h2 ?_|refine(gg ?_)|refine⟨_,⟨by omega,rfl,rfl⟩,?_⟩|intro _)
   exact hk none
  .have hwb:(bT t.g (a_ m)==0)=false:=by simp[hw]
   replace hk:OR.K (bif bT t.g (a_ m)==0 then .ok (.out ⟨a_ m,a⟩) λ_=>(⟨im,now,t,tr,o,[a,m],ma⟩,s)else .ex (bT t.g (a_ m)) ⟨im,now,t,tr,o,[a,m],ma⟩ s) K:=hk
   rw[hwb,ε]at hk;refine sh0 Tryz.f185 ?_
   repeat' ((conv=>whnf);first|exact zf|refine zm ?_|refine zr0 ?_|refine(h1 ?_)|refine zc h2 ?_|refine(jr _ hw ?_)|refine⟨_,⟨by omega,rfl,rfl⟩,?_⟩|intro _)
   exact hk
 |false=>
  have h1:=λ{K:KT}=>dZ (K:=K) ⟨im,now,t,tr,o,[a,m],ma⟩ s [0,2] (aM _) hb;dsimp only at hk;rw[hb,ε]at hk;refine sh0 Tryz.f185 ?_
  repeat' ((conv=>whnf);first|exact zf|refine zm ?_|refine zr0 ?_|refine(h1 ?_)|intro _)
  exact hk
def dH(s:b7)(h:Va):Option (Nat×Ob):=match bW h.nm s.th with
 |some (i,o)=>bif (o.k==h.k)&&((o.l.s==h.ls)&&(o.l.i==h.li))then some (i,o)else none
 |none=>none
def l4(s:b7)(h:Va):Ob:=((dH s h).map (·.2)).getD fK
def wI(s:b7)(nm:List UInt8):Prop:=∀i o,bW nm s.th=some (i,o)->o.va.q.length<100000000
theorem ji{K:KT}(c:Ca)(s:b7)(h:Va)(hqa:wI s h.nm)(hk:K (.ret (.tu [gJ (l4 s h),.d (.bool (dH s h).isSome)])) (eP c s)):Z1 243 [.p 0 0,j7 h] (eP c s) K:=by
 have hq:(gk s h.nm).va.q.length<100000000:=by
  unfold gk;cases hlk:bW h.nm s.th with
  |none=>simp[fK,Ag]
  |some p=>exact hqa p.1 p.2 hlk
 have hg:=pj (K:=λout hh=>out=.ret (.tu [gJ (gk s h.nm),.d (.bool (gu s h.nm))])/\hh=jW s) s h.nm hq ⟨rfl,rfl⟩;unfold gk gu at hg;unfold l4 dH at hk;cases hlk:bW h.nm s.th with
 |none=>
  rw[hlk]at hg hk;refine s243.go (keep:=false) rfl ?_
  repeat' ((conv=>whnf);first|exact zf|refine(bh (bu ?_):eO _ (eO (kZ _ _ _ _ 16 _ _ _ _ _ _ _) _))|refine zm ?_|refine⟨_,_,hg,?_⟩|refine zt ?_|refine zu ?_|intro _)
  exact hk
 |some p=>
  obtain⟨i,o⟩:=p;rw[hlk]at hg hk;dsimp only[Option.map,Option.getD,Option.isSome]at hg;dsimp only at hk;cases hkk:o.k==h.k with
  |false=>
   rw[hkk]at hk;refine s243.go (keep:=false) rfl ?_
   repeat' ((conv=>whnf);first|exact zf|refine(bh (bu ?_):eO _ (eO (kZ _ _ _ _ 16 _ _ _ _ _ _ _) _))|refine zm ?_|refine⟨_,_,hg,?_⟩|refine zt ?_|refine zu ?_|intro _)
   exact hk
  |true=>
   cases hll:(o.l.s==h.ls)&&(o.l.i==h.li) with
   |false=>
    rw[hkk,hll]at hk;have e2:(!(o.l.s==h.ls&&(o.l.i==h.li&&true)))=true:=by rw[dz,hll];rfl
    refine s243.go (keep:=false) rfl ?_
    repeat' ((conv=>whnf);first|exact zf|refine(bh (bu ?_):eO _ (eO (kZ _ _ _ _ 16 _ _ _ _ _ _ _) _))|refine zm ?_|refine⟨_,_,hg,?_⟩|refine(gM e2 ?_)|refine zt ?_|refine zu ?_|intro _)
    exact hk
   |true=>
    rw[hkk,hll]at hk;have e2:(!(o.l.s==h.ls&&(o.l.i==h.li&&true)))=false:=by rw[dz,hll];rfl
    refine s243.go (keep:=false) rfl ?_
    repeat' ((conv=>whnf);first|exact zf|refine(bh (bu ?_):eO _ (eO (kZ _ _ _ _ 16 _ _ _ _ _ _ _) _))|refine zm ?_|refine⟨_,_,hg,?_⟩|refine(gG e2 ?_)|refine zt ?_|refine zu ?_|intro _)
    exact hk
def mJ(c:Ca)(s:b7)(o:Ob):OR:=bif o.ex then .ex o.v.n c s else .ok .no λ_=>({c with t:={c.t with c:=jX c.t.c o.v}},s)
theorem Bs{K:KT}(c:Ca)(s:b7)(o:Ob)(hl:c.t.c.st.length<1000000000)(hk:(mJ c s o).K K):Z1 239 [.p 0 0,gJ o] (eP c s) K:=by
 obtain⟨ok,ol,ov,oe,od,oq,of,om⟩:=o;unfold mJ at hk;cases oe with
 |true=>
  replace hk:K (.fg (n_ ov.n)) (eP c s):=hk
  refine sh0 Tryz.f239 ?_
  repeat' ((conv=>whnf);first|exact zf|refine zm ?_|refine(jd _ ?_)|intro _)
  exact hk
 |false=>
  replace hk:K (.ret (.tu [])) (eP {c with t:={c.t with c:=jX c.t.c ov}} s):=hk none
  have h1:=λ{K:KT}=>j2 (K:=K) c s ov hl;refine sh0 Tryz.f239 ?_
  repeat' ((conv=>whnf);first|exact zf|refine zm ?_|refine zr0 ?_|refine(h1 ?_)|intro _)
  exact hk
def pW(c:Ca)(s:b7)(h:Va)(go:Ca->b7->Ob->OR):OR:=
 bif dN c.t.g (a_ h)==0 then(match dH s h with
  |some (_,o)=>go {c with t:={c.t with g:=cw c.t.g (a_ h)}} s o
  |none=>.ok .no λ_=>({c with t:={c.t with g:=cw c.t.g (a_ h),c:=jX c.t.c (num 0)}},s))else .ex (dN c.t.g (a_ h)) c s
theorem GS{K:KT}(c:Ca)(s:b7)(h:Va)(hl:c.t.c.st.length<1000000000)(hs:jL c.t.g)(hlh:cL (a_ h))(hj:cL (da c.t.g.cur (a_ h)))(hqa:wI s h.nm)(hk:(pW c s h mJ).K K):Z1 238 [.p 0 0,j7 h,.fc 1000239 [.p 0 0]] (eP c s) K:=by
 unfold pW at hk
 by_cases he:dN c.t.g (a_ h)=0
 .have h1:=λ{K:KT}=>mZ (K:=K) c s (a_ h) hs hlh hj he;have h2:=λ{K:KT}=>ji (K:=K) {c with t:={c.t with g:=cw c.t.g (a_ h)}} s h hqa;rw[he]at hk;unfold l4 at h2;cases ht:dH s h with
  |none=>
   rw[ht]at h2 hk
   replace hk:K (.ret (.tu [])) (eP {c with t:={c.t with g:=cw c.t.g (a_ h),c:=jX c.t.c (num 0)}} s):=hk none
   have h3:=λ{K:KT}=>j2 (K:=K) {c with t:={c.t with g:=cw c.t.g (a_ h)}} s (num 0) hl;refine sh0 Tryz.f238 ?_
   repeat' ((conv=>whnf);first|exact zf|refine zm ?_|refine zr0 ?_|refine(h1 ?_)|refine(h2 ?_)|refine(h3 ?_)|intro _)
   exact hk
  |some p=>
   obtain⟨i,o⟩:=p;rw[ht]at h2 hk
   replace hk:(mJ {c with t:={c.t with g:=cw c.t.g (a_ h)}} s o).K K:=hk
   have h3:=λ{K:KT}=>Bs (K:=K) {c with t:={c.t with g:=cw c.t.g (a_ h)}} s o hl;generalize hR:mJ {c with t:={c.t with g:=cw c.t.g (a_ h)}} s o=R at h3 hk;cases R with
   |ok e f=>
    cases e
    all_goals
     refine sh0 Tryz.f238 ?_
     repeat' ((conv=>whnf);first|exact zf|refine zm ?_|refine zr0 ?_|refine(h1 ?_)|refine(h2 ?_)|refine(h3 (λb=>?_))|intro _)
     exact hk _
   |ex n c' s'=>
    have h4:=λ{K:KT}(g:K (.fg (n_ n)) (eP c' s'))=>h3 (K:=K) g;refine sh0 Tryz.f238 ?_
    repeat' ((conv=>whnf);first|exact zf|refine zm ?_|refine zr0 ?_|refine(h1 ?_)|refine(h2 ?_)|refine(h4 ?_)|intro _)
    exact hk
 .have hb:(dN c.t.g (a_ h)==0)=false:=by simp[he]
  rw[hb]at hk;have h1:=λ{K:KT}=>mc (K:=K) c s (a_ h) hs hlh hj he;refine sh0 Tryz.f238 ?_
  repeat' ((conv=>whnf);first|exact zf|refine zm ?_|refine zr0 ?_|refine(h1 ?_)|intro _)
  exact hk
def tA(c:Ca)(s:b7):OR:=bif bw [3] c.ar then pW c s (c.ar[0]?.getD dT) mJ else .ex (-1) c s
theorem CN{K:KT}(c:Ca)(s:b7)(h:Va)(har:c.ar=[h])(hl:c.t.c.st.length<1000000000)(hs:jL c.t.g)(hlh:cL (a_ h))(hj:cL (da c.t.g.cur (a_ h)))(hqa:wI s h.nm)(hk:(tA c s).K K):Z1 175 [.p 0 0] (eP c s) K:=by
 obtain⟨im,now,t,tr,o,ar,ma⟩:=c;subst har;have h2:=λ{K:KT}=>GS (K:=K) ⟨im,now,t,tr,o,[h],ma⟩ s h hl hs hlh hj hqa;unfold tA at hk;cases hb:bw [3] [h] with
 |true=>
  have h1:=λ{K:KT}=>dY (K:=K) ⟨im,now,t,tr,o,[h],ma⟩ s [3] (aM _) hb;dsimp only at hk;rw[hb,δ]at hk
  replace hk:(pW ⟨im,now,t,tr,o,[h],ma⟩ s h mJ).K K:=hk
  generalize hR:pW ⟨im,now,t,tr,o,[h],ma⟩ s h mJ=R at h2 hk;cases R with
  |ok e f=>
   cases e
   all_goals
    refine sh0 Tryz.f175 ?_
    repeat' ((conv=>whnf);first|exact zf|refine zm ?_|refine zr0 ?_|refine(h1 ?_)|refine(h2 (λb=>?_))|refine⟨_,⟨by omega,rfl,rfl⟩,?_⟩|intro _)
    exact hk _
  |ex n c' s'=>
   have h3:=λ{K:KT}(g:K (.fg (n_ n)) (eP c' s'))=>h2 (K:=K) g;refine sh0 Tryz.f175 ?_
   repeat' ((conv=>whnf);first|exact zf|refine zm ?_|refine zr0 ?_|refine(h1 ?_)|refine(h3 ?_)|refine⟨_,⟨by omega,rfl,rfl⟩,?_⟩|intro _)
   exact hk
 |false=>
  have h1:=λ{K:KT}=>dZ (K:=K) ⟨im,now,t,tr,o,[h],ma⟩ s [3] (aM _) hb;dsimp only at hk;rw[hb,ε]at hk;refine sh0 Tryz.f175 ?_
  repeat' ((conv=>whnf);first|exact zf|refine zm ?_|refine zr0 ?_|refine(h1 ?_)|intro _)
  exact hk
def ll(c:Ca)(v:Va):Ca:={c with t:={c.t with c:=jX c.t.c v}}
def RH(c:Ca)(s:b7):OR:=.ok .no λ_=>(ll c ⟨2,0,[],c.t.g.cur.s,c.t.g.cur.i⟩,s)
def RP(c:Ca)(s:b7):OR:=.ok .no λ_=>(ll c ⟨2,0,[],c.t.g.fo.s,c.t.g.fo.i⟩,s)
theorem RJ{K:KT}(c:Ca)(s:b7)(hl:c.t.c.st.length<1000000000)(hk:(RH c s).K K):Z1 170 [.p 0 0] (eP c s) K:=by
 have h1:=λ{K:KT}=>C4 (K:=K) c s c.t.g.cur hl;refine sh0 Tryz.f170 ?_
 repeat' ((conv=>whnf);first|exact zf|refine zm ?_|refine zr0 ?_|refine(h1 ?_)|intro _)
 exact hk none
theorem RR{K:KT}(c:Ca)(s:b7)(hl:c.t.c.st.length<1000000000)(hk:(RP c s).K K):Z1 171 [.p 0 0] (eP c s) K:=by
 have h1:=λ{K:KT}=>C4 (K:=K) c s c.t.g.fo hl;refine sh0 Tryz.f171 ?_
 repeat' ((conv=>whnf);first|exact zf|refine zm ?_|refine zr0 ?_|refine(h1 ?_)|intro _)
 exact hk none
def wv(c:Ca)(s:b7):OR:=bif bw [2] c.ar then
 (bif jO c.t.g (a_ (c.ar[0]?.getD dT))==0 then .ok .no λ_=>({c with t:={c.t with g:=tJ c.t.g (a_ (c.ar[0]?.getD dT))}},s)else .ex (jO c.t.g (a_ (c.ar[0]?.getD dT))) c s)else .ex (-1) c s
theorem HF{K:KT}(c:Ca)(s:b7)(m:Va)(har:c.ar=[m])(hs:jL c.t.g)(hl:cL (a_ m))(hk:(wv c s).K K):Z1 173 [.p 0 0] (eP c s) K:=by
 obtain⟨im,now,t,tr,o,ar,ma⟩:=c;subst har;have h2:=HE t.g (a_ m) hs hl;unfold wv at hk;cases hb:bw [2] [m] with
 |true=>
  have h1:=λ{K:KT}=>dY (K:=K) ⟨im,now,t,tr,o,[m],ma⟩ s [2] (aM _) hb;dsimp only at hk;rw[hb,δ]at hk
  replace hk:OR.K (bif jO t.g (a_ m)==0 then .ok .no λ_=>(⟨im,now,{t with g:=tJ t.g (a_ m)},tr,o,[m],ma⟩,s)else .ex (jO t.g (a_ m)) ⟨im,now,t,tr,o,[m],ma⟩ s) K:=hk
  by_cases hw:jO t.g (a_ m)=0
  .rw[show(jO t.g (a_ m)==0)=true by simp[hw],δ]at hk;rw[hw]at h2;refine sh0 Tryz.f173 ?_
   repeat' ((conv=>whnf);first|exact zf|refine zm ?_|refine zr0 ?_|refine(h1 ?_)|refine zc h2 ?_|refine(gg ?_)|refine⟨_,⟨by omega,rfl,rfl⟩,?_⟩|intro _)
   exact hk none
  .rw[show(jO t.g (a_ m)==0)=false by simp[hw],ε]at hk;refine sh0 Tryz.f173 ?_
   repeat' ((conv=>whnf);first|exact zf|refine zm ?_|refine zr0 ?_|refine(h1 ?_)|refine zc h2 ?_|refine(jr _ hw ?_)|refine⟨_,⟨by omega,rfl,rfl⟩,?_⟩|intro _)
   exact hk
 |false=>
  have h1:=λ{K:KT}=>dZ (K:=K) ⟨im,now,t,tr,o,[m],ma⟩ s [2] (aM _) hb;dsimp only at hk;rw[hb,ε]at hk;refine sh0 Tryz.f173 ?_
  repeat' ((conv=>whnf);first|exact zf|refine zm ?_|refine zr0 ?_|refine(h1 ?_)|intro _)
  exact hk
def Ao(c:Ca)(f to:Lb)(b:Bool):Fx:=bif b then .log ⟨c.o.c,f,to,c.ma⟩else .no
theorem HM{K:KT}(c:Ca)(s:b7)(g:Gs)(f to:Lb)(b:Bool)(hk:K (.ret (.tu [])) (Mq {c with t:={c.t with g:=g}} (Ao c f to b) false s)):Z1 256 [.p 0 0,FR g,je f,je to,.d (.bool b)] (eP c s) K:=by
 cases b with
 |true=>
  refine sh0 Tryz.f256 ?_
  repeat' ((conv=>whnf);first|exact zf|refine zm ?_|refine zt ?_|refine zu ?_|intro _)
  exact hk
 |false=>
  refine sh0 Tryz.f256 ?_
  repeat' ((conv=>whnf);first|exact zf|refine zm ?_|refine zt ?_|refine zu ?_|intro _)
  exact hk
def Ct(c:Ca)(s:b7):OR:=bif bw [2] c.ar then
 (bif lT c.t.g (a_ (c.ar[0]?.getD dT)) c.ma==0 then .ok (Ao c c.t.g.cur (a_ (c.ar[0]?.getD dT)) (uE c.t.g (a_ (c.ar[0]?.getD dT)) c.ma)) λ_=>({c with t:={c.t with g:=vk c.t.g (a_ (c.ar[0]?.getD dT)) c.ma}},s)else .ex (lT c.t.g (a_ (c.ar[0]?.getD dT)) c.ma) c s)else .ex (-1) c s
theorem M0{K:KT}(c:Ca)(s:b7)(m:Va)(har:c.ar=[m])(hs:jL c.t.g)(hl:cL (a_ m))(hk:(Ct c s).K K):Z1 186 [.p 0 0] (eP c s) K:=by
 obtain⟨im,now,t,tr,o,ar,ma⟩:=c;subst har;have h2:=MZ t.g (a_ m) ma hs hl;unfold Ct at hk;cases hb:bw [2] [m] with
 |true=>
  have h1:=λ{K:KT}=>dY (K:=K) ⟨im,now,t,tr,o,[m],ma⟩ s [2] (aM _) hb;dsimp only at hk;rw[hb,δ]at hk
  replace hk:OR.K (bif lT t.g (a_ m) ma==0 then .ok (Ao ⟨im,now,t,tr,o,[m],ma⟩ t.g.cur (a_ m) (uE t.g (a_ m) ma)) λ_=>(⟨im,now,{t with g:=vk t.g (a_ m) ma},tr,o,[m],ma⟩,s)else .ex (lT t.g (a_ m) ma) ⟨im,now,t,tr,o,[m],ma⟩ s) K:=hk
  by_cases hw:lT t.g (a_ m) ma=0
  .rw[show(lT t.g (a_ m) ma==0)=true by simp[hw],δ]at hk;have h3:=λ{K:KT}=>HM (K:=K) ⟨im,now,t,tr,o,[m],ma⟩ s (vk t.g (a_ m) ma) t.g.cur (a_ m) (uE t.g (a_ m) ma);rw[hw]at h2
   replace hk:=hk none
   cases hL:uE t.g (a_ m) ma
   all_goals
    rw[hL]at h2 h3 hk;refine sh0 Tryz.f186 ?_
    repeat' ((conv=>whnf);first|exact zf|refine zm ?_|refine zr0 ?_|refine(h1 ?_)|refine zc h2 ?_|refine(gg ?_)|refine(h3 ?_)|refine⟨_,⟨by omega,rfl,rfl⟩,?_⟩|intro _)
    exact hk
  .rw[show(lT t.g (a_ m) ma==0)=false by simp[hw],ε]at hk;refine sh0 Tryz.f186 ?_
   repeat' ((conv=>whnf);first|exact zf|refine zm ?_|refine zr0 ?_|refine(h1 ?_)|refine zc h2 ?_|refine(jr _ hw ?_)|refine⟨_,⟨by omega,rfl,rfl⟩,?_⟩|intro _)
   exact hk
 |false=>
  have h1:=λ{K:KT}=>dZ (K:=K) ⟨im,now,t,tr,o,[m],ma⟩ s [2] (aM _) hb;dsimp only at hk;rw[hb,ε]at hk;refine sh0 Tryz.f186 ?_
  repeat' ((conv=>whnf);first|exact zf|refine zm ?_|refine zr0 ?_|refine(h1 ?_)|intro _)
  exact hk
def Cb(c:Ca)(s:b7):OR:=bif bw [2] c.ar then
 (bif lL c.t.g (a_ (c.ar[0]?.getD dT)) c.ma==0 then .ok (Ao c c.t.g.fo (a_ (c.ar[0]?.getD dT)) (tO c.t.g (a_ (c.ar[0]?.getD dT)) c.ma)) λ_=>({c with t:={c.t with g:=vW c.t.g (a_ (c.ar[0]?.getD dT)) c.ma}},s)else .ex (lL c.t.g (a_ (c.ar[0]?.getD dT)) c.ma) c s)else .ex (-1) c s
theorem Lp{K:KT}(c:Ca)(s:b7)(m:Va)(har:c.ar=[m])(hs:jL c.t.g)(hl:cL (a_ m))(hk:(Cb c s).K K):Z1 187 [.p 0 0] (eP c s) K:=by
 obtain⟨im,now,t,tr,o,ar,ma⟩:=c;subst har;have h2:=Lo t.g (a_ m) ma hs hl;unfold Cb at hk;cases hb:bw [2] [m] with
 |true=>
  have h1:=λ{K:KT}=>dY (K:=K) ⟨im,now,t,tr,o,[m],ma⟩ s [2] (aM _) hb;dsimp only at hk;rw[hb,δ]at hk
  replace hk:OR.K (bif lL t.g (a_ m) ma==0 then .ok (Ao ⟨im,now,t,tr,o,[m],ma⟩ t.g.fo (a_ m) (tO t.g (a_ m) ma)) λ_=>(⟨im,now,{t with g:=vW t.g (a_ m) ma},tr,o,[m],ma⟩,s)else .ex (lL t.g (a_ m) ma) ⟨im,now,t,tr,o,[m],ma⟩ s) K:=hk
  by_cases hw:lL t.g (a_ m) ma=0
  .rw[show(lL t.g (a_ m) ma==0)=true by simp[hw],δ]at hk;have h3:=λ{K:KT}=>HM (K:=K) ⟨im,now,t,tr,o,[m],ma⟩ s (vW t.g (a_ m) ma) t.g.fo (a_ m) (tO t.g (a_ m) ma);rw[hw]at h2
   replace hk:=hk none
   cases hL:tO t.g (a_ m) ma
   all_goals
    rw[hL]at h2 h3 hk;refine sh0 Tryz.f187 ?_
    repeat' ((conv=>whnf);first|exact zf|refine zm ?_|refine zr0 ?_|refine(h1 ?_)|refine zc h2 ?_|refine(gg ?_)|refine(h3 ?_)|refine⟨_,⟨by omega,rfl,rfl⟩,?_⟩|intro _)
    exact hk
  .rw[show(lL t.g (a_ m) ma==0)=false by simp[hw],ε]at hk;refine sh0 Tryz.f187 ?_
   repeat' ((conv=>whnf);first|exact zf|refine zm ?_|refine zr0 ?_|refine(h1 ?_)|refine zc h2 ?_|refine(jr _ hw ?_)|refine⟨_,⟨by omega,rfl,rfl⟩,?_⟩|intro _)
   exact hk
 |false=>
  have h1:=λ{K:KT}=>dZ (K:=K) ⟨im,now,t,tr,o,[m],ma⟩ s [2] (aM _) hb;dsimp only at hk;rw[hb,ε]at hk;refine sh0 Tryz.f187 ?_
  repeat' ((conv=>whnf);first|exact zf|refine zm ?_|refine zr0 ?_|refine(h1 ?_)|intro _)
  exact hk
def qK(c:Ca)(s:b7):OR:=bif bw [4,0] c.ar then
 (bif bT c.t.g (a_ (c.ar[0]?.getD dT))==0 then (match dH s (c.ar[0]?.getD dT) with
  |some (i,o)=>.ok .no λ_=>(c,jk s i (c.ar[0]?.getD dT).nm {o with v:=c.ar[1]?.getD dT})
  |none=>.ok .no λ_=>(c,s))else .ex (bT c.t.g (a_ (c.ar[0]?.getD dT))) c s)else .ex (-1) c s
theorem mY{s:b7}{h:Va}{i:Nat}{o:Ob}(ht:dH s h=some (i,o)):bW h.nm s.th=some (i,o):=by
 unfold dH at ht;cases hl:bW h.nm s.th with
 |none=>rw[hl]at ht;cases ht
 |some p=>
  rw[hl]at ht;dsimp only at ht;cases hb:(p.2.k==h.k)&&((p.2.l.s==h.ls)&&(p.2.l.i==h.li)) with
  |true=>rw[hb]at ht;cases ht;rfl
  |false=>rw[hb]at ht;cases ht
theorem xj{K:KT}(c:Ca)(s:b7)(h v:Va)(har:c.ar=[h,v])(hs:jL c.t.g)(hl:cL (a_ h))(hqa:wI s h.nm)(hk:(qK c s).K K):Z1 178 [.p 0 0] (eP c s) K:=by
 obtain⟨im,now,t,tr,o,ar,ma⟩:=c;subst har;have h2:=fR t.g (a_ h) hs hl;have h4:=λ{K:KT}=>ji (K:=K) ⟨im,now,t,tr,o,[h,v],ma⟩ s h hqa;unfold qK at hk;cases hb:bw [4,0] [h,v] with
 |true=>
  have h1:=λ{K:KT}=>dY (K:=K) ⟨im,now,t,tr,o,[h,v],ma⟩ s [4,0] (aM _) hb;dsimp only at hk;rw[hb,δ]at hk
  replace hk:OR.K (bif bT t.g (a_ h)==0 then(match dH s h with
   |some (i,ob)=>.ok .no λ_=>(⟨im,now,t,tr,o,[h,v],ma⟩,jk s i h.nm {ob with v:=v})
   |none=>.ok .no λ_=>(⟨im,now,t,tr,o,[h,v],ma⟩,s))else .ex (bT t.g (a_ h)) ⟨im,now,t,tr,o,[h,v],ma⟩ s) K:=hk
  by_cases hw:bT t.g (a_ h)=0
  .rw[show(bT t.g (a_ h)==0)=true by simp[hw],δ]at hk;rw[hw]at h2;unfold l4 at h4;cases ht:dH s h with
   |none=>
    rw[ht]at h4 hk;refine sh0 Tryz.f178 ?_
    repeat' ((conv=>whnf);first|exact zf|refine zm ?_|refine zr0 ?_|refine(h1 ?_)|refine zc h2 ?_|refine(gg ?_)|refine(h4 ?_)|refine⟨_,⟨by omega,rfl,rfl⟩,?_⟩|intro _)
    exact hk none
   |some p=>
    obtain⟨i,ob⟩:=p;rw[ht]at h4 hk;have hlk:=mY ht;have h5:=λ{K:KT}=>l9 (K:=K) s h.nm i {ob with v:=v} ob hlk rfl rfl (hqa i ob hlk);refine sh0 Tryz.f178 ?_
    repeat' ((conv=>whnf);first|exact zf|refine zm ?_|refine zr0 ?_|refine(h1 ?_)|refine zc h2 ?_|refine(gg ?_)|refine(h4 ?_)|refine⟨_,⟨by omega,rfl,rfl⟩,?_⟩|refine(h5 ?_)|intro _)
    exact hk none
  .rw[show(bT t.g (a_ h)==0)=false by simp[hw],ε]at hk;refine sh0 Tryz.f178 ?_
   repeat' ((conv=>whnf);first|exact zf|refine zm ?_|refine zr0 ?_|refine(h1 ?_)|refine zc h2 ?_|refine(jr _ hw ?_)|refine⟨_,⟨by omega,rfl,rfl⟩,?_⟩|intro _)
   exact hk
 |false=>
  have h1:=λ{K:KT}=>dZ (K:=K) ⟨im,now,t,tr,o,[h,v],ma⟩ s [4,0] (aM _) hb;dsimp only at hk;rw[hb,ε]at hk;refine sh0 Tryz.f178 ?_
  repeat' ((conv=>whnf);first|exact zf|refine zm ?_|refine zr0 ?_|refine(h1 ?_)|intro _)
  exact hk
inductive RQ where
  |ok (c:Ca) (s:b7)
  |ex (n:Int) (c:Ca) (s:b7)
def FB(c:Ca)(s:b7):H:=[.cells [.p 1 0],.cells (kW c [.nl 20,.nl 7,.nl 6,.nl 2,.d (.bool false)] (.d (.sl 5 (c.ar.map cE))) 2),.cells [.mp 3,.mp 4],.dm (jV s.th),.ms 1 (kM s.nm) none none]
def DE(c:Ca)(s:b7):H:=[.cells (kW c [.nl 20,.nl 7,.nl 6,.nl 2,.d (.bool false)] (.d (.sl 5 (c.ar.map cE))) 1),.cells [.mp 2,.mp 3],.dm (jV s.th),.ms 1 (kM s.nm) none none,.cells [.p 0 0]]
def RQ.Kb(r:RQ)(K:Out->H->Prop):Prop:=match r with
 |.ok c s=>K (.ret (.tu [])) (FB c s)
 |.ex n c s=>K (.fg (n_ n)) (FB c s)
def RQ.Kt(r:RQ)(K:Out->H->Prop):Prop:=match r with
 |.ok c s=>K (.ret (.tu [])) (DE c s)
 |.ex n c s=>K (.fg (n_ n)) (DE c s)
def RQ.or(r:RQ):OR:=match r with
 |.ok c s=>.ok .no λ_=>(c,s)
 |.ex n c s=>.ex n c s
def h_(c:Ca)(s:b7)(h:Va)(go:Ca->b7->Ob->RQ):RQ:=
 bif dN c.t.g (a_ h)==0 then(match dH s h with
  |some (_,o)=>go {c with t:={c.t with g:=cw c.t.g (a_ h)}} s o
  |none=>.ok {c with t:={c.t with g:=cw c.t.g (a_ h),c:=jX c.t.c (num 0)}} s)else .ex (dN c.t.g (a_ h)) c s
def sw(c:Ca)(s:b7)(o:Ob):RQ:=.ok (ll c o.v) s
theorem A1{K:KT}(c:Ca)(s:b7)(o:Ob)(hl:c.t.c.st.length<1000000000)(hk:(sw c s o).Kb K):Z1 240 [gJ o,.p 0 0] (FB c s) K:=by
 have h1:=λ{K:KT}=>j2 (K:=K) c s o.v hl;refine sh0 Tryz.f240 ?_
 repeat' ((conv=>whnf);first|exact zf|refine zm ?_|refine zr0 ?_|refine(h1 ?_)|intro _)
 exact hk
def kX(c:Ca)(nm:List UInt8):Ca:={c with t:={c.t with st:=1,on:=nm}}
theorem mV{K:KT}(c:Ca)(s:b7)(nm:List UInt8)(hk:K (.ret (.tu [])) (eP (kX c nm) s)):Z1 245 [.p 0 0,.d (.str nm)] (eP c s) K:=by
 refine sh0 Tryz.f245 ?_
 exact zh0 hk
def mW(c:Ca)(s:b7)(o:Ob):RQ:=bif o.dn then(bif o.ex then .ex o.v.n c s else .ok (ll c o.v) s)else .ok (kX c (c.ar[0]?.getD dT).nm) s
theorem K3{K:KT}(c:Ca)(s:b7)(o:Ob)(h:Va)(har:c.ar=[h])(hl:c.t.c.st.length<1000000000)(hk:(mW c s o).Kb K):Z1 253 [gJ o,.p 0 0] (FB c s) K:=by
 obtain⟨im,now,t,tr,op,ar,ma⟩:=c;subst har;obtain⟨k,l,v,ex,dn,va,fu,m⟩:=o;unfold mW at hk;cases dn with
 |true=>
  have h1:=λ{K:KT}=>Bs (K:=K) ⟨im,now,t,tr,op,[h],ma⟩ s ⟨k,l,v,ex,true,va,fu,m⟩ hl;cases ex with
  |true=>
   have h2:=λ{K:KT}(g:K (.fg (n_ v.n)) (eP ⟨im,now,t,tr,op,[h],ma⟩ s))=>h1 (K:=K) g;refine sh0 Tryz.f253 ?_
   repeat' ((conv=>whnf);first|exact zf|refine zm ?_|refine zr0 ?_|refine(h2 ?_)|refine zt ?_|refine zu ?_|intro _)
   exact hk
  |false=>
   have h2:=λ{K:KT}(g:K (.ret (.tu [])) (eP (ll ⟨im,now,t,tr,op,[h],ma⟩ v) s))=>h1 (K:=K) λ_=>g;refine sh0 Tryz.f253 ?_
   repeat' ((conv=>whnf);first|exact zf|refine zm ?_|refine zr0 ?_|refine(h2 ?_)|refine zt ?_|refine zu ?_|intro _)
   exact hk
 |false=>
  have h1:=λ{K:KT}=>mV (K:=K) ⟨im,now,t,tr,op,[h],ma⟩ s h.nm;refine sh0 Tryz.f253 ?_
  repeat' ((conv=>whnf);first|exact zf|refine zm ?_|refine zr0 ?_|refine(h1 ?_)|refine⟨_,⟨by omega,rfl,rfl⟩,?_⟩|refine zt ?_|refine zu ?_|intro _)
  exact hk
def gR(im:Im)(f:Int):Int:=bif decide (f<0)||decide ((im.fs.length:Int)<=f)then 0 else((im.fs[f.toNat]?).map (·.vars)).getD 0
theorem vz{K:KT}(c:Ca)(s:b7)(f:Int)(hk:K (.ret (.d (.int .i64 (gR c.im f)))) (eP c s)):Z1 251 [.p 0 0,.d (.int .i64 f)] (eP c s) K:=by
 have hml:(c.im.fs.map dc).length=c.im.fs.length:=aH _;unfold gR at hk
 by_cases h0:f<0
 .rw[φ h0,Bool.true_or,δ]at hk;refine sh0 Tryz.f251 ?_
  repeat' ((conv=>whnf);first|exact zf|refine zm ?_|refine zt ?_|refine zu ?_|intro _)
  exact hk
 .by_cases h1:(c.im.fs.length:Int)<=f
  .rw[φ h1,mS,δ]at hk;refine sh0 Tryz.f251 ?_
   repeat' ((conv=>whnf);first|exact zf|refine zm ?_|refine zt ?_|refine zu ?_|intro _)
   exact hk
  .rw[τ h0,τ h1]at hk;obtain⟨g,hg⟩:∃g,c.im.fs[f.toNat]?=some g:=⟨_,aA (by omega)⟩
   rw[hg]at hk;refine sh0 Tryz.f251 ?_
   repeat' ((conv=>whnf);first|exact zf|refine zm ?_|refine⟨dc g,⟨by omega,by rw[aB,hg];rfl,rfl⟩,?_⟩|refine zt ?_|refine zu ?_|intro _)
   exact hk
theorem GU{K:KT}(c:Ca)(s:b7)(h:Va)(hl:c.t.c.st.length<1000000000)(hs:jL c.t.g)(hlh:cL (a_ h))(hj:cL (da c.t.g.cur (a_ h)))(hqa:wI s h.nm)(hk:(h_ c s h sw).Kt K):Z1 238 [.p 0 0,j7 h,.fc 240 [.p 4 0]] (DE c s) K:=by
 unfold h_ at hk
 by_cases he:dN c.t.g (a_ h)=0
 .have h1:=λ{K:KT}=>mZ (K:=K) c s (a_ h) hs hlh hj he;have h2:=λ{K:KT}=>ji (K:=K) {c with t:={c.t with g:=cw c.t.g (a_ h)}} s h hqa;rw[he]at hk;unfold l4 at h2;cases ht:dH s h with
  |none=>
   rw[ht]at h2 hk
   replace hk:K (.ret (.tu [])) (DE {c with t:={c.t with g:=cw c.t.g (a_ h),c:=jX c.t.c (num 0)}} s):=hk
   have h3:=λ{K:KT}=>j2 (K:=K) {c with t:={c.t with g:=cw c.t.g (a_ h)}} s (num 0) hl;refine sh0 Tryz.f238 ?_
   repeat' ((conv=>whnf);first|exact zf|refine zm ?_|refine zr0 ?_|refine(h1 ?_)|refine(h2 ?_)|refine(h3 ?_)|intro _)
   exact hk
  |some p=>
   obtain⟨i,o⟩:=p;rw[ht]at h2 hk
   replace hk:(sw {c with t:={c.t with g:=cw c.t.g (a_ h)}} s o).Kt K:=hk
   have h3:=λ{K:KT}=>A1 (K:=K) {c with t:={c.t with g:=cw c.t.g (a_ h)}} s o hl;generalize hR:sw {c with t:={c.t with g:=cw c.t.g (a_ h)}} s o=R at h3 hk;cases R with
   |ok c' s'=>
    have h4:=λ{K:KT}(g:K (.ret (.tu [])) (FB c' s'))=>h3 (K:=K) g;refine sh0 Tryz.f238 ?_
    repeat' ((conv=>whnf);first|exact zf|refine zm ?_|refine zr0 ?_|refine(h1 ?_)|refine(h2 ?_)|refine(h4 ?_)|intro _)
    exact hk
   |ex n c' s'=>
    have h4:=λ{K:KT}(g:K (.fg (n_ n)) (FB c' s'))=>h3 (K:=K) g;refine sh0 Tryz.f238 ?_
    repeat' ((conv=>whnf);first|exact zf|refine zm ?_|refine zr0 ?_|refine(h1 ?_)|refine(h2 ?_)|refine(h4 ?_)|intro _)
    exact hk
 .have hb:(dN c.t.g (a_ h)==0)=false:=by simp[he]
  rw[hb]at hk;have h1:=λ{K:KT}=>mc (K:=K) c s (a_ h) hs hlh hj he;refine sh0 Tryz.f238 ?_
  repeat' ((conv=>whnf);first|exact zf|refine zm ?_|refine zr0 ?_|refine(h1 ?_)|intro _)
  exact hk
theorem GR{K:KT}(c:Ca)(s:b7)(h:Va)(har:c.ar=[h])(hl:c.t.c.st.length<1000000000)(hs:jL c.t.g)(hlh:cL (a_ h))(hj:cL (da c.t.g.cur (a_ h)))(hqa:wI s h.nm)(hk:(h_ c s h mW).Kt K):Z1 238 [.p 0 0,j7 h,.fc 253 [.p 4 0]] (DE c s) K:=by
 unfold h_ at hk
 by_cases he:dN c.t.g (a_ h)=0
 .have h1:=λ{K:KT}=>mZ (K:=K) c s (a_ h) hs hlh hj he;have h2:=λ{K:KT}=>ji (K:=K) {c with t:={c.t with g:=cw c.t.g (a_ h)}} s h hqa;rw[he]at hk;unfold l4 at h2;cases ht:dH s h with
  |none=>
   rw[ht]at h2 hk
   replace hk:K (.ret (.tu [])) (DE {c with t:={c.t with g:=cw c.t.g (a_ h),c:=jX c.t.c (num 0)}} s):=hk
   have h3:=λ{K:KT}=>j2 (K:=K) {c with t:={c.t with g:=cw c.t.g (a_ h)}} s (num 0) hl;refine sh0 Tryz.f238 ?_
   repeat' ((conv=>whnf);first|exact zf|refine zm ?_|refine zr0 ?_|refine(h1 ?_)|refine(h2 ?_)|refine(h3 ?_)|intro _)
   exact hk
  |some p=>
   obtain⟨i,o⟩:=p;rw[ht]at h2 hk
   replace hk:(mW {c with t:={c.t with g:=cw c.t.g (a_ h)}} s o).Kt K:=hk
   have h3:=λ{K:KT}=>K3 (K:=K) {c with t:={c.t with g:=cw c.t.g (a_ h)}} s o h har hl;generalize hR:mW {c with t:={c.t with g:=cw c.t.g (a_ h)}} s o=R at h3 hk;cases R with
   |ok c' s'=>
    have h4:=λ{K:KT}(g:K (.ret (.tu [])) (FB c' s'))=>h3 (K:=K) g;refine sh0 Tryz.f238 ?_
    repeat' ((conv=>whnf);first|exact zf|refine zm ?_|refine zr0 ?_|refine(h1 ?_)|refine(h2 ?_)|refine(h4 ?_)|intro _)
    exact hk
   |ex n c' s'=>
    have h4:=λ{K:KT}(g:K (.fg (n_ n)) (FB c' s'))=>h3 (K:=K) g;refine sh0 Tryz.f238 ?_
    repeat' ((conv=>whnf);first|exact zf|refine zm ?_|refine zr0 ?_|refine(h1 ?_)|refine(h2 ?_)|refine(h4 ?_)|intro _)
    exact hk
 .have hb:(dN c.t.g (a_ h)==0)=false:=by simp[he]
  rw[hb]at hk;have h1:=λ{K:KT}=>mc (K:=K) c s (a_ h) hs hlh hj he;refine sh0 Tryz.f238 ?_
  repeat' ((conv=>whnf);first|exact zf|refine zm ?_|refine zr0 ?_|refine(h1 ?_)|intro _)
  exact hk
def pV(c:Ca)(s:b7):OR:=bif bw [4] c.ar then(h_ c s (c.ar[0]?.getD dT) sw).or else .ex (-1) c s
theorem A2{K:KT}(c:Ca)(s:b7)(h:Va)(har:c.ar=[h])(hl:c.t.c.st.length<1000000000)(hs:jL c.t.g)(hlh:cL (a_ h))(hj:cL (da c.t.g.cur (a_ h)))(hqa:wI s h.nm)(hk:(pV c s).K K):Z1 177 [.p 0 0] (eP c s) K:=by
 obtain⟨im,now,t,tr,o,ar,ma⟩:=c;subst har;have h2:=λ{K:KT}=>GU (K:=K) ⟨im,now,t,tr,o,[h],ma⟩ s h hl hs hlh hj hqa;unfold pV at hk;cases hb:bw [4] [h] with
 |true=>
  have h1:=λ{K:KT}=>dY (K:=K) ⟨im,now,t,tr,o,[h],ma⟩ s [4] (aM _) hb;dsimp only at hk;rw[hb,δ]at hk
  replace hk:(h_ ⟨im,now,t,tr,o,[h],ma⟩ s h sw).or.K K:=hk
  generalize hR:h_ ⟨im,now,t,tr,o,[h],ma⟩ s h sw=R at h2 hk;cases R with
  |ok c' s'=>
   have h3:=λ{K:KT}(g:K (.ret (.tu [])) (DE c' s'))=>h2 (K:=K) g;refine sh0 Tryz.f177 ?_
   repeat' ((conv=>whnf);first|exact zf|refine zm ?_|refine zr0 ?_|refine(h1 ?_)|refine(h3 ?_)|refine⟨_,⟨by omega,rfl,rfl⟩,?_⟩|intro _)
   exact hk none
  |ex n c' s'=>
   have h3:=λ{K:KT}(g:K (.fg (n_ n)) (DE c' s'))=>h2 (K:=K) g;refine sh0 Tryz.f177 ?_
   repeat' ((conv=>whnf);first|exact zf|refine zm ?_|refine zr0 ?_|refine(h1 ?_)|refine(h3 ?_)|refine⟨_,⟨by omega,rfl,rfl⟩,?_⟩|intro _)
   exact hk
 |false=>
  have h1:=λ{K:KT}=>dZ (K:=K) ⟨im,now,t,tr,o,[h],ma⟩ s [4] (aM _) hb;dsimp only at hk;rw[hb,ε]at hk;refine sh0 Tryz.f177 ?_
  repeat' ((conv=>whnf);first|exact zf|refine zm ?_|refine zr0 ?_|refine(h1 ?_)|intro _)
  exact hk
def Bo(c:Ca)(s:b7):OR:=bif bw [6] c.ar then(h_ c s (c.ar[0]?.getD dT) mW).or else .ex (-1) c s
theorem K4{K:KT}(c:Ca)(s:b7)(h:Va)(har:c.ar=[h])(hl:c.t.c.st.length<1000000000)(hs:jL c.t.g)(hlh:cL (a_ h))(hj:cL (da c.t.g.cur (a_ h)))(hqa:wI s h.nm)(hk:(Bo c s).K K):Z1 183 [.p 0 0] (eP c s) K:=by
 obtain⟨im,now,t,tr,o,ar,ma⟩:=c;subst har;have h2:=λ{K:KT}=>GR (K:=K) ⟨im,now,t,tr,o,[h],ma⟩ s h rfl hl hs hlh hj hqa;unfold Bo at hk;cases hb:bw [6] [h] with
 |true=>
  have h1:=λ{K:KT}=>dY (K:=K) ⟨im,now,t,tr,o,[h],ma⟩ s [6] (aM _) hb;dsimp only at hk;rw[hb,δ]at hk
  replace hk:(h_ ⟨im,now,t,tr,o,[h],ma⟩ s h mW).or.K K:=hk
  generalize hR:h_ ⟨im,now,t,tr,o,[h],ma⟩ s h mW=R at h2 hk;cases R with
  |ok c' s'=>
   have h3:=λ{K:KT}(g:K (.ret (.tu [])) (DE c' s'))=>h2 (K:=K) g;refine sh0 Tryz.f183 ?_
   repeat' ((conv=>whnf);first|exact zf|refine zm ?_|refine zr0 ?_|refine(h1 ?_)|refine(h3 ?_)|refine⟨_,⟨by omega,rfl,rfl⟩,?_⟩|intro _)
   exact hk none
  |ex n c' s'=>
   have h3:=λ{K:KT}(g:K (.fg (n_ n)) (DE c' s'))=>h2 (K:=K) g;refine sh0 Tryz.f183 ?_
   repeat' ((conv=>whnf);first|exact zf|refine zm ?_|refine zr0 ?_|refine(h1 ?_)|refine(h3 ?_)|refine⟨_,⟨by omega,rfl,rfl⟩,?_⟩|intro _)
   exact hk
 |false=>
  have h1:=λ{K:KT}=>dZ (K:=K) ⟨im,now,t,tr,o,[h],ma⟩ s [6] (aM _) hb;dsimp only at hk;rw[hb,ε]at hk;refine sh0 Tryz.f183 ?_
  repeat' ((conv=>whnf);first|exact zf|refine zm ?_|refine zr0 ?_|refine(h1 ?_)|intro _)
  exact hk
def jx(c:Ca)(s:b7)(o:Ob):RQ:=bif db c.t.c then .ok {c with t:={c.t with c:=gA c.t.c o.fu (gR c.im o.fu) (c.ar.take 1) o.ma}} s else .ex (-6) c s
theorem JN{K:KT}(c:Ca)(s:b7)(o:Ob)(a h:Va)(har:c.ar=[a,h])(hf:c.t.c.fr.length<1000000000)(hk:(jx c s o).Kb K):Z1 258 [gJ o,.p 0 0] (FB c s) K:=by
 obtain⟨im,now,t,tr,op,ar,ma⟩:=c;subst har;have h1:=vz (K:=λout hh=>out=.ret (.d (.int .i64 (gR im o.fu)))/\hh=eP ⟨im,now,t,tr,op,[a,h],ma⟩ s) ⟨im,now,t,tr,op,[a,h],ma⟩ s o.fu ⟨rfl,rfl⟩;have h2:=kV t.c o.fu (gR im o.fu) [a] o.ma hf (show 1<_ by decide);unfold jx at hk;unfold mC at h2;cases hy:db t.c with
 |true=>
  rw[hy]at h2
  replace hk:K (.ret (.tu [])) (FB ⟨im,now,{t with c:=gA t.c o.fu (gR im o.fu) [a] o.ma},tr,op,[a,h],ma⟩ s):=by
   dsimp only at hk;rw[hy]at hk;exact hk
  refine sh0 Tryz.f258 ?_
  repeat' ((conv=>whnf);first|exact zf|refine(bh (bu ?_):eO _ (eO (kZ _ _ _ _ 251 _ _ _ _ _ _ _) _))|refine zm ?_|refine⟨_,_,h1,?_⟩|refine zc h2 ?_|refine zt ?_|refine zu ?_|intro _)
  exact hk
 |false=>
  rw[hy]at h2
  replace hk:K (.fg (n_ (-6))) (FB ⟨im,now,t,tr,op,[a,h],ma⟩ s):=by
   dsimp only at hk;rw[hy]at hk;exact hk
  refine sh0 Tryz.f258 ?_
  repeat' ((conv=>whnf);first|exact zf|refine(bh (bu ?_):eO _ (eO (kZ _ _ _ _ 251 _ _ _ _ _ _ _) _))|refine zm ?_|refine⟨_,_,h1,?_⟩|refine zc h2 ?_|refine(jd _ ?_)|refine zt ?_|refine zu ?_|intro _)
  exact hk
theorem GV{K:KT}(c:Ca)(s:b7)(h a:Va)(har:c.ar=[a,h])(hf:c.t.c.fr.length<1000000000)(hl:c.t.c.st.length<1000000000)(hs:jL c.t.g)(hlh:cL (a_ h))(hj:cL (da c.t.g.cur (a_ h)))(hqa:wI s h.nm)(hk:(h_ c s h jx).Kt K):Z1 238 [.p 0 0,j7 h,.fc 258 [.p 4 0]] (DE c s) K:=by
 unfold h_ at hk
 by_cases he:dN c.t.g (a_ h)=0
 .have h1:=λ{K:KT}=>mZ (K:=K) c s (a_ h) hs hlh hj he;have h2:=λ{K:KT}=>ji (K:=K) {c with t:={c.t with g:=cw c.t.g (a_ h)}} s h hqa;rw[he]at hk;unfold l4 at h2;cases ht:dH s h with
  |none=>
   rw[ht]at h2 hk
   replace hk:K (.ret (.tu [])) (DE {c with t:={c.t with g:=cw c.t.g (a_ h),c:=jX c.t.c (num 0)}} s):=hk
   have h3:=λ{K:KT}=>j2 (K:=K) {c with t:={c.t with g:=cw c.t.g (a_ h)}} s (num 0) hl;refine sh0 Tryz.f238 ?_
   repeat' ((conv=>whnf);first|exact zf|refine zm ?_|refine zr0 ?_|refine(h1 ?_)|refine(h2 ?_)|refine(h3 ?_)|intro _)
   exact hk
  |some p=>
   obtain⟨i,o⟩:=p;rw[ht]at h2 hk
   replace hk:(jx {c with t:={c.t with g:=cw c.t.g (a_ h)}} s o).Kt K:=hk
   have h3:=λ{K:KT}=>JN (K:=K) {c with t:={c.t with g:=cw c.t.g (a_ h)}} s o a h har hf;generalize hR:jx {c with t:={c.t with g:=cw c.t.g (a_ h)}} s o=R at h3 hk;cases R with
   |ok c' s'=>
    have h4:=λ{K:KT}(g:K (.ret (.tu [])) (FB c' s'))=>h3 (K:=K) g;refine sh0 Tryz.f238 ?_
    repeat' ((conv=>whnf);first|exact zf|refine zm ?_|refine zr0 ?_|refine(h1 ?_)|refine(h2 ?_)|refine(h4 ?_)|intro _)
    exact hk
   |ex n c' s'=>
    have h4:=λ{K:KT}(g:K (.fg (n_ n)) (FB c' s'))=>h3 (K:=K) g;refine sh0 Tryz.f238 ?_
    repeat' ((conv=>whnf);first|exact zf|refine zm ?_|refine zr0 ?_|refine(h1 ?_)|refine(h2 ?_)|refine(h4 ?_)|intro _)
    exact hk
 .have hb:(dN c.t.g (a_ h)==0)=false:=by simp[he]
  rw[hb]at hk;have h1:=λ{K:KT}=>mc (K:=K) c s (a_ h) hs hlh hj he;refine sh0 Tryz.f238 ?_
  repeat' ((conv=>whnf);first|exact zf|refine zm ?_|refine zr0 ?_|refine(h1 ?_)|intro _)
  exact hk
def sH(c:Ca)(s:b7):OR:=bif bw [0,7] c.ar then(h_ c s (c.ar[1]?.getD dT) jx).or else .ex (-1) c s
theorem JO{K:KT}(c:Ca)(s:b7)(a h:Va)(har:c.ar=[a,h])(hf:c.t.c.fr.length<1000000000)(hl:c.t.c.st.length<1000000000)(hs:jL c.t.g)(hlh:cL (a_ h))(hj:cL (da c.t.g.cur (a_ h)))(hqa:wI s h.nm)(hk:(sH c s).K K):Z1 189 [.p 0 0] (eP c s) K:=by
 obtain⟨im,now,t,tr,o,ar,ma⟩:=c;subst har;have h2:=λ{K:KT}=>GV (K:=K) ⟨im,now,t,tr,o,[a,h],ma⟩ s h a rfl hf hl hs hlh hj hqa;unfold sH at hk;cases hb:bw [0,7] [a,h] with
 |true=>
  have h1:=λ{K:KT}=>dY (K:=K) ⟨im,now,t,tr,o,[a,h],ma⟩ s [0,7] (aM _) hb;dsimp only at hk;rw[hb,δ]at hk
  replace hk:(h_ ⟨im,now,t,tr,o,[a,h],ma⟩ s h jx).or.K K:=hk
  generalize hR:h_ ⟨im,now,t,tr,o,[a,h],ma⟩ s h jx=R at h2 hk;cases R with
  |ok c' s'=>
   have h3:=λ{K:KT}(g:K (.ret (.tu [])) (DE c' s'))=>h2 (K:=K) g;refine sh0 Tryz.f189 ?_
   repeat' ((conv=>whnf);first|exact zf|refine zm ?_|refine zr0 ?_|refine(h1 ?_)|refine(h3 ?_)|refine⟨_,⟨by omega,rfl,rfl⟩,?_⟩|intro _)
   exact hk none
  |ex n c' s'=>
   have h3:=λ{K:KT}(g:K (.fg (n_ n)) (DE c' s'))=>h2 (K:=K) g;refine sh0 Tryz.f189 ?_
   repeat' ((conv=>whnf);first|exact zf|refine zm ?_|refine zr0 ?_|refine(h1 ?_)|refine(h3 ?_)|refine⟨_,⟨by omega,rfl,rfl⟩,?_⟩|intro _)
   exact hk
 |false=>
  have h1:=λ{K:KT}=>dZ (K:=K) ⟨im,now,t,tr,o,[a,h],ma⟩ s [0,7] (aM _) hb;dsimp only at hk;rw[hb,ε]at hk;refine sh0 Tryz.f189 ?_
  repeat' ((conv=>whnf);first|exact zf|refine zm ?_|refine zr0 ?_|refine(h1 ?_)|intro _)
  exact hk
def mU(id:List UInt8)(l:List Va):Fx:=bif id == []then .no else .KZ ⟨id,l⟩
theorem Bn{K:KT}(c:Ca)(s:b7)(id:List UInt8)(l:List Va)(hk:K (.ret (.tu [])) (Mq c (mU id l) false s)):Z1 247 [.p 0 0,.d (.str id),.d (.sl 5 (l.map cE))] (eP c s) K:=by
 unfold mU at hk;cases he:id == [] with
 |true=>
  rw[he]at hk;have e:id=[]:=by simpa using he
  subst e;refine sh0 Tryz.f247 ?_
  repeat' ((conv=>whnf);first|exact zf|refine zm ?_|refine zt ?_|refine zu ?_|intro _)
  exact hk
 |false=>
  rw[he,ε]at hk;have e:¬id=[]:=by simpa using he
  have e2:(id != [])=true:=by simp[bne,he]
  refine sh0 Tryz.f247 ?_
  repeat' ((conv=>whnf);first|exact zf|refine(uR ?_)|refine zm ?_|refine(gM e2 ?_)|refine zt ?_|refine zu ?_|intro _)
  exact hk
structure Tb(c:Ca)(l:Lb):Prop where
  n:Nc c.t
  g:jL c.t.g
  l:cL l
  f:c.t.c.fr.length<1000000000
  sc:c.t.sc.length<1000000000
  w:0<=c.now/\c.now<1000000000
def lg(c:Ca)(a:Va)(l:Lb)(tk ro:Int):Th:=bif dB c.t l tk ro==0 then B0 c.t c.o.a (gR c.im c.o.a) a c.ma l tk ro c.now (bm (kz c.t))else c.t
theorem JM(c:Ca)(a:Va)(l:Lb)(tk ro:Int)(h:Tb c l) :
  Z0 254 [ep c.t,.d (.int .i64 c.o.a),.d (.int .i64 (gR c.im c.o.a)),j7 a,.d (.int .u8 c.ma),je l,.d (.int .i64 tk),.d (.int .i64 ro),.d (.int .i64 c.now)] (.tu [ep (lg c a l tk ro),.d (.int .i64 (dB c.t l tk ro))]):=by
 have hm:c.t.ma=(c.t.ma.toNat:Nat):=by have:=h.n.m0;omega
 have hm1:c.t.ma.toNat<100:=by have:=h.n.m1;omega
 have no:∀{t:Th},iR c.t c.o.a (gR c.im c.o.a) a c.ma l tk ro c.now->dB c.t l tk ro≠0->Z0 254 [ep c.t,.d (.int .i64 c.o.a),.d (.int .i64 (gR c.im c.o.a)),j7 a,.d (.int .u8 c.ma),je l,.d (.int .i64 tk),.d (.int .i64 ro),.d (.int .i64 c.now)] (.tu [ep (lg c a l tk ro),.d (.int .i64 (dB c.t l tk ro))]):=λh1 h2=>by
  have e:lg c a l tk ro=c.t:=by
   unfold lg;rw[show(dB c.t l tk ro==0)=false by simp[h2]];rfl
  rw[e];exact h1
 by_cases h0:tk<1\/1000<tk
 .exact no (t:=c.t) (yz _ _ _ _ _ _ _ _ _ h0) (by unfold dB;rw[ζ h0];decide)
 by_cases h1:ro<0\/999<ro
 .exact no (t:=c.t) (BZ _ _ _ _ _ _ _ _ _ h0 h1) (by unfold dB;rw[η h0,ζ h1];decide)
 by_cases h2:bT c.t.g l=0
 .by_cases h3:c.t.ro<=ro
  .exact no (t:=c.t) (y_ _ _ _ _ _ _ _ _ _ h.g h.l h0 h1 h2 h3 _ _ h.n.pa hm h.n.ne h.n.le h.n.sm hm1) (by unfold dB;rw[η h0,η h1,η (by simp[h2]),ζ h3];decide)
  .cases h4:db c.t.c with
   |false=>exact no (t:=c.t) (zA _ _ _ _ _ _ _ _ _ h.g h.l h0 h1 h2 h3 h.n.r2 _ _ h.n.pa hm h.n.ne h.n.le h.n.sm hm1 h.f h4) (by unfold dB;rw[η h0,η h1,η (by simp[h2]),η h3,ζ h4];decide)
   |true=>
    have e:dB c.t l tk ro=0:=by unfold dB;rw[η h0,η h1,η (by simp[h2]),η h3,η (by simp[h4])]
    have hr:=uD c.t c.o.a (gR c.im c.o.a) a c.ma l tk ro c.now h.g h.l h0 h1 h2 h3 h.n.r2 _ _ h.n.pa hm h.n.ne h.n.le h.n.sm hm1 h.f h.sc h.w h4;unfold lg;rw[e];exact hr
 .exact no (t:=c.t) (yy _ _ _ _ _ _ _ _ _ h.g h.l h0 h1 h2) (by unfold dB;rw[η h0,η h1,ζ h2];exact h2)
def wN(c:Ca)(s:b7):OR:=bif bw [0,1,1,2] c.ar then
  (bif dB c.t (a_ (c.ar[3]?.getD dT)) (c.ar[2]?.getD dT).n (c.ar[1]?.getD dT).n == 0 then .ok .no fun _ => ({ c with t := lg c (c.ar[0]?.getD dT) (a_ (c.ar[3]?.getD dT)) (c.ar[2]?.getD dT).n (c.ar[1]?.getD dT).n }, s)
   else .ex (dB c.t (a_ (c.ar[3]?.getD dT)) (c.ar[2]?.getD dT).n (c.ar[1]?.getD dT).n) c s)else .ex (-1) c s
theorem F_{K:KT}(c:Ca)(s:b7)(a r k m:Va)(har:c.ar=[a,r,k,m])(h:Tb c (a_ m))(hk:(wN c s).K K):Z1 184 [.p 0 0] (eP c s) K:=by
 have h2:=JM c a (a_ m) k.n r.n h;obtain⟨im,now,t,tr,o,ar,ma⟩:=c;subst har;have h4:=vz (K:=λout hh=>out=.ret (.d (.int .i64 (gR im o.a)))/\hh=eP ⟨im,now,t,tr,o,[a,r,k,m],ma⟩ s) ⟨im,now,t,tr,o,[a,r,k,m],ma⟩ s o.a ⟨rfl,rfl⟩;unfold wN at hk;cases hb:bw [0,1,1,2] [a,r,k,m] with
 |true=>
  have h1:=λ{K:KT}=>dY (K:=K) ⟨im,now,t,tr,o,[a,r,k,m],ma⟩ s [0,1,1,2] (aM _) hb;dsimp only at hk;rw[hb,δ]at hk
  replace hk:OR.K (bif dB t (a_ m) k.n r.n==0 then .ok .no λ_=>(⟨im,now,lg ⟨im,now,t,tr,o,[a,r,k,m],ma⟩ a (a_ m) k.n r.n,tr,o,[a,r,k,m],ma⟩,s)else .ex (dB t (a_ m) k.n r.n) ⟨im,now,t,tr,o,[a,r,k,m],ma⟩ s) K:=hk
  generalize lg ⟨im,now,t,tr,o,[a,r,k,m],ma⟩ a (a_ m) k.n r.n=u at h2 hk
  by_cases hw:dB t (a_ m) k.n r.n=0
  .rw[show(dB t (a_ m) k.n r.n==0)=true by simp[hw],δ]at hk;rw[show dB (Ca.t ⟨im,now,t,tr,o,[a,r,k,m],ma⟩) (a_ m) k.n r.n=0 from hw]at h2;refine sh0 Tryz.f184 ?_
   repeat' ((conv=>whnf);first|exact zf|refine(bh (bu ?_):eO _ (eO (kZ _ _ _ _ 251 _ _ _ _ _ _ _) _))|refine zm ?_|refine zr0 ?_|refine(h1 ?_)|refine⟨_,_,h4,?_⟩|refine zc h2 ?_|refine(gg ?_)|refine⟨_,⟨by omega,rfl,rfl⟩,?_⟩|intro _)
   exact hk none
  .rw[show(dB t (a_ m) k.n r.n==0)=false by simp[hw],ε]at hk;refine sh0 Tryz.f184 ?_
   repeat' ((conv=>whnf);first|exact zf|refine(bh (bu ?_):eO _ (eO (kZ _ _ _ _ 251 _ _ _ _ _ _ _) _))|refine zm ?_|refine zr0 ?_|refine(h1 ?_)|refine⟨_,_,h4,?_⟩|refine zc h2 ?_|refine(jr _ hw ?_)|refine⟨_,⟨by omega,rfl,rfl⟩,?_⟩|intro _)
   exact hk
 |false=>
  have h1:=λ{K:KT}=>dZ (K:=K) ⟨im,now,t,tr,o,[a,r,k,m],ma⟩ s [0,1,1,2] (aM _) hb;dsimp only at hk;rw[hb,ε]at hk;refine sh0 Tryz.f184 ?_
  repeat' ((conv=>whnf);first|exact zf|refine zm ?_|refine zr0 ?_|refine(h1 ?_)|intro _)
  exact hk
end Go.Proofs.YtjpgfgajkjhonaaGreatDoor