/- Lemmas. Conditions: none. -/
import Derived.Test.YtjpgfgajkjhonaaGreatDoorQHBC
set_option maxHeartbeats 4000000
namespace Go.Proofs.YtjpgfgajkjhonaaGreatDoor
open Go.Vx
set_option maxRecDepth 100000
inductive OR where
  |ok (e:Fx) (f:Option Nat→Ca×b8)
  |ex (n:Int) (c:Ca) (s:b8)
def OR.K (r:OR) (K:Out→H→Prop):Prop:=match r with
 |.ok e f=>∀b,K (.ret (.tu [])) (Mn (f b).1 e false (f b).2)
 |.ex n c s=>K (.fm (oI n)) (e7 c s)
def jt:List UInt8→Nat→List Nat
 |[],a=>[a]
 |c :: r,a=>bif c==46 then a :: jt r 0 else jt r (10*a+(c.toNat - 48))
def lI (t:Th):List Nat:=jt t.pa 0 ++ [t.ma.toNat]
structure N6 (t:Th):Prop where
  pa:t.pa=cR (jt t.pa 0)
  ne:jt t.pa 0≠[]
  le:(jt t.pa 0).length<24
  sm:∀n∈jt t.pa 0,n<100
  m0:0≤t.ma
  m1:t.ma<100
  r2:t.ro<1000000000
structure QL (c:Ca) (s:b8) (o:Ob):Prop where
  n:N6 c.t
  g:jX c.t.g
  l:cI o.l
  gs:lY s
  k3:3≤o.k
  k7:o.k≤7
  XA:kf o.l=true
  q:o.va.q.length<100000000
  new:bI (cR (lI c.t)) s.th=none
  st:c.t.c.st.length<1000000000
theorem N6.nP {t:Th} (h:N6 t):gS (lI t):=by
 refine ⟨by simp [lI],?_,λn hn=>?_⟩
 ·have:=h.le;simp [lI];omega
 ·rcases aS.1 hn with g | g
  ·exact h.sm n g
  ·rw [aM.1 g];have:=h.m1;have:=h.m0;omega
def rR (c:Ca) (s:b8) (o:Ob):OR:=
 bif bV c.t.g o.l==0 then (bif decide (c.t.ro<1) then .ex (-5) c s else .ok .no λb=>(ua { c with t:=kA c.t } (cR (lI c.t)) o,qP s (lI c.t) o b)) else .ex (bV c.t.g o.l) c s
theorem Lm {K:KT} (c:Ca) (s:b8) (o:Ob) (h:QL c s o) (hk:(rR c s o).K K):Z1 237 [.p 0 0,fz o] (e7 c s) K:=by
 unfold rR at hk
 by_cases hw:bV c.t.g o.l=0
 ·rw [hw] at hk
  by_cases hr:c.t.ro<1
  ·rw [φ hr] at hk
   replace hk:K (.fm (oI (-5))) (e7 c s):=hk
   have h1:=fY c.t.g o.l h.g h.l;rw [hw] at h1;have h2:=λ{K:KT}=>Cl (K:=K) c s hr;refine sh0 Tryz.f237 ?_
   repeat' ((conv=>whnf);first | exact zf | refine zm ?_ | refine zc h1 ?_ | intro _)
   conv=>whnf
   refine hN ?_
   repeat' ((conv=>whnf);first | exact zf | refine (c_ (xZ ?_)) | refine zm ?_ | refine zr0 ?_ | refine (h2 ?_) | refine And.intro ?_ ?_ | intro _)
   all_goals exact hk
  ·rw [τ hr] at hk
   replace hk:∀b,K (.ret (.tu [])) (e7 (ua { c with t:=kA c.t } (cR (lI c.t)) o) (qP s (lI c.t) o b)):=hk
   have hm:c.t.ma=(c.t.ma.toNat:Nat):=by have:=h.n.m0;omega
   exact Ll c s (jt c.t.pa 0) c.t.ma.toNat o h.g hw h.n.pa hm h.n.ne h.n.le h.n.sm (by have:=h.n.m1;omega) (by omega) h.n.r2 h.n.nP h.gs h.l h.k3 h.k7 h.XA h.q h.new h.st hk
 ·have hb:(bV c.t.g o.l==0)=false:=by simp [hw]
  rw [hb] at hk
  replace hk:K (.fm (oI (bV c.t.g o.l))) (e7 c s):=hk
  have h1:=fY c.t.g o.l h.g h.l;refine sh0 Tryz.f237 ?_
  repeat' ((conv=>whnf);first | exact zf | refine zm ?_ | refine zc h1 ?_ | refine (kB _ hw ?_) | intro _)
  exact hk
def nB (c:Ca) (s:b8) (l:Lb):OR:=bif dY c.t.g l==0 then .ok .no λ_=>({ c with t:={ c.t with g:=dE c.t.g l } },s) else .ex (dY c.t.g l) c s
def cD (ks:List Int) (ar:List Va):Bool:=(ks.zip ar).all λp=>p.1==0||p.2.k==p.1
def rN (ks:List Int):List (List D):=ks.map λn=>[.int .i64 n]
def Qc (b:Bool) (c:Ca) (s:b8) (K:Out→H→Prop):Prop:=match b with
 |true=>K (.ret (.tu [])) (e7 c s)
 |false=>K (.fm (oI (-1))) (e7 c s)
theorem zD {K:KT} (c:Ca) (s:b8) (ks:List Int) (B:Bool) (hl:ks.length≤c.ar.length) (hb:cD ks c.ar=B) (hk:Qc B c s K):Z1 233 [.p 0 0,.d (.sl 1 (rN ks))] (e7 c s) K:=by
 have hl1:(rN ks).length=ks.length:=aI _;have hl2:(c.ar.map cK).length=c.ar.length:=aI _;refine sh0 Tryz.f233 ?_
 repeat' ((conv=>whnf);first | exact zf | refine zm ?_ | intro _)
 conv=>whnf
 refine bN [(0,.p 0 0),(6,.d (.sl 1 (rN ks))),(7,.d (.int .i64 (rN ks).length))] (λi:Nat=>i≤ks.length∧cD (ks.drop i) (c.ar.drop i)=B) (λi=>[(8,.d (.int .i64 i))]) (λ_=>e7 c s) (λi=>ks.length - i) 0 ⟨ah _,hb⟩ ?_ ?_ ?_ (λi hi=>?_)
 ·exact zzz
 ·exact zzz
 ·exact rfl
 repeat' ((conv=>whnf);first | exact zf | refine zm ?_ | intro _)
 refine aX (λhlt=>?_) (λhge=>?_)
 ·have hlt:i<ks.length:=by rw [←hl1];simpa using hlt
  obtain ⟨k,hm⟩:∃k,ks[i]? = some k:=⟨_,aB hlt⟩
  obtain ⟨v,hv⟩:∃v,c.ar[i]? = some v:=⟨_,aB (by omega)⟩
  have hdk:ks.drop i=k :: ks.drop (i+1):=by
   rw [bR hlt];rw [aB hlt] at hm;rw [an hm]
  have hdv:c.ar.drop i=v :: c.ar.drop (i+1):=by
   have h2:i<c.ar.length:=by omega
   rw [bR h2];rw [aB h2] at hv;rw [an hv]
  have hB:=hi.2;rw [hdk,hdv] at hB;simp only [cD,List.zip_cons_cons,lJ] at hB;have hrow:(rN ks)[i]? = some [D.int .i64 k]:=by simp [rN,hm]
  have hrow2:(c.ar.map cK)[i]? = some (cK v):=by simp [hv]
  repeat' ((conv=>whnf);first | exact zf | refine zm ?_ | intro _)
  refine ⟨_,⟨by omega,hrow,rfl⟩,?_⟩
  by_cases hk0:k=0
  ·subst hk0
   repeat' ((conv=>whnf);first | exact zf | refine zm ?_ | refine zt ?_ | refine zu ?_ | intro _)
   refine ⟨i+1,⟨hlt,by simpa [cD] using hB⟩,bG hlt (bP i),zzz,zzz,rfl⟩
  ·by_cases hkv:v.k=k
   ·skip
    repeat' ((conv=>whnf);first | exact zf | refine zm ?_ | refine ⟨_,⟨by omega,hrow2,rfl⟩,?_⟩ | refine zt ?_ | refine zu ?_ | intro _)
    refine ⟨i+1,⟨hlt,by simpa [cD,hkv] using hB⟩,bG hlt (bP i),zzz,zzz,rfl⟩
   ·have hBf:B=false:=by rw [←hB];simp [hk0,hkv]
    rw [hBf] at hk
    repeat' ((conv=>whnf);first | exact zf | refine zm ?_ | refine ⟨_,⟨by omega,hrow2,rfl⟩,?_⟩ | refine (jr _ ?_) | refine zt ?_ | refine zu ?_ | intro _)
    exact hk
 ·have hge:i=ks.length:=by
   have:¬i<ks.length:=by rw [←hl1];simpa using hge
   omega
  have hBt:B=true:=by rw [←hi.2,hge,lH];rfl
  rw [hBt] at hk
  exact zh0 hk
theorem dr {K:KT} (c:Ca) (s:b8) (ks:List Int) (hl:ks.length≤c.ar.length) (hb:cD ks c.ar=true) (hk:K (.ret (.tu [])) (e7 c s)):Z1 233 [.p 0 0,.d (.sl 1 (rN ks))] (e7 c s) K:=zD c s ks true hl hb hk
theorem dt {K:KT} (c:Ca) (s:b8) (ks:List Int) (hl:ks.length≤c.ar.length) (hb:cD ks c.ar=false) (hk:K (.fm (oI (-1))) (e7 c s)):Z1 233 [.p 0 0,.d (.sl 1 (rN ks))] (e7 c s) K:=zD c s ks false hl hb hk
theorem GF {K:KT} (c:Ca) (s:b8) (l:Lb) (hs:jX c.t.g) (hl:cI l) (hj:cI (db c.t.g.cur l)) (hk:(nB c s l).K K):Z1 234 [.p 0 0,jT l] (e7 c s) K:=by
 unfold nB at hk
 by_cases he:dY c.t.g l=0
 ·rw [he] at hk;exact m_ c s l hs hl hj he (hk none)
 ·have hb:(dY c.t.g l==0)=false:=by simp [he]
  rw [hb] at hk;exact nA c s l hs hl hj he hk
def E4 (k:Int) (c:Ca) (s:b8):OR:=bif cD [0,2] c.ar then rR c s { fT with k:=k,l:=bE (c.ar[1]?.getD de),v:=c.ar[0]?.getD de } else .ex (-1) c s
theorem E5 {K:KT} (c:Ca) (s:b8) (a m:Va) (har:c.ar = [a,m]) (h:QL c s { fT with k:=3,l:=bE m,v:=a }) (hk:(E4 3 c s).K K):Z1 174 [.p 0 0] (e7 c s) K:=by
 obtain ⟨im,now,t,tr,o,ar,ma⟩:=c;subst har;have h2:=λ{K:KT}=>Lm (K:=K) ⟨im,now,t,tr,o,[a,m],ma⟩ s _ h;unfold E4 at hk;cases hb:cD [0,2] [a,m] with
 |true=>
  have h1:=λ{K:KT}=>dr (K:=K) ⟨im,now,t,tr,o,[a,m],ma⟩ s [0,2] (aR _) hb;dsimp only at hk;rw [hb,δ] at hk
  replace hk:(rR ⟨im,now,t,tr,o,[a,m],ma⟩ s { fT with k:=3,l:=bE m,v:=a }).K K:=hk
  generalize hR:rR ⟨im,now,t,tr,o,[a,m],ma⟩ s { fT with k:=3,l:=bE m,v:=a }=R at h2 hk;cases R with
  |ok e f=>
   cases e
   all_goals
    refine sh0 Tryz.f174 ?_
    repeat' ((conv=>whnf);first | exact zf | refine zm ?_ | refine zr0 ?_ | refine (h1 ?_) | refine (h2 (λb=>?_)) | refine ⟨_,⟨by omega,rfl,rfl⟩,?_⟩ | intro _)
    exact hk _
  |ex n c' s'=>
   have h3:=λ{K:KT} (g:K (.fm (oI n)) (e7 c' s'))=>h2 (K:=K) g;refine sh0 Tryz.f174 ?_
   repeat' ((conv=>whnf);first | exact zf | refine zm ?_ | refine zr0 ?_ | refine (h1 ?_) | refine (h3 ?_) | refine ⟨_,⟨by omega,rfl,rfl⟩,?_⟩ | intro _)
   exact hk
 |false=>
  have h1:=λ{K:KT}=>dt (K:=K) ⟨im,now,t,tr,o,[a,m],ma⟩ s [0,2] (aR _) hb;dsimp only at hk;rw [hb,ε] at hk;refine sh0 Tryz.f174 ?_
  repeat' ((conv=>whnf);first | exact zf | refine zm ?_ | refine zr0 ?_ | refine (h1 ?_) | intro _)
  exact hk
def HX (c:Ca) (s:b8):OR:=bif cD [2] c.ar then rR c s { fT with k:=5,l:=bE (c.ar[0]?.getD de) } else .ex (-1) c s
def pB (c:Ca) (s:b8):OR:=bif cD [2] c.ar then nB c s (bE (c.ar[0]?.getD de)) else .ex (-1) c s
theorem Gh {K:KT} (c:Ca) (s:b8) (m:Va) (har:c.ar = [m]) (hs:jX c.t.g) (hl:cI (bE m)) (hj:cI (db c.t.g.cur (bE m))) (hk:(pB c s).K K):Z1 172 [.p 0 0] (e7 c s) K:=by
 obtain ⟨im,now,t,tr,o,ar,ma⟩:=c;subst har;have h2:=λ{K:KT}=>GF (K:=K) ⟨im,now,t,tr,o,[m],ma⟩ s (bE m) hs hl hj;unfold pB at hk;cases hb:cD [2] [m] with
 |true=>
  have h1:=λ{K:KT}=>dr (K:=K) ⟨im,now,t,tr,o,[m],ma⟩ s [2] (aR _) hb;dsimp only at hk;rw [hb,δ] at hk
  replace hk:(nB ⟨im,now,t,tr,o,[m],ma⟩ s (bE m)).K K:=hk
  generalize hR:nB ⟨im,now,t,tr,o,[m],ma⟩ s (bE m)=R at h2 hk;cases R with
  |ok e f=>
   cases e
   all_goals
    refine sh0 Tryz.f172 ?_
    repeat' ((conv=>whnf);first | exact zf | refine zm ?_ | refine zr0 ?_ | refine (h1 ?_) | refine (h2 (λb=>?_)) | refine ⟨_,⟨by omega,rfl,rfl⟩,?_⟩ | intro _)
    exact hk _
  |ex n c' s'=>
   have h3:=λ{K:KT} (g:K (.fm (oI n)) (e7 c' s'))=>h2 (K:=K) g;refine sh0 Tryz.f172 ?_
   repeat' ((conv=>whnf);first | exact zf | refine zm ?_ | refine zr0 ?_ | refine (h1 ?_) | refine (h3 ?_) | refine ⟨_,⟨by omega,rfl,rfl⟩,?_⟩ | intro _)
   exact hk
 |false=>
  have h1:=λ{K:KT}=>dt (K:=K) ⟨im,now,t,tr,o,[m],ma⟩ s [2] (aR _) hb;dsimp only at hk;rw [hb,ε] at hk;refine sh0 Tryz.f172 ?_
  repeat' ((conv=>whnf);first | exact zf | refine zm ?_ | refine zr0 ?_ | refine (h1 ?_) | intro _)
  exact hk
def Au (c:Ca) (s:b8):OR:=bif cD [0,2] c.ar then
 (bif bV c.t.g (bE (c.ar[1]?.getD de))==0 then .ok (.out ⟨bE (c.ar[1]?.getD de),c.ar[0]?.getD de⟩) λ_=>(c,s) else .ex (bV c.t.g (bE (c.ar[1]?.getD de))) c s) else .ex (-1) c s
theorem Gv {K:KT} (c:Ca) (s:b8) (a m:Va) (har:c.ar = [a,m]) (hs:jX c.t.g) (hl:cI (bE m)) (hk:(Au c s).K K):Z1 185 [.p 0 0] (e7 c s) K:=by
 obtain ⟨im,now,t,tr,o,ar,ma⟩:=c;subst har;have h2:=fY t.g (bE m) hs hl;unfold Au at hk;cases hb:cD [0,2] [a,m] with
 |true=>
  have h1:=λ{K:KT}=>dr (K:=K) ⟨im,now,t,tr,o,[a,m],ma⟩ s [0,2] (aR _) hb;dsimp only at hk;rw [hb,δ] at hk
  by_cases hw:bV t.g (bE m)=0
  ·rw [hw] at h2;have hwb:(bV t.g (bE m)==0)=true:=by simp [hw]
   replace hk:OR.K (bif bV t.g (bE m)==0 then .ok (.out ⟨bE m,a⟩) λ_=>(⟨im,now,t,tr,o,[a,m],ma⟩,s) else .ex (bV t.g (bE m)) ⟨im,now,t,tr,o,[a,m],ma⟩ s) K:=hk
   rw [hwb,δ] at hk;refine sh0 Tryz.f185 ?_
   repeat' ((conv=>whnf);first | exact zf | refine zm ?_ | refine zr0 ?_ | refine (h1 ?_) | refine zc h2 ?_ | refine (hN ?_) | refine ⟨_,⟨by omega,rfl,rfl⟩,?_⟩ | intro _)
   exact hk none
  ·have hwb:(bV t.g (bE m)==0)=false:=by simp [hw]
   replace hk:OR.K (bif bV t.g (bE m)==0 then .ok (.out ⟨bE m,a⟩) λ_=>(⟨im,now,t,tr,o,[a,m],ma⟩,s) else .ex (bV t.g (bE m)) ⟨im,now,t,tr,o,[a,m],ma⟩ s) K:=hk
   rw [hwb,ε] at hk;refine sh0 Tryz.f185 ?_
   repeat' ((conv=>whnf);first | exact zf | refine zm ?_ | refine zr0 ?_ | refine (h1 ?_) | refine zc h2 ?_ | refine (kB _ hw ?_) | refine ⟨_,⟨by omega,rfl,rfl⟩,?_⟩ | intro _)
   exact hk
 |false=>
  have h1:=λ{K:KT}=>dt (K:=K) ⟨im,now,t,tr,o,[a,m],ma⟩ s [0,2] (aR _) hb;dsimp only at hk;rw [hb,ε] at hk;refine sh0 Tryz.f185 ?_
  repeat' ((conv=>whnf);first | exact zf | refine zm ?_ | refine zr0 ?_ | refine (h1 ?_) | intro _)
  exact hk
def dN (s:b8) (h:Va):Option (Nat×Ob):=match bI h.nm s.th with
 |some (i,o)=>bif (o.k==h.k)&&((o.l.s==h.ls)&&(o.l.i==h.li)) then some (i,o) else none
 |none=>none
def lp (s:b8) (h:Va):Ob:=((dN s h).map (·.2)).getD fT
def wY (s:b8) (nm:List UInt8):Prop:=∀i o,bI nm s.th=some (i,o)→o.va.q.length<100000000
theorem jw {K:KT} (c:Ca) (s:b8) (h:Va) (hqa:wY s h.nm) (hk:K (.ret (.tu [fz (lp s h),.d (.bool (dN s h).isSome)])) (e7 c s)):Z1 243 [.p 0 0,jl h] (e7 c s) K:=by
 have hq:(ic s h.nm).va.q.length<100000000:=by
  unfold ic;cases hlk:bI h.nm s.th with
  |none=>simp [fT,BD]
  |some p=>exact hqa p.1 p.2 hlk
 have hg:=rW (K:=λout hh=>out = .ret (.tu [fz (ic s h.nm),.d (.bool (mX s h.nm))])∧hh=j6 s) s h.nm hq ⟨rfl,rfl⟩;unfold ic mX at hg;unfold lp dN at hk;cases hlk:bI h.nm s.th with
 |none=>
  rw [hlk] at hg hk;refine s243.go (keep:=false) rfl ?_
  repeat' ((conv=>whnf);first | exact zf | refine (bp (cC ?_):eZ _ (eZ (ky _ _ _ _ 16 _ _ _ _ _ _ _) _)) | refine zm ?_ | refine ⟨_,_,hg,?_⟩ | refine zt ?_ | refine zu ?_ | intro _)
  exact hk
 |some p=>
  obtain ⟨i,o⟩:=p;rw [hlk] at hg hk;dsimp only [Option.map,Option.getD,Option.isSome] at hg;dsimp only at hk;cases hkk:o.k==h.k with
  |false=>
   rw [hkk] at hk;refine s243.go (keep:=false) rfl ?_
   repeat' ((conv=>whnf);first | exact zf | refine (bp (cC ?_):eZ _ (eZ (ky _ _ _ _ 16 _ _ _ _ _ _ _) _)) | refine zm ?_ | refine ⟨_,_,hg,?_⟩ | refine zt ?_ | refine zu ?_ | intro _)
   exact hk
  |true=>
   cases hll:(o.l.s==h.ls)&&(o.l.i==h.li) with
   |false=>
    rw [hkk,hll] at hk;have e2:(!(o.l.s==h.ls&&(o.l.i==h.li&&true)))=true:=by rw [dy,hll];rfl
    refine s243.go (keep:=false) rfl ?_
    repeat' ((conv=>whnf);first | exact zf | refine (bp (cC ?_):eZ _ (eZ (ky _ _ _ _ 16 _ _ _ _ _ _ _) _)) | refine zm ?_ | refine ⟨_,_,hg,?_⟩ | refine (ft e2 ?_) | refine zt ?_ | refine zu ?_ | intro _)
    exact hk
   |true=>
    rw [hkk,hll] at hk;have e2:(!(o.l.s==h.ls&&(o.l.i==h.li&&true)))=false:=by rw [dy,hll];rfl
    refine s243.go (keep:=false) rfl ?_
    repeat' ((conv=>whnf);first | exact zf | refine (bp (cC ?_):eZ _ (eZ (ky _ _ _ _ 16 _ _ _ _ _ _ _) _)) | refine zm ?_ | refine ⟨_,_,hg,?_⟩ | refine (ga e2 ?_) | refine zt ?_ | refine zu ?_ | intro _)
    exact hk
def mP (c:Ca) (s:b8) (o:Ob):OR:=bif o.ex then .ex o.v.n c s else .ok .no λ_=>({ c with t:={ c.t with c:=j7 c.t.c o.v } },s)
theorem CN {K:KT} (c:Ca) (s:b8) (o:Ob) (hl:c.t.c.st.length<1000000000) (hk:(mP c s o).K K):Z1 239 [.p 0 0,fz o] (e7 c s) K:=by
 obtain ⟨ok,ol,ov,oe,od,oq,of,om⟩:=o;unfold mP at hk;cases oe with
 |true=>
  replace hk:K (.fm (oI ov.n)) (e7 c s):=hk
  refine sh0 Tryz.f239 ?_
  repeat' ((conv=>whnf);first | exact zf | refine zm ?_ | refine (jr _ ?_) | intro _)
  exact hk
 |false=>
  replace hk:K (.ret (.tu [])) (e7 { c with t:={ c.t with c:=j7 c.t.c ov } } s):=hk none
  have h1:=λ{K:KT}=>je (K:=K) c s ov hl;refine sh0 Tryz.f239 ?_
  repeat' ((conv=>whnf);first | exact zf | refine zm ?_ | refine zr0 ?_ | refine (h1 ?_) | intro _)
  exact hk
def pb (c:Ca) (s:b8) (h:Va) (go:Ca→b8→Ob→OR):OR:=
 bif dY c.t.g (bE h)==0 then (match dN s h with
  |some (_,o)=>go { c with t:={ c.t with g:=dE c.t.g (bE h) } } s o
  |none=>.ok .no λ_=>({ c with t:={ c.t with g:=dE c.t.g (bE h),c:=j7 c.t.c (num 0) } },s)) else .ex (dY c.t.g (bE h)) c s
theorem Gd {K:KT} (c:Ca) (s:b8) (h:Va) (hl:c.t.c.st.length<1000000000) (hs:jX c.t.g) (hlh:cI (bE h)) (hj:cI (db c.t.g.cur (bE h))) (hqa:wY s h.nm) (hk:(pb c s h mP).K K):Z1 238 [.p 0 0,jl h,.fc 1000239 [.p 0 0]] (e7 c s) K:=by
 unfold pb at hk
 by_cases he:dY c.t.g (bE h)=0
 ·have h1:=λ{K:KT}=>m_ (K:=K) c s (bE h) hs hlh hj he;have h2:=λ{K:KT}=>jw (K:=K) { c with t:={ c.t with g:=dE c.t.g (bE h) } } s h hqa;rw [he] at hk;unfold lp at h2;cases ht:dN s h with
  |none=>
   rw [ht] at h2 hk
   replace hk:K (.ret (.tu [])) (e7 { c with t:={ c.t with g:=dE c.t.g (bE h),c:=j7 c.t.c (num 0) } } s):=hk none
   have h3:=λ{K:KT}=>je (K:=K) { c with t:={ c.t with g:=dE c.t.g (bE h) } } s (num 0) hl;refine sh0 Tryz.f238 ?_
   repeat' ((conv=>whnf);first | exact zf | refine zm ?_ | refine zr0 ?_ | refine (h1 ?_) | refine (h2 ?_) | refine (h3 ?_) | intro _)
   exact hk
  |some p=>
   obtain ⟨i,o⟩:=p;rw [ht] at h2 hk
   replace hk:(mP { c with t:={ c.t with g:=dE c.t.g (bE h) } } s o).K K:=hk
   have h3:=λ{K:KT}=>CN (K:=K) { c with t:={ c.t with g:=dE c.t.g (bE h) } } s o hl;generalize hR:mP { c with t:={ c.t with g:=dE c.t.g (bE h) } } s o=R at h3 hk;cases R with
   |ok e f=>
    cases e
    all_goals
     refine sh0 Tryz.f238 ?_
     repeat' ((conv=>whnf);first | exact zf | refine zm ?_ | refine zr0 ?_ | refine (h1 ?_) | refine (h2 ?_) | refine (h3 (λb=>?_)) | intro _)
     exact hk _
   |ex n c' s'=>
    have h4:=λ{K:KT} (g:K (.fm (oI n)) (e7 c' s'))=>h3 (K:=K) g;refine sh0 Tryz.f238 ?_
    repeat' ((conv=>whnf);first | exact zf | refine zm ?_ | refine zr0 ?_ | refine (h1 ?_) | refine (h2 ?_) | refine (h4 ?_) | intro _)
    exact hk
 ·have hb:(dY c.t.g (bE h)==0)=false:=by simp [he]
  rw [hb] at hk;have h1:=λ{K:KT}=>nA (K:=K) c s (bE h) hs hlh hj he;refine sh0 Tryz.f238 ?_
  repeat' ((conv=>whnf);first | exact zf | refine zm ?_ | refine zr0 ?_ | refine (h1 ?_) | intro _)
  exact hk
def tM (c:Ca) (s:b8):OR:=bif cD [3] c.ar then pb c s (c.ar[0]?.getD de) mP else .ex (-1) c s
theorem C9 {K:KT} (c:Ca) (s:b8) (h:Va) (har:c.ar = [h]) (hl:c.t.c.st.length<1000000000) (hs:jX c.t.g) (hlh:cI (bE h)) (hj:cI (db c.t.g.cur (bE h))) (hqa:wY s h.nm) (hk:(tM c s).K K):Z1 175 [.p 0 0] (e7 c s) K:=by
 obtain ⟨im,now,t,tr,o,ar,ma⟩:=c;subst har;have h2:=λ{K:KT}=>Gd (K:=K) ⟨im,now,t,tr,o,[h],ma⟩ s h hl hs hlh hj hqa;unfold tM at hk;cases hb:cD [3] [h] with
 |true=>
  have h1:=λ{K:KT}=>dr (K:=K) ⟨im,now,t,tr,o,[h],ma⟩ s [3] (aR _) hb;dsimp only at hk;rw [hb,δ] at hk
  replace hk:(pb ⟨im,now,t,tr,o,[h],ma⟩ s h mP).K K:=hk
  generalize hR:pb ⟨im,now,t,tr,o,[h],ma⟩ s h mP=R at h2 hk;cases R with
  |ok e f=>
   cases e
   all_goals
    refine sh0 Tryz.f175 ?_
    repeat' ((conv=>whnf);first | exact zf | refine zm ?_ | refine zr0 ?_ | refine (h1 ?_) | refine (h2 (λb=>?_)) | refine ⟨_,⟨by omega,rfl,rfl⟩,?_⟩ | intro _)
    exact hk _
  |ex n c' s'=>
   have h3:=λ{K:KT} (g:K (.fm (oI n)) (e7 c' s'))=>h2 (K:=K) g;refine sh0 Tryz.f175 ?_
   repeat' ((conv=>whnf);first | exact zf | refine zm ?_ | refine zr0 ?_ | refine (h1 ?_) | refine (h3 ?_) | refine ⟨_,⟨by omega,rfl,rfl⟩,?_⟩ | intro _)
   exact hk
 |false=>
  have h1:=λ{K:KT}=>dt (K:=K) ⟨im,now,t,tr,o,[h],ma⟩ s [3] (aR _) hb;dsimp only at hk;rw [hb,ε] at hk;refine sh0 Tryz.f175 ?_
  repeat' ((conv=>whnf);first | exact zf | refine zm ?_ | refine zr0 ?_ | refine (h1 ?_) | intro _)
  exact hk
def mA (c:Ca) (v:Va):Ca:={ c with t:={ c.t with c:=j7 c.t.c v } }
def Qy (c:Ca) (s:b8):OR:=.ok .no λ_=>(mA c ⟨2,0,[],c.t.g.cur.s,c.t.g.cur.i⟩,s)
def RB (c:Ca) (s:b8):OR:=.ok .no λ_=>(mA c ⟨2,0,[],c.t.g.gH.s,c.t.g.gH.i⟩,s)
theorem Qz {K:KT} (c:Ca) (s:b8) (hl:c.t.c.st.length<1000000000) (hk:(Qy c s).K K):Z1 170 [.p 0 0] (e7 c s) K:=by
 have h1:=λ{K:KT}=>Cs (K:=K) c s c.t.g.cur hl;refine sh0 Tryz.f170 ?_
 repeat' ((conv=>whnf);first | exact zf | refine zm ?_ | refine zr0 ?_ | refine (h1 ?_) | intro _)
 exact hk none
theorem RC {K:KT} (c:Ca) (s:b8) (hl:c.t.c.st.length<1000000000) (hk:(RB c s).K K):Z1 171 [.p 0 0] (e7 c s) K:=by
 have h1:=λ{K:KT}=>Cs (K:=K) c s c.t.g.gH hl;refine sh0 Tryz.f171 ?_
 repeat' ((conv=>whnf);first | exact zf | refine zm ?_ | refine zr0 ?_ | refine (h1 ?_) | intro _)
 exact hk none
def xI (c:Ca) (s:b8):OR:=bif cD [2] c.ar then
 (bif jZ c.t.g (bE (c.ar[0]?.getD de))==0 then .ok .no λ_=>({ c with t:={ c.t with g:=tZ c.t.g (bE (c.ar[0]?.getD de)) } },s) else .ex (jZ c.t.g (bE (c.ar[0]?.getD de))) c s) else .ex (-1) c s
theorem H6 {K:KT} (c:Ca) (s:b8) (m:Va) (har:c.ar = [m]) (hs:jX c.t.g) (hl:cI (bE m)) (hk:(xI c s).K K):Z1 173 [.p 0 0] (e7 c s) K:=by
 obtain ⟨im,now,t,tr,o,ar,ma⟩:=c;subst har;have h2:=H5 t.g (bE m) hs hl;unfold xI at hk;cases hb:cD [2] [m] with
 |true=>
  have h1:=λ{K:KT}=>dr (K:=K) ⟨im,now,t,tr,o,[m],ma⟩ s [2] (aR _) hb;dsimp only at hk;rw [hb,δ] at hk
  replace hk:OR.K (bif jZ t.g (bE m)==0 then .ok .no λ_=>(⟨im,now,{ t with g:=tZ t.g (bE m) },tr,o,[m],ma⟩,s) else .ex (jZ t.g (bE m)) ⟨im,now,t,tr,o,[m],ma⟩ s) K:=hk
  by_cases hw:jZ t.g (bE m)=0
  ·rw [show (jZ t.g (bE m)==0)=true by simp [hw],δ] at hk;rw [hw] at h2;refine sh0 Tryz.f173 ?_
   repeat' ((conv=>whnf);first | exact zf | refine zm ?_ | refine zr0 ?_ | refine (h1 ?_) | refine zc h2 ?_ | refine (hN ?_) | refine ⟨_,⟨by omega,rfl,rfl⟩,?_⟩ | intro _)
   exact hk none
  ·rw [show (jZ t.g (bE m)==0)=false by simp [hw],ε] at hk;refine sh0 Tryz.f173 ?_
   repeat' ((conv=>whnf);first | exact zf | refine zm ?_ | refine zr0 ?_ | refine (h1 ?_) | refine zc h2 ?_ | refine (kB _ hw ?_) | refine ⟨_,⟨by omega,rfl,rfl⟩,?_⟩ | intro _)
   exact hk
 |false=>
  have h1:=λ{K:KT}=>dt (K:=K) ⟨im,now,t,tr,o,[m],ma⟩ s [2] (aR _) hb;dsimp only at hk;rw [hb,ε] at hk;refine sh0 Tryz.f173 ?_
  repeat' ((conv=>whnf);first | exact zf | refine zm ?_ | refine zr0 ?_ | refine (h1 ?_) | intro _)
  exact hk
def BM (c:Ca) (f to:Lb) (b:Bool):Fx:=bif b then .log ⟨c.o.c,f,to,c.ma⟩ else .no
theorem Hb {K:KT} (c:Ca) (s:b8) (g:Gs) (f to:Lb) (b:Bool) (hk:K (.ret (.tu [])) (Mn { c with t:={ c.t with g:=g } } (BM c f to b) false s)):Z1 256 [.p 0 0,Fh g,jT f,jT to,.d (.bool b)] (e7 c s) K:=by
 cases b with
 |true=>
  refine sh0 Tryz.f256 ?_
  repeat' ((conv=>whnf);first | exact zf | refine zm ?_ | refine zt ?_ | refine zu ?_ | intro _)
  exact hk
 |false=>
  refine sh0 Tryz.f256 ?_
  repeat' ((conv=>whnf);first | exact zf | refine zm ?_ | refine zt ?_ | refine zu ?_ | intro _)
  exact hk
def DR (c:Ca) (s:b8):OR:=bif cD [2] c.ar then
 (bif l5 c.t.g (bE (c.ar[0]?.getD de)) c.ma==0 then .ok (BM c c.t.g.cur (bE (c.ar[0]?.getD de)) (uR c.t.g (bE (c.ar[0]?.getD de)) c.ma)) λ_=>({ c with t:={ c.t with g:=wC c.t.g (bE (c.ar[0]?.getD de)) c.ma } },s) else .ex (l5 c.t.g (bE (c.ar[0]?.getD de)) c.ma) c s) else .ex (-1) c s
theorem MZ {K:KT} (c:Ca) (s:b8) (m:Va) (har:c.ar = [m]) (hs:jX c.t.g) (hl:cI (bE m)) (hk:(DR c s).K K):Z1 186 [.p 0 0] (e7 c s) K:=by
 obtain ⟨im,now,t,tr,o,ar,ma⟩:=c;subst har;have h2:=MY t.g (bE m) ma hs hl;unfold DR at hk;cases hb:cD [2] [m] with
 |true=>
  have h1:=λ{K:KT}=>dr (K:=K) ⟨im,now,t,tr,o,[m],ma⟩ s [2] (aR _) hb;dsimp only at hk;rw [hb,δ] at hk
  replace hk:OR.K (bif l5 t.g (bE m) ma==0 then .ok (BM ⟨im,now,t,tr,o,[m],ma⟩ t.g.cur (bE m) (uR t.g (bE m) ma)) λ_=>(⟨im,now,{ t with g:=wC t.g (bE m) ma },tr,o,[m],ma⟩,s) else .ex (l5 t.g (bE m) ma) ⟨im,now,t,tr,o,[m],ma⟩ s) K:=hk
  by_cases hw:l5 t.g (bE m) ma=0
  ·rw [show (l5 t.g (bE m) ma==0)=true by simp [hw],δ] at hk;have h3:=λ{K:KT}=>Hb (K:=K) ⟨im,now,t,tr,o,[m],ma⟩ s (wC t.g (bE m) ma) t.g.cur (bE m) (uR t.g (bE m) ma);rw [hw] at h2
   replace hk:=hk none
   cases hL:uR t.g (bE m) ma
   all_goals
    rw [hL] at h2 h3 hk;refine sh0 Tryz.f186 ?_
    repeat' ((conv=>whnf);first | exact zf | refine zm ?_ | refine zr0 ?_ | refine (h1 ?_) | refine zc h2 ?_ | refine (hN ?_) | refine (h3 ?_) | refine ⟨_,⟨by omega,rfl,rfl⟩,?_⟩ | intro _)
    exact hk
  ·rw [show (l5 t.g (bE m) ma==0)=false by simp [hw],ε] at hk;refine sh0 Tryz.f186 ?_
   repeat' ((conv=>whnf);first | exact zf | refine zm ?_ | refine zr0 ?_ | refine (h1 ?_) | refine zc h2 ?_ | refine (kB _ hw ?_) | refine ⟨_,⟨by omega,rfl,rfl⟩,?_⟩ | intro _)
   exact hk
 |false=>
  have h1:=λ{K:KT}=>dt (K:=K) ⟨im,now,t,tr,o,[m],ma⟩ s [2] (aR _) hb;dsimp only at hk;rw [hb,ε] at hk;refine sh0 Tryz.f186 ?_
  repeat' ((conv=>whnf);first | exact zf | refine zm ?_ | refine zr0 ?_ | refine (h1 ?_) | intro _)
  exact hk
def Cw (c:Ca) (s:b8):OR:=bif cD [2] c.ar then
 (bif lU c.t.g (bE (c.ar[0]?.getD de)) c.ma==0 then .ok (BM c c.t.g.gH (bE (c.ar[0]?.getD de)) (tf c.t.g (bE (c.ar[0]?.getD de)) c.ma)) λ_=>({ c with t:={ c.t with g:=vi c.t.g (bE (c.ar[0]?.getD de)) c.ma } },s) else .ex (lU c.t.g (bE (c.ar[0]?.getD de)) c.ma) c s) else .ex (-1) c s
theorem Lp {K:KT} (c:Ca) (s:b8) (m:Va) (har:c.ar = [m]) (hs:jX c.t.g) (hl:cI (bE m)) (hk:(Cw c s).K K):Z1 187 [.p 0 0] (e7 c s) K:=by
 obtain ⟨im,now,t,tr,o,ar,ma⟩:=c;subst har;have h2:=Lo t.g (bE m) ma hs hl;unfold Cw at hk;cases hb:cD [2] [m] with
 |true=>
  have h1:=λ{K:KT}=>dr (K:=K) ⟨im,now,t,tr,o,[m],ma⟩ s [2] (aR _) hb;dsimp only at hk;rw [hb,δ] at hk
  replace hk:OR.K (bif lU t.g (bE m) ma==0 then .ok (BM ⟨im,now,t,tr,o,[m],ma⟩ t.g.gH (bE m) (tf t.g (bE m) ma)) λ_=>(⟨im,now,{ t with g:=vi t.g (bE m) ma },tr,o,[m],ma⟩,s) else .ex (lU t.g (bE m) ma) ⟨im,now,t,tr,o,[m],ma⟩ s) K:=hk
  by_cases hw:lU t.g (bE m) ma=0
  ·rw [show (lU t.g (bE m) ma==0)=true by simp [hw],δ] at hk;have h3:=λ{K:KT}=>Hb (K:=K) ⟨im,now,t,tr,o,[m],ma⟩ s (vi t.g (bE m) ma) t.g.gH (bE m) (tf t.g (bE m) ma);rw [hw] at h2
   replace hk:=hk none
   cases hL:tf t.g (bE m) ma
   all_goals
    rw [hL] at h2 h3 hk;refine sh0 Tryz.f187 ?_
    repeat' ((conv=>whnf);first | exact zf | refine zm ?_ | refine zr0 ?_ | refine (h1 ?_) | refine zc h2 ?_ | refine (hN ?_) | refine (h3 ?_) | refine ⟨_,⟨by omega,rfl,rfl⟩,?_⟩ | intro _)
    exact hk
  ·rw [show (lU t.g (bE m) ma==0)=false by simp [hw],ε] at hk;refine sh0 Tryz.f187 ?_
   repeat' ((conv=>whnf);first | exact zf | refine zm ?_ | refine zr0 ?_ | refine (h1 ?_) | refine zc h2 ?_ | refine (kB _ hw ?_) | refine ⟨_,⟨by omega,rfl,rfl⟩,?_⟩ | intro _)
   exact hk
 |false=>
  have h1:=λ{K:KT}=>dt (K:=K) ⟨im,now,t,tr,o,[m],ma⟩ s [2] (aR _) hb;dsimp only at hk;rw [hb,ε] at hk;refine sh0 Tryz.f187 ?_
  repeat' ((conv=>whnf);first | exact zf | refine zm ?_ | refine zr0 ?_ | refine (h1 ?_) | intro _)
  exact hk
def q6 (c:Ca) (s:b8):OR:=bif cD [4,0] c.ar then
 (bif bV c.t.g (bE (c.ar[0]?.getD de))==0 then (match dN s (c.ar[0]?.getD de) with
  |some (i,o)=>.ok .no λ_=>(c,jx s i (c.ar[0]?.getD de).nm { o with v:=c.ar[1]?.getD de })
  |none=>.ok .no λ_=>(c,s)) else .ex (bV c.t.g (bE (c.ar[0]?.getD de))) c s) else .ex (-1) c s
theorem my {s:b8} {h:Va} {i:Nat} {o:Ob} (ht:dN s h=some (i,o)):bI h.nm s.th=some (i,o):=by
 unfold dN at ht;cases hl:bI h.nm s.th with
 |none=>rw [hl] at ht;cases ht
 |some p=>
  rw [hl] at ht;dsimp only at ht;cases hb:(p.2.k==h.k)&&((p.2.l.s==h.ls)&&(p.2.l.i==h.li)) with
  |true=>rw [hb] at ht;cases ht;rfl
  |false=>rw [hb] at ht;cases ht
theorem yE {K:KT} (c:Ca) (s:b8) (h v:Va) (har:c.ar = [h,v]) (hs:jX c.t.g) (hl:cI (bE h)) (hqa:wY s h.nm) (hk:(q6 c s).K K):Z1 178 [.p 0 0] (e7 c s) K:=by
 obtain ⟨im,now,t,tr,o,ar,ma⟩:=c;subst har;have h2:=fY t.g (bE h) hs hl;have h4:=λ{K:KT}=>jw (K:=K) ⟨im,now,t,tr,o,[h,v],ma⟩ s h hqa;unfold q6 at hk;cases hb:cD [4,0] [h,v] with
 |true=>
  have h1:=λ{K:KT}=>dr (K:=K) ⟨im,now,t,tr,o,[h,v],ma⟩ s [4,0] (aR _) hb;dsimp only at hk;rw [hb,δ] at hk
  replace hk:OR.K (bif bV t.g (bE h)==0 then (match dN s h with
   |some (i,ob)=>.ok .no λ_=>(⟨im,now,t,tr,o,[h,v],ma⟩,jx s i h.nm { ob with v:=v })
   |none=>.ok .no λ_=>(⟨im,now,t,tr,o,[h,v],ma⟩,s)) else .ex (bV t.g (bE h)) ⟨im,now,t,tr,o,[h,v],ma⟩ s) K:=hk
  by_cases hw:bV t.g (bE h)=0
  ·rw [show (bV t.g (bE h)==0)=true by simp [hw],δ] at hk;rw [hw] at h2;unfold lp at h4;cases ht:dN s h with
   |none=>
    rw [ht] at h4 hk;refine sh0 Tryz.f178 ?_
    repeat' ((conv=>whnf);first | exact zf | refine zm ?_ | refine zr0 ?_ | refine (h1 ?_) | refine zc h2 ?_ | refine (hN ?_) | refine (h4 ?_) | refine ⟨_,⟨by omega,rfl,rfl⟩,?_⟩ | intro _)
    exact hk none
   |some p=>
    obtain ⟨i,ob⟩:=p;rw [ht] at h4 hk;have hlk:=my ht;have h5:=λ{K:KT}=>ly (K:=K) s h.nm i { ob with v:=v } ob hlk rfl rfl (hqa i ob hlk);refine sh0 Tryz.f178 ?_
    repeat' ((conv=>whnf);first | exact zf | refine zm ?_ | refine zr0 ?_ | refine (h1 ?_) | refine zc h2 ?_ | refine (hN ?_) | refine (h4 ?_) | refine ⟨_,⟨by omega,rfl,rfl⟩,?_⟩ | refine (h5 ?_) | intro _)
    exact hk none
  ·rw [show (bV t.g (bE h)==0)=false by simp [hw],ε] at hk;refine sh0 Tryz.f178 ?_
   repeat' ((conv=>whnf);first | exact zf | refine zm ?_ | refine zr0 ?_ | refine (h1 ?_) | refine zc h2 ?_ | refine (kB _ hw ?_) | refine ⟨_,⟨by omega,rfl,rfl⟩,?_⟩ | intro _)
   exact hk
 |false=>
  have h1:=λ{K:KT}=>dt (K:=K) ⟨im,now,t,tr,o,[h,v],ma⟩ s [4,0] (aR _) hb;dsimp only at hk;rw [hb,ε] at hk;refine sh0 Tryz.f178 ?_
  repeat' ((conv=>whnf);first | exact zf | refine zm ?_ | refine zr0 ?_ | refine (h1 ?_) | intro _)
  exact hk
inductive RQ where
  |ok (c:Ca) (s:b8)
  |ex (n:Int) (c:Ca) (s:b8)
def FZ (c:Ca) (s:b8):H:=[.cells [.p 1 0],.cells (ko c [.nl 20,.nl 7,.nl 6,.nl 2,.d (.bool false)] (.d (.sl 5 (c.ar.map cK))) 2),.cells [.mp 3,.mp 4],.dm (iy s.th),.ms 1 (kh s.nm) none none]
def DZ (c:Ca) (s:b8):H:=[.cells (ko c [.nl 20,.nl 7,.nl 6,.nl 2,.d (.bool false)] (.d (.sl 5 (c.ar.map cK))) 1),.cells [.mp 2,.mp 3],.dm (iy s.th),.ms 1 (kh s.nm) none none,.cells [.p 0 0]]
def RQ.Kb (r:RQ) (K:Out→H→Prop):Prop:=match r with
 |.ok c s=>K (.ret (.tu [])) (FZ c s)
 |.ex n c s=>K (.fm (oI n)) (FZ c s)
def RQ.Kt (r:RQ) (K:Out→H→Prop):Prop:=match r with
 |.ok c s=>K (.ret (.tu [])) (DZ c s)
 |.ex n c s=>K (.fm (oI n)) (DZ c s)
def RQ.or (r:RQ):OR:=match r with
 |.ok c s=>.ok .no λ_=>(c,s)
 |.ex n c s=>.ex n c s
def iK (c:Ca) (s:b8) (h:Va) (go:Ca→b8→Ob→RQ):RQ:=
 bif dY c.t.g (bE h)==0 then (match dN s h with
  |some (_,o)=>go { c with t:={ c.t with g:=dE c.t.g (bE h) } } s o
  |none=>.ok { c with t:={ c.t with g:=dE c.t.g (bE h),c:=j7 c.t.c (num 0) } } s) else .ex (dY c.t.g (bE h)) c s
def tH (c:Ca) (s:b8) (o:Ob):RQ:=.ok (mA c o.v) s
theorem Ao {K:KT} (c:Ca) (s:b8) (o:Ob) (hl:c.t.c.st.length<1000000000) (hk:(tH c s o).Kb K):Z1 240 [fz o,.p 0 0] (FZ c s) K:=by
 have h1:=λ{K:KT}=>je (K:=K) c s o.v hl;refine sh0 Tryz.f240 ?_
 repeat' ((conv=>whnf);first | exact zf | refine zm ?_ | refine zr0 ?_ | refine (h1 ?_) | intro _)
 exact hk
def kq (c:Ca) (nm:List UInt8):Ca:={ c with t:={ c.t with st:=1,on:=nm } }
theorem mj {K:KT} (c:Ca) (s:b8) (nm:List UInt8) (hk:K (.ret (.tu [])) (e7 (kq c nm) s)):Z1 245 [.p 0 0,.d (.str nm)] (e7 c s) K:=by
 refine sh0 Tryz.f245 ?_
 exact zh0 hk
def mo (c:Ca) (s:b8) (o:Ob):RQ:=bif o.dn then (bif o.ex then .ex o.v.n c s else .ok (mA c o.v) s) else .ok (kq c (c.ar[0]?.getD de).nm) s
theorem Kg {K:KT} (c:Ca) (s:b8) (o:Ob) (h:Va) (har:c.ar = [h]) (hl:c.t.c.st.length<1000000000) (hk:(mo c s o).Kb K):Z1 253 [fz o,.p 0 0] (FZ c s) K:=by
 obtain ⟨im,now,t,tr,op,ar,ma⟩:=c;subst har;obtain ⟨k,l,v,ex,dn,va,fu,m⟩:=o;unfold mo at hk;cases dn with
 |true=>
  have h1:=λ{K:KT}=>CN (K:=K) ⟨im,now,t,tr,op,[h],ma⟩ s ⟨k,l,v,ex,true,va,fu,m⟩ hl;cases ex with
  |true=>
   have h2:=λ{K:KT} (g:K (.fm (oI v.n)) (e7 ⟨im,now,t,tr,op,[h],ma⟩ s))=>h1 (K:=K) g;refine sh0 Tryz.f253 ?_
   repeat' ((conv=>whnf);first | exact zf | refine zm ?_ | refine zr0 ?_ | refine (h2 ?_) | refine zt ?_ | refine zu ?_ | intro _)
   exact hk
  |false=>
   have h2:=λ{K:KT} (g:K (.ret (.tu [])) (e7 (mA ⟨im,now,t,tr,op,[h],ma⟩ v) s))=>h1 (K:=K) λ_=>g;refine sh0 Tryz.f253 ?_
   repeat' ((conv=>whnf);first | exact zf | refine zm ?_ | refine zr0 ?_ | refine (h2 ?_) | refine zt ?_ | refine zu ?_ | intro _)
   exact hk
 |false=>
  have h1:=λ{K:KT}=>mj (K:=K) ⟨im,now,t,tr,op,[h],ma⟩ s h.nm;refine sh0 Tryz.f253 ?_
  repeat' ((conv=>whnf);first | exact zf | refine zm ?_ | refine zr0 ?_ | refine (h1 ?_) | refine ⟨_,⟨by omega,rfl,rfl⟩,?_⟩ | refine zt ?_ | refine zu ?_ | intro _)
  exact hk
def gZ (im:Im) (f:Int):Int:=bif decide (f<0)||decide ((im.fs.length:Int)≤f) then 0 else ((im.fs[f.toNat]?).map (·.vars)).getD 0
theorem wM {K:KT} (c:Ca) (s:b8) (f:Int) (hk:K (.ret (.d (.int .i64 (gZ c.im f)))) (e7 c s)):Z1 251 [.p 0 0,.d (.int .i64 f)] (e7 c s) K:=by
 have hml:(c.im.fs.map dw).length=c.im.fs.length:=aI _;unfold gZ at hk
 by_cases h0:f<0
 ·rw [φ h0,Bool.true_or,δ] at hk;refine sh0 Tryz.f251 ?_
  repeat' ((conv=>whnf);first | exact zf | refine zm ?_ | refine zt ?_ | refine zu ?_ | intro _)
  exact hk
 ·by_cases h1:(c.im.fs.length:Int)≤f
  ·rw [φ h1,me,δ] at hk;refine sh0 Tryz.f251 ?_
   repeat' ((conv=>whnf);first | exact zf | refine zm ?_ | refine zt ?_ | refine zu ?_ | intro _)
   exact hk
  ·rw [τ h0,τ h1] at hk;obtain ⟨g,hg⟩:∃g,c.im.fs[f.toNat]? = some g:=⟨_,aB (by omega)⟩
   rw [hg] at hk;refine sh0 Tryz.f251 ?_
   repeat' ((conv=>whnf);first | exact zf | refine zm ?_ | refine ⟨dw g,⟨by omega,by rw [aC,hg];rfl,rfl⟩,?_⟩ | refine zt ?_ | refine zu ?_ | intro _)
   exact hk
theorem Ge {K:KT} (c:Ca) (s:b8) (h:Va) (hl:c.t.c.st.length<1000000000) (hs:jX c.t.g) (hlh:cI (bE h)) (hj:cI (db c.t.g.cur (bE h))) (hqa:wY s h.nm) (hk:(iK c s h tH).Kt K):Z1 238 [.p 0 0,jl h,.fc 240 [.p 4 0]] (DZ c s) K:=by
 unfold iK at hk
 by_cases he:dY c.t.g (bE h)=0
 ·have h1:=λ{K:KT}=>m_ (K:=K) c s (bE h) hs hlh hj he;have h2:=λ{K:KT}=>jw (K:=K) { c with t:={ c.t with g:=dE c.t.g (bE h) } } s h hqa;rw [he] at hk;unfold lp at h2;cases ht:dN s h with
  |none=>
   rw [ht] at h2 hk
   replace hk:K (.ret (.tu [])) (DZ { c with t:={ c.t with g:=dE c.t.g (bE h),c:=j7 c.t.c (num 0) } } s):=hk
   have h3:=λ{K:KT}=>je (K:=K) { c with t:={ c.t with g:=dE c.t.g (bE h) } } s (num 0) hl;refine sh0 Tryz.f238 ?_
   repeat' ((conv=>whnf);first | exact zf | refine zm ?_ | refine zr0 ?_ | refine (h1 ?_) | refine (h2 ?_) | refine (h3 ?_) | intro _)
   exact hk
  |some p=>
   obtain ⟨i,o⟩:=p;rw [ht] at h2 hk
   replace hk:(tH { c with t:={ c.t with g:=dE c.t.g (bE h) } } s o).Kt K:=hk
   have h3:=λ{K:KT}=>Ao (K:=K) { c with t:={ c.t with g:=dE c.t.g (bE h) } } s o hl;generalize hR:tH { c with t:={ c.t with g:=dE c.t.g (bE h) } } s o=R at h3 hk;cases R with
   |ok c' s'=>
    have h4:=λ{K:KT} (g:K (.ret (.tu [])) (FZ c' s'))=>h3 (K:=K) g;refine sh0 Tryz.f238 ?_
    repeat' ((conv=>whnf);first | exact zf | refine zm ?_ | refine zr0 ?_ | refine (h1 ?_) | refine (h2 ?_) | refine (h4 ?_) | intro _)
    exact hk
   |ex n c' s'=>
    have h4:=λ{K:KT} (g:K (.fm (oI n)) (FZ c' s'))=>h3 (K:=K) g;refine sh0 Tryz.f238 ?_
    repeat' ((conv=>whnf);first | exact zf | refine zm ?_ | refine zr0 ?_ | refine (h1 ?_) | refine (h2 ?_) | refine (h4 ?_) | intro _)
    exact hk
 ·have hb:(dY c.t.g (bE h)==0)=false:=by simp [he]
  rw [hb] at hk;have h1:=λ{K:KT}=>nA (K:=K) c s (bE h) hs hlh hj he;refine sh0 Tryz.f238 ?_
  repeat' ((conv=>whnf);first | exact zf | refine zm ?_ | refine zr0 ?_ | refine (h1 ?_) | intro _)
  exact hk
theorem Gc {K:KT} (c:Ca) (s:b8) (h:Va) (har:c.ar = [h]) (hl:c.t.c.st.length<1000000000) (hs:jX c.t.g) (hlh:cI (bE h)) (hj:cI (db c.t.g.cur (bE h))) (hqa:wY s h.nm) (hk:(iK c s h mo).Kt K):Z1 238 [.p 0 0,jl h,.fc 253 [.p 4 0]] (DZ c s) K:=by
 unfold iK at hk
 by_cases he:dY c.t.g (bE h)=0
 ·have h1:=λ{K:KT}=>m_ (K:=K) c s (bE h) hs hlh hj he;have h2:=λ{K:KT}=>jw (K:=K) { c with t:={ c.t with g:=dE c.t.g (bE h) } } s h hqa;rw [he] at hk;unfold lp at h2;cases ht:dN s h with
  |none=>
   rw [ht] at h2 hk
   replace hk:K (.ret (.tu [])) (DZ { c with t:={ c.t with g:=dE c.t.g (bE h),c:=j7 c.t.c (num 0) } } s):=hk
   have h3:=λ{K:KT}=>je (K:=K) { c with t:={ c.t with g:=dE c.t.g (bE h) } } s (num 0) hl;refine sh0 Tryz.f238 ?_
   repeat' ((conv=>whnf);first | exact zf | refine zm ?_ | refine zr0 ?_ | refine (h1 ?_) | refine (h2 ?_) | refine (h3 ?_) | intro _)
   exact hk
  |some p=>
   obtain ⟨i,o⟩:=p;rw [ht] at h2 hk
   replace hk:(mo { c with t:={ c.t with g:=dE c.t.g (bE h) } } s o).Kt K:=hk
   have h3:=λ{K:KT}=>Kg (K:=K) { c with t:={ c.t with g:=dE c.t.g (bE h) } } s o h har hl;generalize hR:mo { c with t:={ c.t with g:=dE c.t.g (bE h) } } s o=R at h3 hk;cases R with
   |ok c' s'=>
    have h4:=λ{K:KT} (g:K (.ret (.tu [])) (FZ c' s'))=>h3 (K:=K) g;refine sh0 Tryz.f238 ?_
    repeat' ((conv=>whnf);first | exact zf | refine zm ?_ | refine zr0 ?_ | refine (h1 ?_) | refine (h2 ?_) | refine (h4 ?_) | intro _)
    exact hk
   |ex n c' s'=>
    have h4:=λ{K:KT} (g:K (.fm (oI n)) (FZ c' s'))=>h3 (K:=K) g;refine sh0 Tryz.f238 ?_
    repeat' ((conv=>whnf);first | exact zf | refine zm ?_ | refine zr0 ?_ | refine (h1 ?_) | refine (h2 ?_) | refine (h4 ?_) | intro _)
    exact hk
 ·have hb:(dY c.t.g (bE h)==0)=false:=by simp [he]
  rw [hb] at hk;have h1:=λ{K:KT}=>nA (K:=K) c s (bE h) hs hlh hj he;refine sh0 Tryz.f238 ?_
  repeat' ((conv=>whnf);first | exact zf | refine zm ?_ | refine zr0 ?_ | refine (h1 ?_) | intro _)
  exact hk
def p9 (c:Ca) (s:b8):OR:=bif cD [4] c.ar then (iK c s (c.ar[0]?.getD de) tH).or else .ex (-1) c s
theorem Ap {K:KT} (c:Ca) (s:b8) (h:Va) (har:c.ar = [h]) (hl:c.t.c.st.length<1000000000) (hs:jX c.t.g) (hlh:cI (bE h)) (hj:cI (db c.t.g.cur (bE h))) (hqa:wY s h.nm) (hk:(p9 c s).K K):Z1 177 [.p 0 0] (e7 c s) K:=by
 obtain ⟨im,now,t,tr,o,ar,ma⟩:=c;subst har;have h2:=λ{K:KT}=>Ge (K:=K) ⟨im,now,t,tr,o,[h],ma⟩ s h hl hs hlh hj hqa;unfold p9 at hk;cases hb:cD [4] [h] with
 |true=>
  have h1:=λ{K:KT}=>dr (K:=K) ⟨im,now,t,tr,o,[h],ma⟩ s [4] (aR _) hb;dsimp only at hk;rw [hb,δ] at hk
  replace hk:(iK ⟨im,now,t,tr,o,[h],ma⟩ s h tH).or.K K:=hk
  generalize hR:iK ⟨im,now,t,tr,o,[h],ma⟩ s h tH=R at h2 hk;cases R with
  |ok c' s'=>
   have h3:=λ{K:KT} (g:K (.ret (.tu [])) (DZ c' s'))=>h2 (K:=K) g;refine sh0 Tryz.f177 ?_
   repeat' ((conv=>whnf);first | exact zf | refine zm ?_ | refine zr0 ?_ | refine (h1 ?_) | refine (h3 ?_) | refine ⟨_,⟨by omega,rfl,rfl⟩,?_⟩ | intro _)
   exact hk none
  |ex n c' s'=>
   have h3:=λ{K:KT} (g:K (.fm (oI n)) (DZ c' s'))=>h2 (K:=K) g;refine sh0 Tryz.f177 ?_
   repeat' ((conv=>whnf);first | exact zf | refine zm ?_ | refine zr0 ?_ | refine (h1 ?_) | refine (h3 ?_) | refine ⟨_,⟨by omega,rfl,rfl⟩,?_⟩ | intro _)
   exact hk
 |false=>
  have h1:=λ{K:KT}=>dt (K:=K) ⟨im,now,t,tr,o,[h],ma⟩ s [4] (aR _) hb;dsimp only at hk;rw [hb,ε] at hk;refine sh0 Tryz.f177 ?_
  repeat' ((conv=>whnf);first | exact zf | refine zm ?_ | refine zr0 ?_ | refine (h1 ?_) | intro _)
  exact hk
def CJ (c:Ca) (s:b8):OR:=bif cD [6] c.ar then (iK c s (c.ar[0]?.getD de) mo).or else .ex (-1) c s
theorem Kh {K:KT} (c:Ca) (s:b8) (h:Va) (har:c.ar = [h]) (hl:c.t.c.st.length<1000000000) (hs:jX c.t.g) (hlh:cI (bE h)) (hj:cI (db c.t.g.cur (bE h))) (hqa:wY s h.nm) (hk:(CJ c s).K K):Z1 183 [.p 0 0] (e7 c s) K:=by
 obtain ⟨im,now,t,tr,o,ar,ma⟩:=c;subst har;have h2:=λ{K:KT}=>Gc (K:=K) ⟨im,now,t,tr,o,[h],ma⟩ s h rfl hl hs hlh hj hqa;unfold CJ at hk;cases hb:cD [6] [h] with
 |true=>
  have h1:=λ{K:KT}=>dr (K:=K) ⟨im,now,t,tr,o,[h],ma⟩ s [6] (aR _) hb;dsimp only at hk;rw [hb,δ] at hk
  replace hk:(iK ⟨im,now,t,tr,o,[h],ma⟩ s h mo).or.K K:=hk
  generalize hR:iK ⟨im,now,t,tr,o,[h],ma⟩ s h mo=R at h2 hk;cases R with
  |ok c' s'=>
   have h3:=λ{K:KT} (g:K (.ret (.tu [])) (DZ c' s'))=>h2 (K:=K) g;refine sh0 Tryz.f183 ?_
   repeat' ((conv=>whnf);first | exact zf | refine zm ?_ | refine zr0 ?_ | refine (h1 ?_) | refine (h3 ?_) | refine ⟨_,⟨by omega,rfl,rfl⟩,?_⟩ | intro _)
   exact hk none
  |ex n c' s'=>
   have h3:=λ{K:KT} (g:K (.fm (oI n)) (DZ c' s'))=>h2 (K:=K) g;refine sh0 Tryz.f183 ?_
   repeat' ((conv=>whnf);first | exact zf | refine zm ?_ | refine zr0 ?_ | refine (h1 ?_) | refine (h3 ?_) | refine ⟨_,⟨by omega,rfl,rfl⟩,?_⟩ | intro _)
   exact hk
 |false=>
  have h1:=λ{K:KT}=>dt (K:=K) ⟨im,now,t,tr,o,[h],ma⟩ s [6] (aR _) hb;dsimp only at hk;rw [hb,ε] at hk;refine sh0 Tryz.f183 ?_
  repeat' ((conv=>whnf);first | exact zf | refine zm ?_ | refine zr0 ?_ | refine (h1 ?_) | intro _)
  exact hk
def kM (c:Ca) (s:b8) (o:Ob):RQ:=bif du c.t.c then .ok { c with t:={ c.t with c:=gF c.t.c o.fu (gZ c.im o.fu) (c.ar.take 1) o.ma } } s else .ex (-6) c s
theorem J7 {K:KT} (c:Ca) (s:b8) (o:Ob) (a h:Va) (har:c.ar = [a,h]) (hf:c.t.c.fr.length<1000000000) (hk:(kM c s o).Kb K):Z1 258 [fz o,.p 0 0] (FZ c s) K:=by
 obtain ⟨im,now,t,tr,op,ar,ma⟩:=c;subst har;have h1:=wM (K:=λout hh=>out = .ret (.d (.int .i64 (gZ im o.fu)))∧hh=e7 ⟨im,now,t,tr,op,[a,h],ma⟩ s) ⟨im,now,t,tr,op,[a,h],ma⟩ s o.fu ⟨rfl,rfl⟩;have h2:=kj t.c o.fu (gZ im o.fu) [a] o.ma hf (show 1<_ by decide);unfold kM at hk;unfold mK at h2;cases hy:du t.c with
 |true=>
  rw [hy] at h2
  replace hk:K (.ret (.tu [])) (FZ ⟨im,now,{ t with c:=gF t.c o.fu (gZ im o.fu) [a] o.ma },tr,op,[a,h],ma⟩ s):=by
   dsimp only at hk;rw [hy] at hk;exact hk
  refine sh0 Tryz.f258 ?_
  repeat' ((conv=>whnf);first | exact zf | refine (bp (cC ?_):eZ _ (eZ (ky _ _ _ _ 251 _ _ _ _ _ _ _) _)) | refine zm ?_ | refine ⟨_,_,h1,?_⟩ | refine zc h2 ?_ | refine zt ?_ | refine zu ?_ | intro _)
  exact hk
 |false=>
  rw [hy] at h2
  replace hk:K (.fm (oI (-6))) (FZ ⟨im,now,t,tr,op,[a,h],ma⟩ s):=by
   dsimp only at hk;rw [hy] at hk;exact hk
  refine sh0 Tryz.f258 ?_
  repeat' ((conv=>whnf);first | exact zf | refine (bp (cC ?_):eZ _ (eZ (ky _ _ _ _ 251 _ _ _ _ _ _ _) _)) | refine zm ?_ | refine ⟨_,_,h1,?_⟩ | refine zc h2 ?_ | refine (jr _ ?_) | refine zt ?_ | refine zu ?_ | intro _)
  exact hk
theorem Gf {K:KT} (c:Ca) (s:b8) (h a:Va) (har:c.ar = [a,h]) (hf:c.t.c.fr.length<1000000000) (hl:c.t.c.st.length<1000000000) (hs:jX c.t.g) (hlh:cI (bE h)) (hj:cI (db c.t.g.cur (bE h))) (hqa:wY s h.nm) (hk:(iK c s h kM).Kt K):Z1 238 [.p 0 0,jl h,.fc 258 [.p 4 0]] (DZ c s) K:=by
 unfold iK at hk
 by_cases he:dY c.t.g (bE h)=0
 ·have h1:=λ{K:KT}=>m_ (K:=K) c s (bE h) hs hlh hj he;have h2:=λ{K:KT}=>jw (K:=K) { c with t:={ c.t with g:=dE c.t.g (bE h) } } s h hqa;rw [he] at hk;unfold lp at h2;cases ht:dN s h with
  |none=>
   rw [ht] at h2 hk
   replace hk:K (.ret (.tu [])) (DZ { c with t:={ c.t with g:=dE c.t.g (bE h),c:=j7 c.t.c (num 0) } } s):=hk
   have h3:=λ{K:KT}=>je (K:=K) { c with t:={ c.t with g:=dE c.t.g (bE h) } } s (num 0) hl;refine sh0 Tryz.f238 ?_
   repeat' ((conv=>whnf);first | exact zf | refine zm ?_ | refine zr0 ?_ | refine (h1 ?_) | refine (h2 ?_) | refine (h3 ?_) | intro _)
   exact hk
  |some p=>
   obtain ⟨i,o⟩:=p;rw [ht] at h2 hk
   replace hk:(kM { c with t:={ c.t with g:=dE c.t.g (bE h) } } s o).Kt K:=hk
   have h3:=λ{K:KT}=>J7 (K:=K) { c with t:={ c.t with g:=dE c.t.g (bE h) } } s o a h har hf;generalize hR:kM { c with t:={ c.t with g:=dE c.t.g (bE h) } } s o=R at h3 hk;cases R with
   |ok c' s'=>
    have h4:=λ{K:KT} (g:K (.ret (.tu [])) (FZ c' s'))=>h3 (K:=K) g;refine sh0 Tryz.f238 ?_
    repeat' ((conv=>whnf);first | exact zf | refine zm ?_ | refine zr0 ?_ | refine (h1 ?_) | refine (h2 ?_) | refine (h4 ?_) | intro _)
    exact hk
   |ex n c' s'=>
    have h4:=λ{K:KT} (g:K (.fm (oI n)) (FZ c' s'))=>h3 (K:=K) g;refine sh0 Tryz.f238 ?_
    repeat' ((conv=>whnf);first | exact zf | refine zm ?_ | refine zr0 ?_ | refine (h1 ?_) | refine (h2 ?_) | refine (h4 ?_) | intro _)
    exact hk
 ·have hb:(dY c.t.g (bE h)==0)=false:=by simp [he]
  rw [hb] at hk;have h1:=λ{K:KT}=>nA (K:=K) c s (bE h) hs hlh hj he;refine sh0 Tryz.f238 ?_
  repeat' ((conv=>whnf);first | exact zf | refine zm ?_ | refine zr0 ?_ | refine (h1 ?_) | intro _)
  exact hk
def sT (c:Ca) (s:b8):OR:=bif cD [0,7] c.ar then (iK c s (c.ar[1]?.getD de) kM).or else .ex (-1) c s
theorem J8 {K:KT} (c:Ca) (s:b8) (a h:Va) (har:c.ar = [a,h]) (hf:c.t.c.fr.length<1000000000) (hl:c.t.c.st.length<1000000000) (hs:jX c.t.g) (hlh:cI (bE h)) (hj:cI (db c.t.g.cur (bE h))) (hqa:wY s h.nm) (hk:(sT c s).K K):Z1 189 [.p 0 0] (e7 c s) K:=by
 obtain ⟨im,now,t,tr,o,ar,ma⟩:=c;subst har;have h2:=λ{K:KT}=>Gf (K:=K) ⟨im,now,t,tr,o,[a,h],ma⟩ s h a rfl hf hl hs hlh hj hqa;unfold sT at hk;cases hb:cD [0,7] [a,h] with
 |true=>
  have h1:=λ{K:KT}=>dr (K:=K) ⟨im,now,t,tr,o,[a,h],ma⟩ s [0,7] (aR _) hb;dsimp only at hk;rw [hb,δ] at hk
  replace hk:(iK ⟨im,now,t,tr,o,[a,h],ma⟩ s h kM).or.K K:=hk
  generalize hR:iK ⟨im,now,t,tr,o,[a,h],ma⟩ s h kM=R at h2 hk;cases R with
  |ok c' s'=>
   have h3:=λ{K:KT} (g:K (.ret (.tu [])) (DZ c' s'))=>h2 (K:=K) g;refine sh0 Tryz.f189 ?_
   repeat' ((conv=>whnf);first | exact zf | refine zm ?_ | refine zr0 ?_ | refine (h1 ?_) | refine (h3 ?_) | refine ⟨_,⟨by omega,rfl,rfl⟩,?_⟩ | intro _)
   exact hk none
  |ex n c' s'=>
   have h3:=λ{K:KT} (g:K (.fm (oI n)) (DZ c' s'))=>h2 (K:=K) g;refine sh0 Tryz.f189 ?_
   repeat' ((conv=>whnf);first | exact zf | refine zm ?_ | refine zr0 ?_ | refine (h1 ?_) | refine (h3 ?_) | refine ⟨_,⟨by omega,rfl,rfl⟩,?_⟩ | intro _)
   exact hk
 |false=>
  have h1:=λ{K:KT}=>dt (K:=K) ⟨im,now,t,tr,o,[a,h],ma⟩ s [0,7] (aR _) hb;dsimp only at hk;rw [hb,ε] at hk;refine sh0 Tryz.f189 ?_
  repeat' ((conv=>whnf);first | exact zf | refine zm ?_ | refine zr0 ?_ | refine (h1 ?_) | intro _)
  exact hk
def mh (id:List UInt8) (l:List Va):Fx:=bif id == [] then .no else .NG ⟨id,l⟩
theorem CI {K:KT} (c:Ca) (s:b8) (id:List UInt8) (l:List Va) (hk:K (.ret (.tu [])) (Mn c (mh id l) false s)):Z1 247 [.p 0 0,.d (.str id),.d (.sl 5 (l.map cK))] (e7 c s) K:=by
 unfold mh at hk;cases he:id == [] with
 |true=>
  rw [he] at hk;have e:id = []:=by simpa using he
  subst e;refine sh0 Tryz.f247 ?_
  repeat' ((conv=>whnf);first | exact zf | refine zm ?_ | refine zt ?_ | refine zu ?_ | intro _)
  exact hk
 |false=>
  rw [he,ε] at hk;have e:¬id = []:=by simpa using he
  have e2:(id != [])=true:=by simp [bne,he]
  refine sh0 Tryz.f247 ?_
  repeat' ((conv=>whnf);first | exact zf | refine (u5 ?_) | refine zm ?_ | refine (ft e2 ?_) | refine zt ?_ | refine zu ?_ | intro _)
  exact hk
structure TS (c:Ca) (l:Lb):Prop where
  n:N6 c.t
  g:jX c.t.g
  l:cI l
  f:c.t.c.fr.length<1000000000
  sc:c.t.sc.length<1000000000
  w:0≤c.now∧c.now<1000000000
def lz (c:Ca) (a:Va) (l:Lb) (tk ro:Int):Th:=bif dG c.t l tk ro==0 then Bp c.t c.o.a (gZ c.im c.o.a) a c.ma l tk ro c.now (cR (lI c.t)) else c.t
theorem J6 (c:Ca) (a:Va) (l:Lb) (tk ro:Int) (h:TS c l) :
  Z0 254 [eo c.t,.d (.int .i64 c.o.a),.d (.int .i64 (gZ c.im c.o.a)),jl a,.d (.int .u8 c.ma),jT l,.d (.int .i64 tk),.d (.int .i64 ro),.d (.int .i64 c.now)] (.tu [eo (lz c a l tk ro),.d (.int .i64 (dG c.t l tk ro))]):=by
 have hm:c.t.ma=(c.t.ma.toNat:Nat):=by have:=h.n.m0;omega
 have hm1:c.t.ma.toNat<100:=by have:=h.n.m1;omega
 have no:∀{t:Th},iY c.t c.o.a (gZ c.im c.o.a) a c.ma l tk ro c.now→dG c.t l tk ro≠0→Z0 254 [eo c.t,.d (.int .i64 c.o.a),.d (.int .i64 (gZ c.im c.o.a)),jl a,.d (.int .u8 c.ma),jT l,.d (.int .i64 tk),.d (.int .i64 ro),.d (.int .i64 c.now)] (.tu [eo (lz c a l tk ro),.d (.int .i64 (dG c.t l tk ro))]):=λh1 h2=>by
  have e:lz c a l tk ro=c.t:=by
   unfold lz;rw [show (dG c.t l tk ro==0)=false by simp [h2]];rfl
  rw [e];exact h1
 by_cases h0:tk<1∨1000<tk
 ·exact no (t:=c.t) (zV _ _ _ _ _ _ _ _ _ h0) (by unfold dG;rw [ζ h0];decide)
 by_cases h1:ro<0∨999<ro
 ·exact no (t:=c.t) (Bo _ _ _ _ _ _ _ _ _ h0 h1) (by unfold dG;rw [η h0,ζ h1];decide)
 by_cases h2:bV c.t.g l=0
 ·by_cases h3:c.t.ro≤ro
  ·exact no (t:=c.t) (zX _ _ _ _ _ _ _ _ _ h.g h.l h0 h1 h2 h3 _ _ h.n.pa hm h.n.ne h.n.le h.n.sm hm1) (by unfold dG;rw [η h0,η h1,η (by simp [h2]),ζ h3];decide)
  ·cases h4:du c.t.c with
   |false=>exact no (t:=c.t) (zY _ _ _ _ _ _ _ _ _ h.g h.l h0 h1 h2 h3 h.n.r2 _ _ h.n.pa hm h.n.ne h.n.le h.n.sm hm1 h.f h4) (by unfold dG;rw [η h0,η h1,η (by simp [h2]),η h3,ζ h4];decide)
   |true=>
    have e:dG c.t l tk ro=0:=by unfold dG;rw [η h0,η h1,η (by simp [h2]),η h3,η (by simp [h4])]
    have hr:=uP c.t c.o.a (gZ c.im c.o.a) a c.ma l tk ro c.now h.g h.l h0 h1 h2 h3 h.n.r2 _ _ h.n.pa hm h.n.ne h.n.le h.n.sm hm1 h.f h.sc h.w h4;unfold lz;rw [e];exact hr
 ·exact no (t:=c.t) (zU _ _ _ _ _ _ _ _ _ h.g h.l h0 h1 h2) (by unfold dG;rw [η h0,η h1,ζ h2];exact h2)
def we (c:Ca) (s:b8):OR:=bif cD [0,1,1,2] c.ar then
  (bif dG c.t (bE (c.ar[3]?.getD de)) (c.ar[2]?.getD de).n (c.ar[1]?.getD de).n == 0 then .ok .no fun _ => ({ c with t := lz c (c.ar[0]?.getD de) (bE (c.ar[3]?.getD de)) (c.ar[2]?.getD de).n (c.ar[1]?.getD de).n }, s)
   else .ex (dG c.t (bE (c.ar[3]?.getD de)) (c.ar[2]?.getD de).n (c.ar[1]?.getD de).n) c s) else .ex (-1) c s
theorem GV {K:KT} (c:Ca) (s:b8) (a r k m:Va) (har:c.ar = [a,r,k,m]) (h:TS c (bE m)) (hk:(we c s).K K):Z1 184 [.p 0 0] (e7 c s) K:=by
 have h2:=J6 c a (bE m) k.n r.n h;obtain ⟨im,now,t,tr,o,ar,ma⟩:=c;subst har;have h4:=wM (K:=λout hh=>out = .ret (.d (.int .i64 (gZ im o.a)))∧hh=e7 ⟨im,now,t,tr,o,[a,r,k,m],ma⟩ s) ⟨im,now,t,tr,o,[a,r,k,m],ma⟩ s o.a ⟨rfl,rfl⟩;unfold we at hk;cases hb:cD [0,1,1,2] [a,r,k,m] with
 |true=>
  have h1:=λ{K:KT}=>dr (K:=K) ⟨im,now,t,tr,o,[a,r,k,m],ma⟩ s [0,1,1,2] (aR _) hb;dsimp only at hk;rw [hb,δ] at hk
  replace hk:OR.K (bif dG t (bE m) k.n r.n==0 then .ok .no λ_=>(⟨im,now,lz ⟨im,now,t,tr,o,[a,r,k,m],ma⟩ a (bE m) k.n r.n,tr,o,[a,r,k,m],ma⟩,s) else .ex (dG t (bE m) k.n r.n) ⟨im,now,t,tr,o,[a,r,k,m],ma⟩ s) K:=hk
  generalize lz ⟨im,now,t,tr,o,[a,r,k,m],ma⟩ a (bE m) k.n r.n=u at h2 hk
  by_cases hw:dG t (bE m) k.n r.n=0
  ·rw [show (dG t (bE m) k.n r.n==0)=true by simp [hw],δ] at hk;rw [show dG (Ca.t ⟨im,now,t,tr,o,[a,r,k,m],ma⟩) (bE m) k.n r.n=0 from hw] at h2;refine sh0 Tryz.f184 ?_
   repeat' ((conv=>whnf);first | exact zf | refine (bp (cC ?_):eZ _ (eZ (ky _ _ _ _ 251 _ _ _ _ _ _ _) _)) | refine zm ?_ | refine zr0 ?_ | refine (h1 ?_) | refine ⟨_,_,h4,?_⟩ | refine zc h2 ?_ | refine (hN ?_) | refine ⟨_,⟨by omega,rfl,rfl⟩,?_⟩ | intro _)
   exact hk none
  ·rw [show (dG t (bE m) k.n r.n==0)=false by simp [hw],ε] at hk;refine sh0 Tryz.f184 ?_
   repeat' ((conv=>whnf);first | exact zf | refine (bp (cC ?_):eZ _ (eZ (ky _ _ _ _ 251 _ _ _ _ _ _ _) _)) | refine zm ?_ | refine zr0 ?_ | refine (h1 ?_) | refine ⟨_,_,h4,?_⟩ | refine zc h2 ?_ | refine (kB _ hw ?_) | refine ⟨_,⟨by omega,rfl,rfl⟩,?_⟩ | intro _)
   exact hk
 |false=>
  have h1:=λ{K:KT}=>dt (K:=K) ⟨im,now,t,tr,o,[a,r,k,m],ma⟩ s [0,1,1,2] (aR _) hb;dsimp only at hk;rw [hb,ε] at hk;refine sh0 Tryz.f184 ?_
  repeat' ((conv=>whnf);first | exact zf | refine zm ?_ | refine zr0 ?_ | refine (h1 ?_) | intro _)
  exact hk
end Go.Proofs.YtjpgfgajkjhonaaGreatDoor