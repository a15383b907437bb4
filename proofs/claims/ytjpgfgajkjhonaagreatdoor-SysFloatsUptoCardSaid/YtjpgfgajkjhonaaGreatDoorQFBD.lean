/- What the ops come to that ask: make, read, tell, the ops of a thing, of a label. Conditions: as told. -/
import Derived.Test.YtjpgfgajkjhonaaGreatDoorQFBB
import Derived.Test.YtjpgfgajkjhonaaGreatDoorQFBC
import Derived.Test.YtjpgfgajkjhonaaGreatDoorQFAY
namespace Go.Proofs.YtjpgfgajkjhonaaGreatDoor
open Go.Vx
set_option maxRecDepth 100000
inductive OR where
  |ok (e:Fx) (f:Option Nat→Ca×bq)
  |ex (n:Int) (c:Ca) (s:bq)
def OR.K (r:OR) (K:Out→H→Prop):Prop:=match r with
 |.ok e f=>∀b,K (.ret (.tu [])) (Ks (f b).1 e false (f b).2)
 |.ex n c s=>K (.ff (nQ n)) (eN c s)
def kD:List UInt8→Nat→List Nat
 |[],a=>[a]
 |c :: r,a=>bif c==46 then a :: kD r 0 else kD r (10*a+(c.toNat - 48))
def lY (t:Th):List Nat:=kD t.pa 0 ++ [t.ma.toNat]
structure Ld (t:Th):Prop where
  pa:t.pa=cr (kD t.pa 0)
  ne:kD t.pa 0≠[]
  le:(kD t.pa 0).length<24
  sm:∀n∈kD t.pa 0,n<100
  m0:0≤t.ma
  m1:t.ma<100
  r2:t.ro<1000000000
structure NN (c:Ca) (s:bq) (o:Ob):Prop where
  n:Ld c.t
  g:jH c.t.g
  l:cO o.l
  gs:lu s
  k3:3≤o.k
  k7:o.k≤7
  VC:kq o.l=true
  q:o.va.q.length<100000000
  new:cD (cr (lY c.t)) s.th=none
  st:c.t.c.st.length<1000000000
theorem Ld.pQ {t:Th} (h:Ld t):gP (lY t):=by
 refine ⟨by simp [lY],?_,λn hn=>?_⟩
 ·have:=h.le;simp [lY];omega
 ·rcases aR.1 hn with g | g
  ·exact h.sm n g
  ·rw [aP.1 g];have:=h.m1;have:=h.m0;omega
def qW (c:Ca) (s:bq) (o:Ob):OR:=
 bif bS c.t.g o.l==0 then (bif decide (c.t.ro<1) then .ex (-5) c s else .ok .no λb=>(tO { c with t:=jh c.t } (cr (lY c.t)) o,qq s (lY c.t) o b)) else .ex (bS c.t.g o.l) c s
theorem Jv {K:Out→H→Prop} (c:Ca) (s:bq) (o:Ob) (h:NN c s o) (hk:(qW c s o).K K):Sat Tryz.prog 237 [.p 0 0,gH o] (eN c s) K:=by
 unfold qW at hk
 by_cases hw:bS c.t.g o.l=0
 ·rw [hw] at hk
  by_cases hr:c.t.ro<1
  ·rw [decide_eq_true hr] at hk
   replace hk:K (.ff (nQ (-5))) (eN c s):=hk
   have h1:=fR c.t.g o.l h.g h.l;rw [hw] at h1;have h2:=λ{K:Out→H→Prop}=>Bb (K:=K) c s hr;refine s237.go (keep:=false) rfl ?_
   repeat' ((conv=>whnf);first | exact zf | refine zm ?_ | refine zc h1 ?_ | intro _)
   conv=>whnf
   refine gf ?_
   repeat' ((conv=>whnf);first | exact zf | refine (dp (wP ?_)) | refine zm ?_ | refine (.inr ?_:(∃_,_)∨_) | refine (h2 ?_) | refine And.intro ?_ ?_ | intro _)
   all_goals exact hk
  ·rw [decide_eq_false hr] at hk
   replace hk:∀b,K (.ret (.tu [])) (eN (tO { c with t:=jh c.t } (cr (lY c.t)) o) (qq s (lY c.t) o b)):=hk
   have hm:c.t.ma=(c.t.ma.toNat:Nat):=by have:=h.n.m0;omega
   exact Ju c s (kD c.t.pa 0) c.t.ma.toNat o h.g hw h.n.pa hm h.n.ne h.n.le h.n.sm (by have:=h.n.m1;omega) (by omega) h.n.r2 h.n.pQ h.gs h.l h.k3 h.k7 h.VC h.q h.new h.st hk
 ·have hb:(bS c.t.g o.l==0)=false:=by simp [hw]
  rw [hb] at hk
  replace hk:K (.ff (nQ (bS c.t.g o.l))) (eN c s):=hk
  have h1:=fR c.t.g o.l h.g h.l;refine s237.go (keep:=false) rfl ?_
  repeat' ((conv=>whnf);first | exact zf | refine zm ?_ | refine zc h1 ?_ | refine (ji _ hw ?_) | intro _)
  exact hk
def mM (c:Ca) (s:bq) (l:Lb):OR:=bif dN c.t.g l==0 then .ok .no λ_=>({ c with t:={ c.t with g:=cu c.t.g l } },s) else .ex (dN c.t.g l) c s
def bw (ks:List Int) (ar:List Va):Bool:=(ks.zip ar).all λp=>p.1==0||p.2.k==p.1
def qR (ks:List Int):List (List D):=ks.map λn=>[.int .i64 n]
def Nb (b:Bool) (c:Ca) (s:bq) (K:Out→H→Prop):Prop:=match b with
 |true=>K (.ret (.tu [])) (eN c s)
 |false=>K (.ff (nQ (-1))) (eN c s)
theorem xu {K:Out→H→Prop} (c:Ca) (s:bq) (ks:List Int) (B:Bool) (hl:ks.length≤c.ar.length) (hb:bw ks c.ar=B) (hk:Nb B c s K):Sat Tryz.prog 233 [.p 0 0,.d (.sl 1 (qR ks))] (eN c s) K:=by
 have hl1:(qR ks).length=ks.length:=aK _;have hl2:(c.ar.map cE).length=c.ar.length:=aK _;refine s233.go (keep:=false) rfl ?_
 repeat' ((conv=>whnf);first | exact zf | refine zm ?_ | intro _)
 conv=>whnf
 refine bV [(0,.p 0 0),(6,.d (.sl 1 (qR ks))),(7,.d (.int .i64 (qR ks).length))] (λi:Nat=>i≤ks.length∧bw (ks.drop i) (c.ar.drop i)=B) (λi=>[(8,.d (.int .i64 i))]) (λ_=>eN c s) (λi=>ks.length - i) 0 ⟨aj _,hb⟩ ?_ ?_ ?_ (λi hi=>?_)
 ·exact zzz
 ·exact zzz
 ·exact rfl
 repeat' ((conv=>whnf);first | exact zf | refine zm ?_ | intro _)
 refine aX (λhlt=>?_) (λhge=>?_)
 ·have hlt:i<ks.length:=by rw [←hl1];simpa using hlt
  obtain ⟨k,hm⟩:∃k,ks[i]? = some k:=⟨_,aB hlt⟩
  obtain ⟨v,hv⟩:∃v,c.ar[i]? = some v:=⟨_,aB (by omega)⟩
  have hdk:ks.drop i=k :: ks.drop (i+1):=by
   rw [bP hlt];rw [aB hlt] at hm;rw [ak hm]
  have hdv:c.ar.drop i=v :: c.ar.drop (i+1):=by
   have h2:i<c.ar.length:=by omega
   rw [bP h2];rw [aB h2] at hv;rw [ak hv]
  have hB:=hi.2;rw [hdk,hdv] at hB;simp only [bw,List.zip_cons_cons,kf] at hB;have hrow:(qR ks)[i]? = some [D.int .i64 k]:=by simp [qR,hm]
  have hrow2:(c.ar.map cE)[i]? = some (cE v):=by simp [hv]
  repeat' ((conv=>whnf);first | exact zf | refine zm ?_ | intro _)
  refine ⟨_,⟨by omega,hrow,rfl⟩,?_⟩
  by_cases hk0:k=0
  ·subst hk0
   repeat' ((conv=>whnf);first | exact zf | refine zm ?_ | refine zt ?_ | refine zu ?_ | intro _)
   refine ⟨i+1,⟨hlt,by simpa [bw] using hB⟩,bE hlt (bN i),zzz,zzz,rfl⟩
  ·by_cases hkv:v.k=k
   ·skip
    repeat' ((conv=>whnf);first | exact zf | refine zm ?_ | refine ⟨_,⟨by omega,hrow2,rfl⟩,?_⟩ | refine zt ?_ | refine zu ?_ | intro _)
    refine ⟨i+1,⟨hlt,by simpa [bw,hkv] using hB⟩,bE hlt (bN i),zzz,zzz,rfl⟩
   ·have hBf:B=false:=by rw [←hB];simp [hk0,hkv]
    rw [hBf] at hk
    repeat' ((conv=>whnf);first | exact zf | refine zm ?_ | refine ⟨_,⟨by omega,hrow2,rfl⟩,?_⟩ | refine (j8 _ ?_) | refine zt ?_ | refine zu ?_ | intro _)
    exact hk
 ·have hge:i=ks.length:=by
   have:¬i<ks.length:=by rw [←hl1];simpa using hge
   omega
  have hBt:B=true:=by rw [←hi.2,hge,ke];rfl
  rw [hBt] at hk
  repeat' ((conv=>whnf);first | exact zf | refine zm ?_ | intro _)
  exact hk
theorem dY {K:Out→H→Prop} (c:Ca) (s:bq) (ks:List Int) (hl:ks.length≤c.ar.length) (hb:bw ks c.ar=true) (hk:K (.ret (.tu [])) (eN c s)):Sat Tryz.prog 233 [.p 0 0,.d (.sl 1 (qR ks))] (eN c s) K:=xu c s ks true hl hb hk
theorem dZ {K:Out→H→Prop} (c:Ca) (s:bq) (ks:List Int) (hl:ks.length≤c.ar.length) (hb:bw ks c.ar=false) (hk:K (.ff (nQ (-1))) (eN c s)):Sat Tryz.prog 233 [.p 0 0,.d (.sl 1 (qR ks))] (eN c s) K:=xu c s ks false hl hb hk
theorem Ea {K:Out→H→Prop} (c:Ca) (s:bq) (l:Lb) (hs:jH c.t.g) (hl:cO l) (hj:cO (dR c.t.g.cur l)) (hk:(mM c s l).K K):Sat Tryz.prog 234 [.p 0 0,jU l] (eN c s) K:=by
 unfold mM at hk
 by_cases he:dN c.t.g l=0
 ·rw [he] at hk;exact mK c s l hs hl hj he (hk none)
 ·have hb:(dN c.t.g l==0)=false:=by simp [he]
  rw [hb] at hk;exact mL c s l hs hl hj he hk
def DO (k:Int) (c:Ca) (s:bq):OR:=bif bw [0,2] c.ar then qW c s { fO with k:=k,l:=bD (c.ar[1]?.getD dT),v:=c.ar[0]?.getD dT } else .ex (-1) c s
theorem DP {K:Out→H→Prop} (c:Ca) (s:bq) (a m:Va) (har:c.ar = [a,m]) (h:NN c s { fO with k:=3,l:=bD m,v:=a }) (hk:(DO 3 c s).K K):Sat Tryz.prog 174 [.p 0 0] (eN c s) K:=by
 obtain ⟨im,now,t,tr,o,ar,ma⟩:=c;subst har;have h2:=λ{K:Out→H→Prop}=>Jv (K:=K) ⟨im,now,t,tr,o,[a,m],ma⟩ s _ h;unfold DO at hk;cases hb:bw [0,2] [a,m] with
 |true=>
  have h1:=λ{K:Out→H→Prop}=>dY (K:=K) ⟨im,now,t,tr,o,[a,m],ma⟩ s [0,2] (aQ _) hb;dsimp only at hk;rw [hb,cond_true] at hk
  replace hk:(qW ⟨im,now,t,tr,o,[a,m],ma⟩ s { fO with k:=3,l:=bD m,v:=a }).K K:=hk
  generalize hR:qW ⟨im,now,t,tr,o,[a,m],ma⟩ s { fO with k:=3,l:=bD m,v:=a }=R at h2 hk;cases R with
  |ok e f=>
   cases e
   all_goals
    refine s174.go (keep:=false) rfl ?_
    repeat' ((conv=>whnf);first | exact zf | refine zm ?_ | refine (.inr ?_:(∃_,_)∨_) | refine (h1 ?_) | refine (h2 (λb=>?_)) | refine ⟨_,⟨by omega,rfl,rfl⟩,?_⟩ | intro _)
    exact hk _
  |ex n c' s'=>
   have h3:=λ{K:Out→H→Prop} (g:K (.ff (nQ n)) (eN c' s'))=>h2 (K:=K) g;refine s174.go (keep:=false) rfl ?_
   repeat' ((conv=>whnf);first | exact zf | refine zm ?_ | refine (.inr ?_:(∃_,_)∨_) | refine (h1 ?_) | refine (h3 ?_) | refine ⟨_,⟨by omega,rfl,rfl⟩,?_⟩ | intro _)
   exact hk
 |false=>
  have h1:=λ{K:Out→H→Prop}=>dZ (K:=K) ⟨im,now,t,tr,o,[a,m],ma⟩ s [0,2] (aQ _) hb;dsimp only at hk;rw [hb,cond_false] at hk;refine s174.go (keep:=false) rfl ?_
  repeat' ((conv=>whnf);first | exact zf | refine zm ?_ | refine (.inr ?_:(∃_,_)∨_) | refine (h1 ?_) | intro _)
  exact hk
def Fg (c:Ca) (s:bq):OR:=bif bw [2] c.ar then qW c s { fO with k:=5,l:=bD (c.ar[0]?.getD dT) } else .ex (-1) c s
def oE (c:Ca) (s:bq):OR:=bif bw [2] c.ar then mM c s (bD (c.ar[0]?.getD dT)) else .ex (-1) c s
theorem FM {K:Out→H→Prop} (c:Ca) (s:bq) (m:Va) (har:c.ar = [m]) (hs:jH c.t.g) (hl:cO (bD m)) (hj:cO (dR c.t.g.cur (bD m))) (hk:(oE c s).K K):Sat Tryz.prog 172 [.p 0 0] (eN c s) K:=by
 obtain ⟨im,now,t,tr,o,ar,ma⟩:=c;subst har;have h2:=λ{K:Out→H→Prop}=>Ea (K:=K) ⟨im,now,t,tr,o,[m],ma⟩ s (bD m) hs hl hj;unfold oE at hk;cases hb:bw [2] [m] with
 |true=>
  have h1:=λ{K:Out→H→Prop}=>dY (K:=K) ⟨im,now,t,tr,o,[m],ma⟩ s [2] (aQ _) hb;dsimp only at hk;rw [hb,cond_true] at hk
  replace hk:(mM ⟨im,now,t,tr,o,[m],ma⟩ s (bD m)).K K:=hk
  generalize hR:mM ⟨im,now,t,tr,o,[m],ma⟩ s (bD m)=R at h2 hk;cases R with
  |ok e f=>
   cases e
   all_goals
    refine s172.go (keep:=false) rfl ?_
    repeat' ((conv=>whnf);first | exact zf | refine zm ?_ | refine (.inr ?_:(∃_,_)∨_) | refine (h1 ?_) | refine (h2 (λb=>?_)) | refine ⟨_,⟨by omega,rfl,rfl⟩,?_⟩ | intro _)
    exact hk _
  |ex n c' s'=>
   have h3:=λ{K:Out→H→Prop} (g:K (.ff (nQ n)) (eN c' s'))=>h2 (K:=K) g;refine s172.go (keep:=false) rfl ?_
   repeat' ((conv=>whnf);first | exact zf | refine zm ?_ | refine (.inr ?_:(∃_,_)∨_) | refine (h1 ?_) | refine (h3 ?_) | refine ⟨_,⟨by omega,rfl,rfl⟩,?_⟩ | intro _)
   exact hk
 |false=>
  have h1:=λ{K:Out→H→Prop}=>dZ (K:=K) ⟨im,now,t,tr,o,[m],ma⟩ s [2] (aQ _) hb;dsimp only at hk;rw [hb,cond_false] at hk;refine s172.go (keep:=false) rfl ?_
  repeat' ((conv=>whnf);first | exact zf | refine zm ?_ | refine (.inr ?_:(∃_,_)∨_) | refine (h1 ?_) | intro _)
  exact hk
def ze (c:Ca) (s:bq):OR:=bif bw [0,2] c.ar then
 (bif bS c.t.g (bD (c.ar[1]?.getD dT))==0 then .ok (.out ⟨bD (c.ar[1]?.getD dT),c.ar[0]?.getD dT⟩) λ_=>(c,s) else .ex (bS c.t.g (bD (c.ar[1]?.getD dT))) c s) else .ex (-1) c s
theorem FX {K:Out→H→Prop} (c:Ca) (s:bq) (a m:Va) (har:c.ar = [a,m]) (hs:jH c.t.g) (hl:cO (bD m)) (hk:(ze c s).K K):Sat Tryz.prog 185 [.p 0 0] (eN c s) K:=by
 obtain ⟨im,now,t,tr,o,ar,ma⟩:=c;subst har;have h2:=fR t.g (bD m) hs hl;unfold ze at hk;cases hb:bw [0,2] [a,m] with
 |true=>
  have h1:=λ{K:Out→H→Prop}=>dY (K:=K) ⟨im,now,t,tr,o,[a,m],ma⟩ s [0,2] (aQ _) hb;dsimp only at hk;rw [hb,cond_true] at hk
  by_cases hw:bS t.g (bD m)=0
  ·rw [hw] at h2;have hwb:(bS t.g (bD m)==0)=true:=by simp [hw]
   replace hk:OR.K (bif bS t.g (bD m)==0 then .ok (.out ⟨bD m,a⟩) λ_=>(⟨im,now,t,tr,o,[a,m],ma⟩,s) else .ex (bS t.g (bD m)) ⟨im,now,t,tr,o,[a,m],ma⟩ s) K:=hk
   rw [hwb,cond_true] at hk;refine s185.go (keep:=false) rfl ?_
   repeat' ((conv=>whnf);first | exact zf | refine zm ?_ | refine (.inr ?_:(∃_,_)∨_) | refine (h1 ?_) | refine zc h2 ?_ | refine (gf ?_) | refine ⟨_,⟨by omega,rfl,rfl⟩,?_⟩ | intro _)
   exact hk none
  ·have hwb:(bS t.g (bD m)==0)=false:=by simp [hw]
   replace hk:OR.K (bif bS t.g (bD m)==0 then .ok (.out ⟨bD m,a⟩) λ_=>(⟨im,now,t,tr,o,[a,m],ma⟩,s) else .ex (bS t.g (bD m)) ⟨im,now,t,tr,o,[a,m],ma⟩ s) K:=hk
   rw [hwb,cond_false] at hk;refine s185.go (keep:=false) rfl ?_
   repeat' ((conv=>whnf);first | exact zf | refine zm ?_ | refine (.inr ?_:(∃_,_)∨_) | refine (h1 ?_) | refine zc h2 ?_ | refine (ji _ hw ?_) | refine ⟨_,⟨by omega,rfl,rfl⟩,?_⟩ | intro _)
   exact hk
 |false=>
  have h1:=λ{K:Out→H→Prop}=>dZ (K:=K) ⟨im,now,t,tr,o,[a,m],ma⟩ s [0,2] (aQ _) hb;dsimp only at hk;rw [hb,cond_false] at hk;refine s185.go (keep:=false) rfl ?_
  repeat' ((conv=>whnf);first | exact zf | refine zm ?_ | refine (.inr ?_:(∃_,_)∨_) | refine (h1 ?_) | intro _)
  exact hk
def dF (s:bq) (h:Va):Option (Nat×Ob):=match cD h.nm s.th with
 |some (i,o)=>bif (o.k==h.k)&&((o.l.s==h.ls)&&(o.l.i==h.li)) then some (i,o) else none
 |none=>none
def lJ (s:bq) (h:Va):Ob:=((dF s h).map (·.2)).getD fO
def vS (s:bq) (nm:List UInt8):Prop:=∀i o,cD nm s.th=some (i,o)→o.va.q.length<100000000
theorem jd {K:Out→H→Prop} (c:Ca) (s:bq) (h:Va) (hqa:vS s h.nm) (hk:K (.ret (.tu [gH (lJ s h),.d (.bool (dF s h).isSome)])) (eN c s)):Sat Tryz.prog 243 [.p 0 0,j5 h] (eN c s) K:=by
 have hq:(iR s h.nm).va.q.length<100000000:=by
  unfold iR;cases hlk:cD h.nm s.th with
  |none=>simp [fO,zw]
  |some p=>exact hqa p.1 p.2 hlk
 have hg:=qZ (K:=λout hh=>out = .ret (.tu [gH (iR s h.nm),.d (.bool (mA s h.nm))])∧hh=kH s) s h.nm hq ⟨rfl,rfl⟩;unfold iR mA at hg;unfold lJ dF at hk;cases hlk:cD h.nm s.th with
 |none=>
  rw [hlk] at hg hk;refine s243.go (keep:=false) rfl ?_
  repeat' ((conv=>whnf);first | exact zf | refine (bo (bu ?_):eQ _ (eQ (kT _ _ _ _ 16 _ _ _ _ _ _ _) _)) | refine zm ?_ | refine ⟨_,_,hg,?_⟩ | refine zt ?_ | refine zu ?_ | intro _)
  exact hk
 |some p=>
  obtain ⟨i,o⟩:=p;rw [hlk] at hg hk;dsimp only [Option.map,Option.getD,Option.isSome] at hg;dsimp only at hk;cases hkk:o.k==h.k with
  |false=>
   rw [hkk] at hk;refine s243.go (keep:=false) rfl ?_
   repeat' ((conv=>whnf);first | exact zf | refine (bo (bu ?_):eQ _ (eQ (kT _ _ _ _ 16 _ _ _ _ _ _ _) _)) | refine zm ?_ | refine ⟨_,_,hg,?_⟩ | refine zt ?_ | refine zu ?_ | intro _)
   exact hk
  |true=>
   cases hll:(o.l.s==h.ls)&&(o.l.i==h.li) with
   |false=>
    rw [hkk,hll] at hk;have e2:(!(o.l.s==h.ls&&(o.l.i==h.li&&true)))=true:=by rw [de,hll];rfl
    refine s243.go (keep:=false) rfl ?_
    repeat' ((conv=>whnf);first | exact zf | refine (bo (bu ?_):eQ _ (eQ (kT _ _ _ _ 16 _ _ _ _ _ _ _) _)) | refine zm ?_ | refine ⟨_,_,hg,?_⟩ | refine (gZ e2 ?_) | refine zt ?_ | refine zu ?_ | intro _)
    exact hk
   |true=>
    rw [hkk,hll] at hk;have e2:(!(o.l.s==h.ls&&(o.l.i==h.li&&true)))=false:=by rw [de,hll];rfl
    refine s243.go (keep:=false) rfl ?_
    repeat' ((conv=>whnf);first | exact zf | refine (bo (bu ?_):eQ _ (eQ (kT _ _ _ _ 16 _ _ _ _ _ _ _) _)) | refine zm ?_ | refine ⟨_,_,hg,?_⟩ | refine (gr e2 ?_) | refine zt ?_ | refine zu ?_ | intro _)
    exact hk
def ll (c:Ca) (s:bq) (o:Ob):OR:=bif o.ex then .ex o.v.n c s else .ok .no λ_=>({ c with t:={ c.t with c:=jS c.t.c o.v } },s)
theorem BE {K:Out→H→Prop} (c:Ca) (s:bq) (o:Ob) (hl:c.t.c.st.length<1000000000) (hk:(ll c s o).K K):Sat Tryz.prog 239 [.p 0 0,gH o] (eN c s) K:=by
 obtain ⟨ok,ol,ov,oe,od,oq,of,om⟩:=o;unfold ll at hk;cases oe with
 |true=>
  replace hk:K (.ff (nQ ov.n)) (eN c s):=hk
  refine s239.go (keep:=false) rfl ?_
  repeat' ((conv=>whnf);first | exact zf | refine zm ?_ | refine (j8 _ ?_) | intro _)
  exact hk
 |false=>
  replace hk:K (.ret (.tu [])) (eN { c with t:={ c.t with c:=jS c.t.c ov } } s):=hk none
  have h1:=λ{K:Out→H→Prop}=>j1 (K:=K) c s ov hl;refine s239.go (keep:=false) rfl ?_
  repeat' ((conv=>whnf);first | exact zf | refine zm ?_ | refine (.inr ?_:(∃_,_)∨_) | refine (h1 ?_) | intro _)
  exact hk
def o_ (c:Ca) (s:bq) (h:Va) (go:Ca→bq→Ob→OR):OR:=
 bif dN c.t.g (bD h)==0 then (match dF s h with
  |some (_,o)=>go { c with t:={ c.t with g:=cu c.t.g (bD h) } } s o
  |none=>.ok .no λ_=>({ c with t:={ c.t with g:=cu c.t.g (bD h),c:=jS c.t.c (num 0) } },s)) else .ex (dN c.t.g (bD h)) c s
theorem FH {K:Out→H→Prop} (c:Ca) (s:bq) (h:Va) (hl:c.t.c.st.length<1000000000) (hs:jH c.t.g) (hlh:cO (bD h)) (hj:cO (dR c.t.g.cur (bD h))) (hqa:vS s h.nm) (hk:(o_ c s h ll).K K):Sat Tryz.prog 238 [.p 0 0,j5 h,.fc 1000239 [.p 0 0]] (eN c s) K:=by
 unfold o_ at hk
 by_cases he:dN c.t.g (bD h)=0
 ·have h1:=λ{K:Out→H→Prop}=>mK (K:=K) c s (bD h) hs hlh hj he;have h2:=λ{K:Out→H→Prop}=>jd (K:=K) { c with t:={ c.t with g:=cu c.t.g (bD h) } } s h hqa;rw [he] at hk;unfold lJ at h2;cases ht:dF s h with
  |none=>
   rw [ht] at h2 hk
   replace hk:K (.ret (.tu [])) (eN { c with t:={ c.t with g:=cu c.t.g (bD h),c:=jS c.t.c (num 0) } } s):=hk none
   have h3:=λ{K:Out→H→Prop}=>j1 (K:=K) { c with t:={ c.t with g:=cu c.t.g (bD h) } } s (num 0) hl;refine s238.go (keep:=false) rfl ?_
   repeat' ((conv=>whnf);first | exact zf | refine zm ?_ | refine (.inr ?_:(∃_,_)∨_) | refine (h1 ?_) | refine (h2 ?_) | refine (h3 ?_) | intro _)
   exact hk
  |some p=>
   obtain ⟨i,o⟩:=p;rw [ht] at h2 hk
   replace hk:(ll { c with t:={ c.t with g:=cu c.t.g (bD h) } } s o).K K:=hk
   have h3:=λ{K:Out→H→Prop}=>BE (K:=K) { c with t:={ c.t with g:=cu c.t.g (bD h) } } s o hl;generalize hR:ll { c with t:={ c.t with g:=cu c.t.g (bD h) } } s o=R at h3 hk;cases R with
   |ok e f=>
    cases e
    all_goals
     refine s238.go (keep:=false) rfl ?_
     repeat' ((conv=>whnf);first | exact zf | refine zm ?_ | refine (.inr ?_:(∃_,_)∨_) | refine (h1 ?_) | refine (h2 ?_) | refine (h3 (λb=>?_)) | intro _)
     exact hk _
   |ex n c' s'=>
    have h4:=λ{K:Out→H→Prop} (g:K (.ff (nQ n)) (eN c' s'))=>h3 (K:=K) g;refine s238.go (keep:=false) rfl ?_
    repeat' ((conv=>whnf);first | exact zf | refine zm ?_ | refine (.inr ?_:(∃_,_)∨_) | refine (h1 ?_) | refine (h2 ?_) | refine (h4 ?_) | intro _)
    exact hk
 ·have hb:(dN c.t.g (bD h)==0)=false:=by simp [he]
  rw [hb] at hk;have h1:=λ{K:Out→H→Prop}=>mL (K:=K) c s (bD h) hs hlh hj he;refine s238.go (keep:=false) rfl ?_
  repeat' ((conv=>whnf);first | exact zf | refine zm ?_ | refine (.inr ?_:(∃_,_)∨_) | refine (h1 ?_) | intro _)
  exact hk
def sB (c:Ca) (s:bq):OR:=bif bw [3] c.ar then o_ c s (c.ar[0]?.getD dT) ll else .ex (-1) c s
theorem B1 {K:Out→H→Prop} (c:Ca) (s:bq) (h:Va) (har:c.ar = [h]) (hl:c.t.c.st.length<1000000000) (hs:jH c.t.g) (hlh:cO (bD h)) (hj:cO (dR c.t.g.cur (bD h))) (hqa:vS s h.nm) (hk:(sB c s).K K):Sat Tryz.prog 175 [.p 0 0] (eN c s) K:=by
 obtain ⟨im,now,t,tr,o,ar,ma⟩:=c;subst har;have h2:=λ{K:Out→H→Prop}=>FH (K:=K) ⟨im,now,t,tr,o,[h],ma⟩ s h hl hs hlh hj hqa;unfold sB at hk;cases hb:bw [3] [h] with
 |true=>
  have h1:=λ{K:Out→H→Prop}=>dY (K:=K) ⟨im,now,t,tr,o,[h],ma⟩ s [3] (aQ _) hb;dsimp only at hk;rw [hb,cond_true] at hk
  replace hk:(o_ ⟨im,now,t,tr,o,[h],ma⟩ s h ll).K K:=hk
  generalize hR:o_ ⟨im,now,t,tr,o,[h],ma⟩ s h ll=R at h2 hk;cases R with
  |ok e f=>
   cases e
   all_goals
    refine s175.go (keep:=false) rfl ?_
    repeat' ((conv=>whnf);first | exact zf | refine zm ?_ | refine (.inr ?_:(∃_,_)∨_) | refine (h1 ?_) | refine (h2 (λb=>?_)) | refine ⟨_,⟨by omega,rfl,rfl⟩,?_⟩ | intro _)
    exact hk _
  |ex n c' s'=>
   have h3:=λ{K:Out→H→Prop} (g:K (.ff (nQ n)) (eN c' s'))=>h2 (K:=K) g;refine s175.go (keep:=false) rfl ?_
   repeat' ((conv=>whnf);first | exact zf | refine zm ?_ | refine (.inr ?_:(∃_,_)∨_) | refine (h1 ?_) | refine (h3 ?_) | refine ⟨_,⟨by omega,rfl,rfl⟩,?_⟩ | intro _)
   exact hk
 |false=>
  have h1:=λ{K:Out→H→Prop}=>dZ (K:=K) ⟨im,now,t,tr,o,[h],ma⟩ s [3] (aQ _) hb;dsimp only at hk;rw [hb,cond_false] at hk;refine s175.go (keep:=false) rfl ?_
  repeat' ((conv=>whnf);first | exact zf | refine zm ?_ | refine (.inr ?_:(∃_,_)∨_) | refine (h1 ?_) | intro _)
  exact hk
end Go.Proofs.YtjpgfgajkjhonaaGreatDoor
namespace Go.Proofs.YtjpgfgajkjhonaaGreatDoor
open Go.Vx
set_option maxRecDepth 100000
def lR (c:Ca) (v:Va):Ca:={ c with t:={ c.t with c:=jS c.t.c v } }
def Nz (c:Ca) (s:bq):OR:=.ok .no λ_=>(lR c ⟨2,0,[],c.t.g.cur.s,c.t.g.cur.i⟩,s)
def PC (c:Ca) (s:bq):OR:=.ok .no λ_=>(lR c ⟨2,0,[],c.t.g.eo.s,c.t.g.eo.i⟩,s)
theorem N_ {K:Out→H→Prop} (c:Ca) (s:bq) (hl:c.t.c.st.length<1000000000) (hk:(Nz c s).K K):Sat Tryz.prog 170 [.p 0 0] (eN c s) K:=by
 have h1:=λ{K:Out→H→Prop}=>Bi (K:=K) c s c.t.g.cur hl;refine s170.go (keep:=false) rfl ?_
 repeat' ((conv=>whnf);first | exact zf | refine zm ?_ | refine (.inr ?_:(∃_,_)∨_) | refine (h1 ?_) | intro _)
 exact hk none
theorem PD {K:Out→H→Prop} (c:Ca) (s:bq) (hl:c.t.c.st.length<1000000000) (hk:(PC c s).K K):Sat Tryz.prog 171 [.p 0 0] (eN c s) K:=by
 have h1:=λ{K:Out→H→Prop}=>Bi (K:=K) c s c.t.g.eo hl;refine s171.go (keep:=false) rfl ?_
 repeat' ((conv=>whnf);first | exact zf | refine zm ?_ | refine (.inr ?_:(∃_,_)∨_) | refine (h1 ?_) | intro _)
 exact hk none
def vz (c:Ca) (s:bq):OR:=bif bw [2] c.ar then
 (bif jK c.t.g (bD (c.ar[0]?.getD dT))==0 then .ok .no λ_=>({ c with t:={ c.t with g:=sH c.t.g (bD (c.ar[0]?.getD dT)) } },s) else .ex (jK c.t.g (bD (c.ar[0]?.getD dT))) c s) else .ex (-1) c s
theorem Fo {K:Out→H→Prop} (c:Ca) (s:bq) (m:Va) (har:c.ar = [m]) (hs:jH c.t.g) (hl:cO (bD m)) (hk:(vz c s).K K):Sat Tryz.prog 173 [.p 0 0] (eN c s) K:=by
 obtain ⟨im,now,t,tr,o,ar,ma⟩:=c;subst har;have h2:=Fm t.g (bD m) hs hl;unfold vz at hk;cases hb:bw [2] [m] with
 |true=>
  have h1:=λ{K:Out→H→Prop}=>dY (K:=K) ⟨im,now,t,tr,o,[m],ma⟩ s [2] (aQ _) hb;dsimp only at hk;rw [hb,cond_true] at hk
  replace hk:OR.K (bif jK t.g (bD m)==0 then .ok .no λ_=>(⟨im,now,{ t with g:=sH t.g (bD m) },tr,o,[m],ma⟩,s) else .ex (jK t.g (bD m)) ⟨im,now,t,tr,o,[m],ma⟩ s) K:=hk
  by_cases hw:jK t.g (bD m)=0
  ·rw [show (jK t.g (bD m)==0)=true by simp [hw],cond_true] at hk;rw [hw] at h2;refine s173.go (keep:=false) rfl ?_
   repeat' ((conv=>whnf);first | exact zf | refine zm ?_ | refine (.inr ?_:(∃_,_)∨_) | refine (h1 ?_) | refine zc h2 ?_ | refine (gf ?_) | refine ⟨_,⟨by omega,rfl,rfl⟩,?_⟩ | intro _)
   exact hk none
  ·rw [show (jK t.g (bD m)==0)=false by simp [hw],cond_false] at hk;refine s173.go (keep:=false) rfl ?_
   repeat' ((conv=>whnf);first | exact zf | refine zm ?_ | refine (.inr ?_:(∃_,_)∨_) | refine (h1 ?_) | refine zc h2 ?_ | refine (ji _ hw ?_) | refine ⟨_,⟨by omega,rfl,rfl⟩,?_⟩ | intro _)
   exact hk
 |false=>
  have h1:=λ{K:Out→H→Prop}=>dZ (K:=K) ⟨im,now,t,tr,o,[m],ma⟩ s [2] (aQ _) hb;dsimp only at hk;rw [hb,cond_false] at hk;refine s173.go (keep:=false) rfl ?_
  repeat' ((conv=>whnf);first | exact zf | refine zm ?_ | refine (.inr ?_:(∃_,_)∨_) | refine (h1 ?_) | intro _)
  exact hk
def AG (c:Ca) (f to:Lb) (b:Bool):Fx:=bif b then .log ⟨c.o.c,f,to,c.ma⟩ else .no
theorem Ft {K:Out→H→Prop} (c:Ca) (s:bq) (g:Gs) (f to:Lb) (b:Bool) (hk:K (.ret (.tu [])) (Ks { c with t:={ c.t with g:=g } } (AG c f to b) false s)):Sat Tryz.prog 256 [.p 0 0,EN g,jU f,jU to,.d (.bool b)] (eN c s) K:=by
 cases b with
 |true=>
  refine s256.go (keep:=false) rfl ?_
  repeat' ((conv=>whnf);first | exact zf | refine zm ?_ | refine zt ?_ | refine zu ?_ | intro _)
  exact hk
 |false=>
  refine s256.go (keep:=false) rfl ?_
  repeat' ((conv=>whnf);first | exact zf | refine zm ?_ | refine zt ?_ | refine zu ?_ | intro _)
  exact hk
def CC (c:Ca) (s:bq):OR:=bif bw [2] c.ar then
 (bif lE c.t.g (bD (c.ar[0]?.getD dT)) c.ma==0 then .ok (AG c c.t.g.cur (bD (c.ar[0]?.getD dT)) (su c.t.g (bD (c.ar[0]?.getD dT)) c.ma)) λ_=>({ c with t:={ c.t with g:=ux c.t.g (bD (c.ar[0]?.getD dT)) c.ma } },s) else .ex (lE c.t.g (bD (c.ar[0]?.getD dT)) c.ma) c s) else .ex (-1) c s
theorem K6 {K:Out→H→Prop} (c:Ca) (s:bq) (m:Va) (har:c.ar = [m]) (hs:jH c.t.g) (hl:cO (bD m)) (hk:(CC c s).K K):Sat Tryz.prog 186 [.p 0 0] (eN c s) K:=by
 obtain ⟨im,now,t,tr,o,ar,ma⟩:=c;subst har;have h2:=K5 t.g (bD m) ma hs hl;unfold CC at hk;cases hb:bw [2] [m] with
 |true=>
  have h1:=λ{K:Out→H→Prop}=>dY (K:=K) ⟨im,now,t,tr,o,[m],ma⟩ s [2] (aQ _) hb;dsimp only at hk;rw [hb,cond_true] at hk
  replace hk:OR.K (bif lE t.g (bD m) ma==0 then .ok (AG ⟨im,now,t,tr,o,[m],ma⟩ t.g.cur (bD m) (su t.g (bD m) ma)) λ_=>(⟨im,now,{ t with g:=ux t.g (bD m) ma },tr,o,[m],ma⟩,s) else .ex (lE t.g (bD m) ma) ⟨im,now,t,tr,o,[m],ma⟩ s) K:=hk
  by_cases hw:lE t.g (bD m) ma=0
  ·rw [show (lE t.g (bD m) ma==0)=true by simp [hw],cond_true] at hk;have h3:=λ{K:Out→H→Prop}=>Ft (K:=K) ⟨im,now,t,tr,o,[m],ma⟩ s (ux t.g (bD m) ma) t.g.cur (bD m) (su t.g (bD m) ma);rw [hw] at h2
   replace hk:=hk none
   cases hL:su t.g (bD m) ma
   all_goals
    rw [hL] at h2 h3 hk;refine s186.go (keep:=false) rfl ?_
    repeat' ((conv=>whnf);first | exact zf | refine zm ?_ | refine (.inr ?_:(∃_,_)∨_) | refine (h1 ?_) | refine zc h2 ?_ | refine (gf ?_) | refine (h3 ?_) | refine ⟨_,⟨by omega,rfl,rfl⟩,?_⟩ | intro _)
    exact hk
  ·rw [show (lE t.g (bD m) ma==0)=false by simp [hw],cond_false] at hk;refine s186.go (keep:=false) rfl ?_
   repeat' ((conv=>whnf);first | exact zf | refine zm ?_ | refine (.inr ?_:(∃_,_)∨_) | refine (h1 ?_) | refine zc h2 ?_ | refine (ji _ hw ?_) | refine ⟨_,⟨by omega,rfl,rfl⟩,?_⟩ | intro _)
   exact hk
 |false=>
  have h1:=λ{K:Out→H→Prop}=>dZ (K:=K) ⟨im,now,t,tr,o,[m],ma⟩ s [2] (aQ _) hb;dsimp only at hk;rw [hb,cond_false] at hk;refine s186.go (keep:=false) rfl ?_
  repeat' ((conv=>whnf);first | exact zf | refine zm ?_ | refine (.inr ?_:(∃_,_)∨_) | refine (h1 ?_) | intro _)
  exact hk
def Bm (c:Ca) (s:bq):OR:=bif bw [2] c.ar then
 (bif kz c.t.g (bD (c.ar[0]?.getD dT)) c.ma==0 then .ok (AG c c.t.g.eo (bD (c.ar[0]?.getD dT)) (sK c.t.g (bD (c.ar[0]?.getD dT)) c.ma)) λ_=>({ c with t:={ c.t with g:=ue c.t.g (bD (c.ar[0]?.getD dT)) c.ma } },s) else .ex (kz c.t.g (bD (c.ar[0]?.getD dT)) c.ma) c s) else .ex (-1) c s
theorem Jz {K:Out→H→Prop} (c:Ca) (s:bq) (m:Va) (har:c.ar = [m]) (hs:jH c.t.g) (hl:cO (bD m)) (hk:(Bm c s).K K):Sat Tryz.prog 187 [.p 0 0] (eN c s) K:=by
 obtain ⟨im,now,t,tr,o,ar,ma⟩:=c;subst har;have h2:=Jy t.g (bD m) ma hs hl;unfold Bm at hk;cases hb:bw [2] [m] with
 |true=>
  have h1:=λ{K:Out→H→Prop}=>dY (K:=K) ⟨im,now,t,tr,o,[m],ma⟩ s [2] (aQ _) hb;dsimp only at hk;rw [hb,cond_true] at hk
  replace hk:OR.K (bif kz t.g (bD m) ma==0 then .ok (AG ⟨im,now,t,tr,o,[m],ma⟩ t.g.eo (bD m) (sK t.g (bD m) ma)) λ_=>(⟨im,now,{ t with g:=ue t.g (bD m) ma },tr,o,[m],ma⟩,s) else .ex (kz t.g (bD m) ma) ⟨im,now,t,tr,o,[m],ma⟩ s) K:=hk
  by_cases hw:kz t.g (bD m) ma=0
  ·rw [show (kz t.g (bD m) ma==0)=true by simp [hw],cond_true] at hk;have h3:=λ{K:Out→H→Prop}=>Ft (K:=K) ⟨im,now,t,tr,o,[m],ma⟩ s (ue t.g (bD m) ma) t.g.eo (bD m) (sK t.g (bD m) ma);rw [hw] at h2
   replace hk:=hk none
   cases hL:sK t.g (bD m) ma
   all_goals
    rw [hL] at h2 h3 hk;refine s187.go (keep:=false) rfl ?_
    repeat' ((conv=>whnf);first | exact zf | refine zm ?_ | refine (.inr ?_:(∃_,_)∨_) | refine (h1 ?_) | refine zc h2 ?_ | refine (gf ?_) | refine (h3 ?_) | refine ⟨_,⟨by omega,rfl,rfl⟩,?_⟩ | intro _)
    exact hk
  ·rw [show (kz t.g (bD m) ma==0)=false by simp [hw],cond_false] at hk;refine s187.go (keep:=false) rfl ?_
   repeat' ((conv=>whnf);first | exact zf | refine zm ?_ | refine (.inr ?_:(∃_,_)∨_) | refine (h1 ?_) | refine zc h2 ?_ | refine (ji _ hw ?_) | refine ⟨_,⟨by omega,rfl,rfl⟩,?_⟩ | intro _)
   exact hk
 |false=>
  have h1:=λ{K:Out→H→Prop}=>dZ (K:=K) ⟨im,now,t,tr,o,[m],ma⟩ s [2] (aQ _) hb;dsimp only at hk;rw [hb,cond_false] at hk;refine s187.go (keep:=false) rfl ?_
  repeat' ((conv=>whnf);first | exact zf | refine zm ?_ | refine (.inr ?_:(∃_,_)∨_) | refine (h1 ?_) | intro _)
  exact hk
def p9 (c:Ca) (s:bq):OR:=bif bw [4,0] c.ar then
 (bif bS c.t.g (bD (c.ar[0]?.getD dT))==0 then (match dF s (c.ar[0]?.getD dT) with
  |some (i,o)=>.ok .no λ_=>(c,kS s i (c.ar[0]?.getD dT).nm { o with v:=c.ar[1]?.getD dT })
  |none=>.ok .no λ_=>(c,s)) else .ex (bS c.t.g (bD (c.ar[0]?.getD dT))) c s) else .ex (-1) c s
theorem mJ {s:bq} {h:Va} {i:Nat} {o:Ob} (ht:dF s h=some (i,o)):cD h.nm s.th=some (i,o):=by
 unfold dF at ht;cases hl:cD h.nm s.th with
 |none=>rw [hl] at ht;cases ht
 |some p=>
  rw [hl] at ht;dsimp only at ht;cases hb:(p.2.k==h.k)&&((p.2.l.s==h.ls)&&(p.2.l.i==h.li)) with
  |true=>rw [hb] at ht;cases ht;rfl
  |false=>rw [hb] at ht;cases ht
theorem w_ {K:Out→H→Prop} (c:Ca) (s:bq) (h v:Va) (har:c.ar = [h,v]) (hs:jH c.t.g) (hl:cO (bD h)) (hqa:vS s h.nm) (hk:(p9 c s).K K):Sat Tryz.prog 178 [.p 0 0] (eN c s) K:=by
 obtain ⟨im,now,t,tr,o,ar,ma⟩:=c;subst har;have h2:=fR t.g (bD h) hs hl;have h4:=λ{K:Out→H→Prop}=>jd (K:=K) ⟨im,now,t,tr,o,[h,v],ma⟩ s h hqa;unfold p9 at hk;cases hb:bw [4,0] [h,v] with
 |true=>
  have h1:=λ{K:Out→H→Prop}=>dY (K:=K) ⟨im,now,t,tr,o,[h,v],ma⟩ s [4,0] (aQ _) hb;dsimp only at hk;rw [hb,cond_true] at hk
  replace hk:OR.K (bif bS t.g (bD h)==0 then (match dF s h with
   |some (i,ob)=>.ok .no λ_=>(⟨im,now,t,tr,o,[h,v],ma⟩,kS s i h.nm { ob with v:=v })
   |none=>.ok .no λ_=>(⟨im,now,t,tr,o,[h,v],ma⟩,s)) else .ex (bS t.g (bD h)) ⟨im,now,t,tr,o,[h,v],ma⟩ s) K:=hk
  by_cases hw:bS t.g (bD h)=0
  ·rw [show (bS t.g (bD h)==0)=true by simp [hw],cond_true] at hk;rw [hw] at h2;unfold lJ at h4;cases ht:dF s h with
   |none=>
    rw [ht] at h4 hk;refine s178.go (keep:=false) rfl ?_
    repeat' ((conv=>whnf);first | exact zf | refine zm ?_ | refine (.inr ?_:(∃_,_)∨_) | refine (h1 ?_) | refine zc h2 ?_ | refine (gf ?_) | refine (h4 ?_) | refine ⟨_,⟨by omega,rfl,rfl⟩,?_⟩ | intro _)
    exact hk none
   |some p=>
    obtain ⟨i,ob⟩:=p;rw [ht] at h4 hk;have hlk:=mJ ht;have h5:=λ{K:Out→H→Prop}=>lN (K:=K) s h.nm i { ob with v:=v } ob hlk rfl rfl (hqa i ob hlk);refine s178.go (keep:=false) rfl ?_
    repeat' ((conv=>whnf);first | exact zf | refine zm ?_ | refine (.inr ?_:(∃_,_)∨_) | refine (h1 ?_) | refine zc h2 ?_ | refine (gf ?_) | refine (h4 ?_) | refine ⟨_,⟨by omega,rfl,rfl⟩,?_⟩ | refine (h5 ?_) | intro _)
    exact hk none
  ·rw [show (bS t.g (bD h)==0)=false by simp [hw],cond_false] at hk;refine s178.go (keep:=false) rfl ?_
   repeat' ((conv=>whnf);first | exact zf | refine zm ?_ | refine (.inr ?_:(∃_,_)∨_) | refine (h1 ?_) | refine zc h2 ?_ | refine (ji _ hw ?_) | refine ⟨_,⟨by omega,rfl,rfl⟩,?_⟩ | intro _)
   exact hk
 |false=>
  have h1:=λ{K:Out→H→Prop}=>dZ (K:=K) ⟨im,now,t,tr,o,[h,v],ma⟩ s [4,0] (aQ _) hb;dsimp only at hk;rw [hb,cond_false] at hk;refine s178.go (keep:=false) rfl ?_
  repeat' ((conv=>whnf);first | exact zf | refine zm ?_ | refine (.inr ?_:(∃_,_)∨_) | refine (h1 ?_) | intro _)
  exact hk
end Go.Proofs.YtjpgfgajkjhonaaGreatDoor
namespace Go.Proofs.YtjpgfgajkjhonaaGreatDoor
open Go.Vx
set_option maxRecDepth 100000
inductive RQ where
  |ok (c:Ca) (s:bq)
  |ex (n:Int) (c:Ca) (s:bq)
def Dy (c:Ca) (s:bq):H:=[.cells [.p 1 0],.cells (kO c [.nl 20,.nl 7,.nl 6,.nl 2,.d (.bool false)] (.d (.sl 5 (c.ar.map cE))) 2),.cells [.mp 3,.mp 4],.dm (qw s.th),.ms 1 (qT s.nm) none none]
def CK (c:Ca) (s:bq):H:=[.cells (kO c [.nl 20,.nl 7,.nl 6,.nl 2,.d (.bool false)] (.d (.sl 5 (c.ar.map cE))) 1),.cells [.mp 2,.mp 3],.dm (qw s.th),.ms 1 (qT s.nm) none none,.cells [.p 0 0]]
def RQ.Kb (r:RQ) (K:Out→H→Prop):Prop:=match r with
 |.ok c s=>K (.ret (.tu [])) (Dy c s)
 |.ex n c s=>K (.ff (nQ n)) (Dy c s)
def RQ.Kt (r:RQ) (K:Out→H→Prop):Prop:=match r with
 |.ok c s=>K (.ret (.tu [])) (CK c s)
 |.ex n c s=>K (.ff (nQ n)) (CK c s)
def RQ.or (r:RQ):OR:=match r with
 |.ok c s=>.ok .no λ_=>(c,s)
 |.ex n c s=>.ex n c s
def gw (c:Ca) (s:bq) (h:Va) (go:Ca→bq→Ob→RQ):RQ:=
 bif dN c.t.g (bD h)==0 then (match dF s h with
  |some (_,o)=>go { c with t:={ c.t with g:=cu c.t.g (bD h) } } s o
  |none=>.ok { c with t:={ c.t with g:=cu c.t.g (bD h),c:=jS c.t.c (num 0) } } s) else .ex (dN c.t.g (bD h)) c s
def ry (c:Ca) (s:bq) (o:Ob):RQ:=.ok (lR c o.v) s
theorem z6 {K:Out→H→Prop} (c:Ca) (s:bq) (o:Ob) (hl:c.t.c.st.length<1000000000) (hk:(ry c s o).Kb K):Sat Tryz.prog 240 [gH o,.p 0 0] (Dy c s) K:=by
 have h1:=λ{K:Out→H→Prop}=>j1 (K:=K) c s o.v hl;refine s240.go (keep:=false) rfl ?_
 repeat' ((conv=>whnf);first | exact zf | refine zm ?_ | refine (.inr ?_:(∃_,_)∨_) | refine (h1 ?_) | intro _)
 exact hk
def kP (c:Ca) (nm:List UInt8):Ca:={ c with t:={ c.t with st:=1,on:=nm } }
theorem mG {K:Out→H→Prop} (c:Ca) (s:bq) (nm:List UInt8) (hk:K (.ret (.tu [])) (eN (kP c nm) s)):Sat Tryz.prog 245 [.p 0 0,.d (.str nm)] (eN c s) K:=by
 refine s245.go (keep:=false) rfl ?_
 repeat' ((conv=>whnf);first | exact zf | refine zm ?_ | intro _)
 exact hk
def mH (c:Ca) (s:bq) (o:Ob):RQ:=bif o.dn then (bif o.ex then .ex o.v.n c s else .ok (lR c o.v) s) else .ok (kP c (c.ar[0]?.getD dT).nm) s
theorem Hy {K:Out→H→Prop} (c:Ca) (s:bq) (o:Ob) (h:Va) (har:c.ar = [h]) (hl:c.t.c.st.length<1000000000) (hk:(mH c s o).Kb K):Sat Tryz.prog 253 [gH o,.p 0 0] (Dy c s) K:=by
 obtain ⟨im,now,t,tr,op,ar,ma⟩:=c;subst har;obtain ⟨k,l,v,ex,dn,va,fu,m⟩:=o;unfold mH at hk;cases dn with
 |true=>
  have h1:=λ{K:Out→H→Prop}=>BE (K:=K) ⟨im,now,t,tr,op,[h],ma⟩ s ⟨k,l,v,ex,true,va,fu,m⟩ hl;cases ex with
  |true=>
   have h2:=λ{K:Out→H→Prop} (g:K (.ff (nQ v.n)) (eN ⟨im,now,t,tr,op,[h],ma⟩ s))=>h1 (K:=K) g;refine s253.go (keep:=false) rfl ?_
   repeat' ((conv=>whnf);first | exact zf | refine zm ?_ | refine (.inr ?_:(∃_,_)∨_) | refine (h2 ?_) | refine zt ?_ | refine zu ?_ | intro _)
   exact hk
  |false=>
   have h2:=λ{K:Out→H→Prop} (g:K (.ret (.tu [])) (eN (lR ⟨im,now,t,tr,op,[h],ma⟩ v) s))=>h1 (K:=K) λ_=>g;refine s253.go (keep:=false) rfl ?_
   repeat' ((conv=>whnf);first | exact zf | refine zm ?_ | refine (.inr ?_:(∃_,_)∨_) | refine (h2 ?_) | refine zt ?_ | refine zu ?_ | intro _)
   exact hk
 |false=>
  have h1:=λ{K:Out→H→Prop}=>mG (K:=K) ⟨im,now,t,tr,op,[h],ma⟩ s h.nm;refine s253.go (keep:=false) rfl ?_
  repeat' ((conv=>whnf);first | exact zf | refine zm ?_ | refine (.inr ?_:(∃_,_)∨_) | refine (h1 ?_) | refine ⟨_,⟨by omega,rfl,rfl⟩,?_⟩ | refine zt ?_ | refine zu ?_ | intro _)
  exact hk
def gM (im:Im) (f:Int):Int:=bif decide (f<0)||decide ((im.fs.length:Int)≤f) then 0 else ((im.fs[f.toNat]?).map (·.vars)).getD 0
theorem vH {K:Out→H→Prop} (c:Ca) (s:bq) (f:Int) (hk:K (.ret (.d (.int .i64 (gM c.im f)))) (eN c s)):Sat Tryz.prog 251 [.p 0 0,.d (.int .i64 f)] (eN c s) K:=by
 have hml:(c.im.fs.map db).length=c.im.fs.length:=aK _;unfold gM at hk
 by_cases h0:f<0
 ·rw [decide_eq_true h0,Bool.true_or,cond_true] at hk;refine s251.go (keep:=false) rfl ?_
  repeat' ((conv=>whnf);first | exact zf | refine zm ?_ | refine zt ?_ | refine zu ?_ | intro _)
  exact hk
 ·by_cases h1:(c.im.fs.length:Int)≤f
  ·rw [decide_eq_true h1,Bool.or_true,cond_true] at hk;refine s251.go (keep:=false) rfl ?_
   repeat' ((conv=>whnf);first | exact zf | refine zm ?_ | refine zt ?_ | refine zu ?_ | intro _)
   exact hk
  ·rw [decide_eq_false h0,decide_eq_false h1] at hk;obtain ⟨g,hg⟩:∃g,c.im.fs[f.toNat]? = some g:=⟨_,aB (by omega)⟩
   rw [hg] at hk;refine s251.go (keep:=false) rfl ?_
   repeat' ((conv=>whnf);first | exact zf | refine zm ?_ | refine ⟨db g,⟨by omega,by rw [aC,hg];rfl,rfl⟩,?_⟩ | refine zt ?_ | refine zu ?_ | intro _)
   exact hk
theorem FJ {K:Out→H→Prop} (c:Ca) (s:bq) (h:Va) (hl:c.t.c.st.length<1000000000) (hs:jH c.t.g) (hlh:cO (bD h)) (hj:cO (dR c.t.g.cur (bD h))) (hqa:vS s h.nm) (hk:(gw c s h ry).Kt K):Sat Tryz.prog 238 [.p 0 0,j5 h,.fc 240 [.p 4 0]] (CK c s) K:=by
 unfold gw at hk
 by_cases he:dN c.t.g (bD h)=0
 ·have h1:=λ{K:Out→H→Prop}=>mK (K:=K) c s (bD h) hs hlh hj he;have h2:=λ{K:Out→H→Prop}=>jd (K:=K) { c with t:={ c.t with g:=cu c.t.g (bD h) } } s h hqa;rw [he] at hk;unfold lJ at h2;cases ht:dF s h with
  |none=>
   rw [ht] at h2 hk
   replace hk:K (.ret (.tu [])) (CK { c with t:={ c.t with g:=cu c.t.g (bD h),c:=jS c.t.c (num 0) } } s):=hk
   have h3:=λ{K:Out→H→Prop}=>j1 (K:=K) { c with t:={ c.t with g:=cu c.t.g (bD h) } } s (num 0) hl;refine s238.go (keep:=false) rfl ?_
   repeat' ((conv=>whnf);first | exact zf | refine zm ?_ | refine (.inr ?_:(∃_,_)∨_) | refine (h1 ?_) | refine (h2 ?_) | refine (h3 ?_) | intro _)
   exact hk
  |some p=>
   obtain ⟨i,o⟩:=p;rw [ht] at h2 hk
   replace hk:(ry { c with t:={ c.t with g:=cu c.t.g (bD h) } } s o).Kt K:=hk
   have h3:=λ{K:Out→H→Prop}=>z6 (K:=K) { c with t:={ c.t with g:=cu c.t.g (bD h) } } s o hl;generalize hR:ry { c with t:={ c.t with g:=cu c.t.g (bD h) } } s o=R at h3 hk;cases R with
   |ok c' s'=>
    have h4:=λ{K:Out→H→Prop} (g:K (.ret (.tu [])) (Dy c' s'))=>h3 (K:=K) g;refine s238.go (keep:=false) rfl ?_
    repeat' ((conv=>whnf);first | exact zf | refine zm ?_ | refine (.inr ?_:(∃_,_)∨_) | refine (h1 ?_) | refine (h2 ?_) | refine (h4 ?_) | intro _)
    exact hk
   |ex n c' s'=>
    have h4:=λ{K:Out→H→Prop} (g:K (.ff (nQ n)) (Dy c' s'))=>h3 (K:=K) g;refine s238.go (keep:=false) rfl ?_
    repeat' ((conv=>whnf);first | exact zf | refine zm ?_ | refine (.inr ?_:(∃_,_)∨_) | refine (h1 ?_) | refine (h2 ?_) | refine (h4 ?_) | intro _)
    exact hk
 ·have hb:(dN c.t.g (bD h)==0)=false:=by simp [he]
  rw [hb] at hk;have h1:=λ{K:Out→H→Prop}=>mL (K:=K) c s (bD h) hs hlh hj he;refine s238.go (keep:=false) rfl ?_
  repeat' ((conv=>whnf);first | exact zf | refine zm ?_ | refine (.inr ?_:(∃_,_)∨_) | refine (h1 ?_) | intro _)
  exact hk
theorem FG {K:Out→H→Prop} (c:Ca) (s:bq) (h:Va) (har:c.ar = [h]) (hl:c.t.c.st.length<1000000000) (hs:jH c.t.g) (hlh:cO (bD h)) (hj:cO (dR c.t.g.cur (bD h))) (hqa:vS s h.nm) (hk:(gw c s h mH).Kt K):Sat Tryz.prog 238 [.p 0 0,j5 h,.fc 253 [.p 4 0]] (CK c s) K:=by
 unfold gw at hk
 by_cases he:dN c.t.g (bD h)=0
 ·have h1:=λ{K:Out→H→Prop}=>mK (K:=K) c s (bD h) hs hlh hj he;have h2:=λ{K:Out→H→Prop}=>jd (K:=K) { c with t:={ c.t with g:=cu c.t.g (bD h) } } s h hqa;rw [he] at hk;unfold lJ at h2;cases ht:dF s h with
  |none=>
   rw [ht] at h2 hk
   replace hk:K (.ret (.tu [])) (CK { c with t:={ c.t with g:=cu c.t.g (bD h),c:=jS c.t.c (num 0) } } s):=hk
   have h3:=λ{K:Out→H→Prop}=>j1 (K:=K) { c with t:={ c.t with g:=cu c.t.g (bD h) } } s (num 0) hl;refine s238.go (keep:=false) rfl ?_
   repeat' ((conv=>whnf);first | exact zf | refine zm ?_ | refine (.inr ?_:(∃_,_)∨_) | refine (h1 ?_) | refine (h2 ?_) | refine (h3 ?_) | intro _)
   exact hk
  |some p=>
   obtain ⟨i,o⟩:=p;rw [ht] at h2 hk
   replace hk:(mH { c with t:={ c.t with g:=cu c.t.g (bD h) } } s o).Kt K:=hk
   have h3:=λ{K:Out→H→Prop}=>Hy (K:=K) { c with t:={ c.t with g:=cu c.t.g (bD h) } } s o h har hl;generalize hR:mH { c with t:={ c.t with g:=cu c.t.g (bD h) } } s o=R at h3 hk;cases R with
   |ok c' s'=>
    have h4:=λ{K:Out→H→Prop} (g:K (.ret (.tu [])) (Dy c' s'))=>h3 (K:=K) g;refine s238.go (keep:=false) rfl ?_
    repeat' ((conv=>whnf);first | exact zf | refine zm ?_ | refine (.inr ?_:(∃_,_)∨_) | refine (h1 ?_) | refine (h2 ?_) | refine (h4 ?_) | intro _)
    exact hk
   |ex n c' s'=>
    have h4:=λ{K:Out→H→Prop} (g:K (.ff (nQ n)) (Dy c' s'))=>h3 (K:=K) g;refine s238.go (keep:=false) rfl ?_
    repeat' ((conv=>whnf);first | exact zf | refine zm ?_ | refine (.inr ?_:(∃_,_)∨_) | refine (h1 ?_) | refine (h2 ?_) | refine (h4 ?_) | intro _)
    exact hk
 ·have hb:(dN c.t.g (bD h)==0)=false:=by simp [he]
  rw [hb] at hk;have h1:=λ{K:Out→H→Prop}=>mL (K:=K) c s (bD h) hs hlh hj he;refine s238.go (keep:=false) rfl ?_
  repeat' ((conv=>whnf);first | exact zf | refine zm ?_ | refine (.inr ?_:(∃_,_)∨_) | refine (h1 ?_) | intro _)
  exact hk
def ou (c:Ca) (s:bq):OR:=bif bw [4] c.ar then (gw c s (c.ar[0]?.getD dT) ry).or else .ex (-1) c s
theorem z7 {K:Out→H→Prop} (c:Ca) (s:bq) (h:Va) (har:c.ar = [h]) (hl:c.t.c.st.length<1000000000) (hs:jH c.t.g) (hlh:cO (bD h)) (hj:cO (dR c.t.g.cur (bD h))) (hqa:vS s h.nm) (hk:(ou c s).K K):Sat Tryz.prog 177 [.p 0 0] (eN c s) K:=by
 obtain ⟨im,now,t,tr,o,ar,ma⟩:=c;subst har;have h2:=λ{K:Out→H→Prop}=>FJ (K:=K) ⟨im,now,t,tr,o,[h],ma⟩ s h hl hs hlh hj hqa;unfold ou at hk;cases hb:bw [4] [h] with
 |true=>
  have h1:=λ{K:Out→H→Prop}=>dY (K:=K) ⟨im,now,t,tr,o,[h],ma⟩ s [4] (aQ _) hb;dsimp only at hk;rw [hb,cond_true] at hk
  replace hk:(gw ⟨im,now,t,tr,o,[h],ma⟩ s h ry).or.K K:=hk
  generalize hR:gw ⟨im,now,t,tr,o,[h],ma⟩ s h ry=R at h2 hk;cases R with
  |ok c' s'=>
   have h3:=λ{K:Out→H→Prop} (g:K (.ret (.tu [])) (CK c' s'))=>h2 (K:=K) g;refine s177.go (keep:=false) rfl ?_
   repeat' ((conv=>whnf);first | exact zf | refine zm ?_ | refine (.inr ?_:(∃_,_)∨_) | refine (h1 ?_) | refine (h3 ?_) | refine ⟨_,⟨by omega,rfl,rfl⟩,?_⟩ | intro _)
   exact hk none
  |ex n c' s'=>
   have h3:=λ{K:Out→H→Prop} (g:K (.ff (nQ n)) (CK c' s'))=>h2 (K:=K) g;refine s177.go (keep:=false) rfl ?_
   repeat' ((conv=>whnf);first | exact zf | refine zm ?_ | refine (.inr ?_:(∃_,_)∨_) | refine (h1 ?_) | refine (h3 ?_) | refine ⟨_,⟨by omega,rfl,rfl⟩,?_⟩ | intro _)
   exact hk
 |false=>
  have h1:=λ{K:Out→H→Prop}=>dZ (K:=K) ⟨im,now,t,tr,o,[h],ma⟩ s [4] (aQ _) hb;dsimp only at hk;rw [hb,cond_false] at hk;refine s177.go (keep:=false) rfl ?_
  repeat' ((conv=>whnf);first | exact zf | refine zm ?_ | refine (.inr ?_:(∃_,_)∨_) | refine (h1 ?_) | intro _)
  exact hk
def BB (c:Ca) (s:bq):OR:=bif bw [6] c.ar then (gw c s (c.ar[0]?.getD dT) mH).or else .ex (-1) c s
theorem Hz {K:Out→H→Prop} (c:Ca) (s:bq) (h:Va) (har:c.ar = [h]) (hl:c.t.c.st.length<1000000000) (hs:jH c.t.g) (hlh:cO (bD h)) (hj:cO (dR c.t.g.cur (bD h))) (hqa:vS s h.nm) (hk:(BB c s).K K):Sat Tryz.prog 183 [.p 0 0] (eN c s) K:=by
 obtain ⟨im,now,t,tr,o,ar,ma⟩:=c;subst har;have h2:=λ{K:Out→H→Prop}=>FG (K:=K) ⟨im,now,t,tr,o,[h],ma⟩ s h rfl hl hs hlh hj hqa;unfold BB at hk;cases hb:bw [6] [h] with
 |true=>
  have h1:=λ{K:Out→H→Prop}=>dY (K:=K) ⟨im,now,t,tr,o,[h],ma⟩ s [6] (aQ _) hb;dsimp only at hk;rw [hb,cond_true] at hk
  replace hk:(gw ⟨im,now,t,tr,o,[h],ma⟩ s h mH).or.K K:=hk
  generalize hR:gw ⟨im,now,t,tr,o,[h],ma⟩ s h mH=R at h2 hk;cases R with
  |ok c' s'=>
   have h3:=λ{K:Out→H→Prop} (g:K (.ret (.tu [])) (CK c' s'))=>h2 (K:=K) g;refine s183.go (keep:=false) rfl ?_
   repeat' ((conv=>whnf);first | exact zf | refine zm ?_ | refine (.inr ?_:(∃_,_)∨_) | refine (h1 ?_) | refine (h3 ?_) | refine ⟨_,⟨by omega,rfl,rfl⟩,?_⟩ | intro _)
   exact hk none
  |ex n c' s'=>
   have h3:=λ{K:Out→H→Prop} (g:K (.ff (nQ n)) (CK c' s'))=>h2 (K:=K) g;refine s183.go (keep:=false) rfl ?_
   repeat' ((conv=>whnf);first | exact zf | refine zm ?_ | refine (.inr ?_:(∃_,_)∨_) | refine (h1 ?_) | refine (h3 ?_) | refine ⟨_,⟨by omega,rfl,rfl⟩,?_⟩ | intro _)
   exact hk
 |false=>
  have h1:=λ{K:Out→H→Prop}=>dZ (K:=K) ⟨im,now,t,tr,o,[h],ma⟩ s [6] (aQ _) hb;dsimp only at hk;rw [hb,cond_false] at hk;refine s183.go (keep:=false) rfl ?_
  repeat' ((conv=>whnf);first | exact zf | refine zm ?_ | refine (.inr ?_:(∃_,_)∨_) | refine (h1 ?_) | intro _)
  exact hk
def jt (c:Ca) (s:bq) (o:Ob):RQ:=bif da c.t.c then .ok { c with t:={ c.t with c:=f_ c.t.c o.fu (gM c.im o.fu) (c.ar.take 1) o.ma } } s else .ex (-6) c s
theorem Gh {K:Out→H→Prop} (c:Ca) (s:bq) (o:Ob) (a h:Va) (har:c.ar = [a,h]) (hf:c.t.c.fr.length<1000000000) (hk:(jt c s o).Kb K):Sat Tryz.prog 258 [gH o,.p 0 0] (Dy c s) K:=by
 obtain ⟨im,now,t,tr,op,ar,ma⟩:=c;subst har;have h1:=vH (K:=λout hh=>out = .ret (.d (.int .i64 (gM im o.fu)))∧hh=eN ⟨im,now,t,tr,op,[a,h],ma⟩ s) ⟨im,now,t,tr,op,[a,h],ma⟩ s o.fu ⟨rfl,rfl⟩;have h2:=kN t.c o.fu (gM im o.fu) [a] o.ma hf (show 1<_ by decide);unfold jt at hk;unfold l8 at h2;cases hy:da t.c with
 |true=>
  rw [hy] at h2
  replace hk:K (.ret (.tu [])) (Dy ⟨im,now,{ t with c:=f_ t.c o.fu (gM im o.fu) [a] o.ma },tr,op,[a,h],ma⟩ s):=by
   dsimp only at hk;rw [hy] at hk;exact hk
  refine s258.go (keep:=false) rfl ?_
  repeat' ((conv=>whnf);first | exact zf | refine (bo (bu ?_):eQ _ (eQ (kT _ _ _ _ 251 _ _ _ _ _ _ _) _)) | refine zm ?_ | refine ⟨_,_,h1,?_⟩ | refine zc h2 ?_ | refine zt ?_ | refine zu ?_ | intro _)
  exact hk
 |false=>
  rw [hy] at h2
  replace hk:K (.ff (nQ (-6))) (Dy ⟨im,now,t,tr,op,[a,h],ma⟩ s):=by
   dsimp only at hk;rw [hy] at hk;exact hk
  refine s258.go (keep:=false) rfl ?_
  repeat' ((conv=>whnf);first | exact zf | refine (bo (bu ?_):eQ _ (eQ (kT _ _ _ _ 251 _ _ _ _ _ _ _) _)) | refine zm ?_ | refine ⟨_,_,h1,?_⟩ | refine zc h2 ?_ | refine (j8 _ ?_) | refine zt ?_ | refine zu ?_ | intro _)
  exact hk
theorem FK {K:Out→H→Prop} (c:Ca) (s:bq) (h a:Va) (har:c.ar = [a,h]) (hf:c.t.c.fr.length<1000000000) (hl:c.t.c.st.length<1000000000) (hs:jH c.t.g) (hlh:cO (bD h)) (hj:cO (dR c.t.g.cur (bD h))) (hqa:vS s h.nm) (hk:(gw c s h jt).Kt K):Sat Tryz.prog 238 [.p 0 0,j5 h,.fc 258 [.p 4 0]] (CK c s) K:=by
 unfold gw at hk
 by_cases he:dN c.t.g (bD h)=0
 ·have h1:=λ{K:Out→H→Prop}=>mK (K:=K) c s (bD h) hs hlh hj he;have h2:=λ{K:Out→H→Prop}=>jd (K:=K) { c with t:={ c.t with g:=cu c.t.g (bD h) } } s h hqa;rw [he] at hk;unfold lJ at h2;cases ht:dF s h with
  |none=>
   rw [ht] at h2 hk
   replace hk:K (.ret (.tu [])) (CK { c with t:={ c.t with g:=cu c.t.g (bD h),c:=jS c.t.c (num 0) } } s):=hk
   have h3:=λ{K:Out→H→Prop}=>j1 (K:=K) { c with t:={ c.t with g:=cu c.t.g (bD h) } } s (num 0) hl;refine s238.go (keep:=false) rfl ?_
   repeat' ((conv=>whnf);first | exact zf | refine zm ?_ | refine (.inr ?_:(∃_,_)∨_) | refine (h1 ?_) | refine (h2 ?_) | refine (h3 ?_) | intro _)
   exact hk
  |some p=>
   obtain ⟨i,o⟩:=p;rw [ht] at h2 hk
   replace hk:(jt { c with t:={ c.t with g:=cu c.t.g (bD h) } } s o).Kt K:=hk
   have h3:=λ{K:Out→H→Prop}=>Gh (K:=K) { c with t:={ c.t with g:=cu c.t.g (bD h) } } s o a h har hf;generalize hR:jt { c with t:={ c.t with g:=cu c.t.g (bD h) } } s o=R at h3 hk;cases R with
   |ok c' s'=>
    have h4:=λ{K:Out→H→Prop} (g:K (.ret (.tu [])) (Dy c' s'))=>h3 (K:=K) g;refine s238.go (keep:=false) rfl ?_
    repeat' ((conv=>whnf);first | exact zf | refine zm ?_ | refine (.inr ?_:(∃_,_)∨_) | refine (h1 ?_) | refine (h2 ?_) | refine (h4 ?_) | intro _)
    exact hk
   |ex n c' s'=>
    have h4:=λ{K:Out→H→Prop} (g:K (.ff (nQ n)) (Dy c' s'))=>h3 (K:=K) g;refine s238.go (keep:=false) rfl ?_
    repeat' ((conv=>whnf);first | exact zf | refine zm ?_ | refine (.inr ?_:(∃_,_)∨_) | refine (h1 ?_) | refine (h2 ?_) | refine (h4 ?_) | intro _)
    exact hk
 ·have hb:(dN c.t.g (bD h)==0)=false:=by simp [he]
  rw [hb] at hk;have h1:=λ{K:Out→H→Prop}=>mL (K:=K) c s (bD h) hs hlh hj he;refine s238.go (keep:=false) rfl ?_
  repeat' ((conv=>whnf);first | exact zf | refine zm ?_ | refine (.inr ?_:(∃_,_)∨_) | refine (h1 ?_) | intro _)
  exact hk
def rK (c:Ca) (s:bq):OR:=bif bw [0,7] c.ar then (gw c s (c.ar[1]?.getD dT) jt).or else .ex (-1) c s
theorem Gi {K:Out→H→Prop} (c:Ca) (s:bq) (a h:Va) (har:c.ar = [a,h]) (hf:c.t.c.fr.length<1000000000) (hl:c.t.c.st.length<1000000000) (hs:jH c.t.g) (hlh:cO (bD h)) (hj:cO (dR c.t.g.cur (bD h))) (hqa:vS s h.nm) (hk:(rK c s).K K):Sat Tryz.prog 189 [.p 0 0] (eN c s) K:=by
 obtain ⟨im,now,t,tr,o,ar,ma⟩:=c;subst har;have h2:=λ{K:Out→H→Prop}=>FK (K:=K) ⟨im,now,t,tr,o,[a,h],ma⟩ s h a rfl hf hl hs hlh hj hqa;unfold rK at hk;cases hb:bw [0,7] [a,h] with
 |true=>
  have h1:=λ{K:Out→H→Prop}=>dY (K:=K) ⟨im,now,t,tr,o,[a,h],ma⟩ s [0,7] (aQ _) hb;dsimp only at hk;rw [hb,cond_true] at hk
  replace hk:(gw ⟨im,now,t,tr,o,[a,h],ma⟩ s h jt).or.K K:=hk
  generalize hR:gw ⟨im,now,t,tr,o,[a,h],ma⟩ s h jt=R at h2 hk;cases R with
  |ok c' s'=>
   have h3:=λ{K:Out→H→Prop} (g:K (.ret (.tu [])) (CK c' s'))=>h2 (K:=K) g;refine s189.go (keep:=false) rfl ?_
   repeat' ((conv=>whnf);first | exact zf | refine zm ?_ | refine (.inr ?_:(∃_,_)∨_) | refine (h1 ?_) | refine (h3 ?_) | refine ⟨_,⟨by omega,rfl,rfl⟩,?_⟩ | intro _)
   exact hk none
  |ex n c' s'=>
   have h3:=λ{K:Out→H→Prop} (g:K (.ff (nQ n)) (CK c' s'))=>h2 (K:=K) g;refine s189.go (keep:=false) rfl ?_
   repeat' ((conv=>whnf);first | exact zf | refine zm ?_ | refine (.inr ?_:(∃_,_)∨_) | refine (h1 ?_) | refine (h3 ?_) | refine ⟨_,⟨by omega,rfl,rfl⟩,?_⟩ | intro _)
   exact hk
 |false=>
  have h1:=λ{K:Out→H→Prop}=>dZ (K:=K) ⟨im,now,t,tr,o,[a,h],ma⟩ s [0,7] (aQ _) hb;dsimp only at hk;rw [hb,cond_false] at hk;refine s189.go (keep:=false) rfl ?_
  repeat' ((conv=>whnf);first | exact zf | refine zm ?_ | refine (.inr ?_:(∃_,_)∨_) | refine (h1 ?_) | intro _)
  exact hk
end Go.Proofs.YtjpgfgajkjhonaaGreatDoor
namespace Go.Proofs.YtjpgfgajkjhonaaGreatDoor
open Go.Vx
set_option maxRecDepth 100000
def mF (id:List UInt8) (l:List Va):Fx:=bif id == [] then .no else .MQ ⟨id,l⟩
theorem BA {K:Out→H→Prop} (c:Ca) (s:bq) (id:List UInt8) (l:List Va) (hk:K (.ret (.tu [])) (Ks c (mF id l) false s)):Sat Tryz.prog 247 [.p 0 0,.d (.str id),.d (.sl 5 (l.map cE))] (eN c s) K:=by
 unfold mF at hk;cases he:id == [] with
 |true=>
  rw [he] at hk;have e:id = []:=by simpa using he
  subst e;refine s247.go (keep:=false) rfl ?_
  repeat' ((conv=>whnf);first | exact zf | refine zm ?_ | refine zt ?_ | refine zu ?_ | intro _)
  exact hk
 |false=>
  rw [he,cond_false] at hk;have e:¬id = []:=by simpa using he
  have e2:(id != [])=true:=by simp [bne,he]
  refine s247.go (keep:=false) rfl ?_
  repeat' ((conv=>whnf);first | exact zf | refine (tJ ?_) | refine zm ?_ | refine (gZ e2 ?_) | refine zt ?_ | refine zu ?_ | intro _)
  exact hk
structure RU (c:Ca) (l:Lb):Prop where
  n:Ld c.t
  g:jH c.t.g
  l:cO l
  f:c.t.c.fr.length<1000000000
  sc:c.t.sc.length<1000000000
  w:0≤c.now∧c.now<1000000000
def lO (c:Ca) (a:Va) (l:Lb) (tk ro:Int):Th:=bif c_ c.t l tk ro==0 then Ad c.t c.o.a (gM c.im c.o.a) a c.ma l tk ro c.now (cr (lY c.t)) else c.t
theorem Gg (c:Ca) (a:Va) (l:Lb) (tk ro:Int) (h:RU c l) :
  bJ Tryz.prog 254 [eu c.t,.d (.int .i64 c.o.a),.d (.int .i64 (gM c.im c.o.a)),j5 a,.d (.int .u8 c.ma),jU l,.d (.int .i64 tk),.d (.int .i64 ro),.d (.int .i64 c.now)] (.tu [eu (lO c a l tk ro),.d (.int .i64 (c_ c.t l tk ro))]):=by
 have hm:c.t.ma=(c.t.ma.toNat:Nat):=by have:=h.n.m0;omega
 have hm1:c.t.ma.toNat<100:=by have:=h.n.m1;omega
 have no:∀{t:Th},iJ c.t c.o.a (gM c.im c.o.a) a c.ma l tk ro c.now→c_ c.t l tk ro≠0→bJ Tryz.prog 254 [eu c.t,.d (.int .i64 c.o.a),.d (.int .i64 (gM c.im c.o.a)),j5 a,.d (.int .u8 c.ma),jU l,.d (.int .i64 tk),.d (.int .i64 ro),.d (.int .i64 c.now)] (.tu [eu (lO c a l tk ro),.d (.int .i64 (c_ c.t l tk ro))]):=λh1 h2=>by
  have e:lO c a l tk ro=c.t:=by
   unfold lO;rw [show (c_ c.t l tk ro==0)=false by simp [h2]];rfl
  rw [e];exact h1
 by_cases h0:tk<1∨1000<tk
 ·exact no (t:=c.t) (yJ _ _ _ _ _ _ _ _ _ h0) (by unfold c_;rw [if_pos h0];decide)
 by_cases h1:ro<0∨999<ro
 ·exact no (t:=c.t) (Ac _ _ _ _ _ _ _ _ _ h0 h1) (by unfold c_;rw [if_neg h0,if_pos h1];decide)
 by_cases h2:bS c.t.g l=0
 ·by_cases h3:c.t.ro≤ro
  ·exact no (t:=c.t) (yK _ _ _ _ _ _ _ _ _ h.g h.l h0 h1 h2 h3 _ _ h.n.pa hm h.n.ne h.n.le h.n.sm hm1) (by unfold c_;rw [if_neg h0,if_neg h1,if_neg (by simp [h2]),if_pos h3];decide)
  ·cases h4:da c.t.c with
   |false=>exact no (t:=c.t) (yL _ _ _ _ _ _ _ _ _ h.g h.l h0 h1 h2 h3 h.n.r2 _ _ h.n.pa hm h.n.ne h.n.le h.n.sm hm1 h.f h4) (by unfold c_;rw [if_neg h0,if_neg h1,if_neg (by simp [h2]),if_neg h3,if_pos h4];decide)
   |true=>
    have e:c_ c.t l tk ro=0:=by unfold c_;rw [if_neg h0,if_neg h1,if_neg (by simp [h2]),if_neg h3,if_neg (by simp [h4])]
    have hr:=sr c.t c.o.a (gM c.im c.o.a) a c.ma l tk ro c.now h.g h.l h0 h1 h2 h3 h.n.r2 _ _ h.n.pa hm h.n.ne h.n.le h.n.sm hm1 h.f h.sc h.w h4;unfold lO;rw [e];exact hr
 ·exact no (t:=c.t) (yI _ _ _ _ _ _ _ _ _ h.g h.l h0 h1 h2) (by unfold c_;rw [if_neg h0,if_neg h1,if_pos h2];exact h2)
def vY (c:Ca) (s:bq):OR:=bif bw [0,1,1,2] c.ar then
  (bif c_ c.t (bD (c.ar[3]?.getD dT)) (c.ar[2]?.getD dT).n (c.ar[1]?.getD dT).n == 0 then .ok .no fun _ => ({ c with t := lO c (c.ar[0]?.getD dT) (bD (c.ar[3]?.getD dT)) (c.ar[2]?.getD dT).n (c.ar[1]?.getD dT).n }, s)
   else .ex (c_ c.t (bD (c.ar[3]?.getD dT)) (c.ar[2]?.getD dT).n (c.ar[1]?.getD dT).n) c s) else .ex (-1) c s
theorem Ep {K:Out→H→Prop} (c:Ca) (s:bq) (a r k m:Va) (har:c.ar = [a,r,k,m]) (h:RU c (bD m)) (hk:(vY c s).K K):Sat Tryz.prog 184 [.p 0 0] (eN c s) K:=by
 have h2:=Gg c a (bD m) k.n r.n h;obtain ⟨im,now,t,tr,o,ar,ma⟩:=c;subst har;have h4:=vH (K:=λout hh=>out = .ret (.d (.int .i64 (gM im o.a)))∧hh=eN ⟨im,now,t,tr,o,[a,r,k,m],ma⟩ s) ⟨im,now,t,tr,o,[a,r,k,m],ma⟩ s o.a ⟨rfl,rfl⟩;unfold vY at hk;cases hb:bw [0,1,1,2] [a,r,k,m] with
 |true=>
  have h1:=λ{K:Out→H→Prop}=>dY (K:=K) ⟨im,now,t,tr,o,[a,r,k,m],ma⟩ s [0,1,1,2] (aQ _) hb;dsimp only at hk;rw [hb,cond_true] at hk
  replace hk:OR.K (bif c_ t (bD m) k.n r.n==0 then .ok .no λ_=>(⟨im,now,lO ⟨im,now,t,tr,o,[a,r,k,m],ma⟩ a (bD m) k.n r.n,tr,o,[a,r,k,m],ma⟩,s) else .ex (c_ t (bD m) k.n r.n) ⟨im,now,t,tr,o,[a,r,k,m],ma⟩ s) K:=hk
  generalize lO ⟨im,now,t,tr,o,[a,r,k,m],ma⟩ a (bD m) k.n r.n=u at h2 hk
  by_cases hw:c_ t (bD m) k.n r.n=0
  ·rw [show (c_ t (bD m) k.n r.n==0)=true by simp [hw],cond_true] at hk;rw [show c_ (Ca.t ⟨im,now,t,tr,o,[a,r,k,m],ma⟩) (bD m) k.n r.n=0 from hw] at h2;refine s184.go (keep:=false) rfl ?_
   repeat' ((conv=>whnf);first | exact zf | refine (bo (bu ?_):eQ _ (eQ (kT _ _ _ _ 251 _ _ _ _ _ _ _) _)) | refine zm ?_ | refine (.inr ?_:(∃_,_)∨_) | refine (h1 ?_) | refine ⟨_,_,h4,?_⟩ | refine zc h2 ?_ | refine (gf ?_) | refine ⟨_,⟨by omega,rfl,rfl⟩,?_⟩ | intro _)
   exact hk none
  ·rw [show (c_ t (bD m) k.n r.n==0)=false by simp [hw],cond_false] at hk;refine s184.go (keep:=false) rfl ?_
   repeat' ((conv=>whnf);first | exact zf | refine (bo (bu ?_):eQ _ (eQ (kT _ _ _ _ 251 _ _ _ _ _ _ _) _)) | refine zm ?_ | refine (.inr ?_:(∃_,_)∨_) | refine (h1 ?_) | refine ⟨_,_,h4,?_⟩ | refine zc h2 ?_ | refine (ji _ hw ?_) | refine ⟨_,⟨by omega,rfl,rfl⟩,?_⟩ | intro _)
   exact hk
 |false=>
  have h1:=λ{K:Out→H→Prop}=>dZ (K:=K) ⟨im,now,t,tr,o,[a,r,k,m],ma⟩ s [0,1,1,2] (aQ _) hb;dsimp only at hk;rw [hb,cond_false] at hk;refine s184.go (keep:=false) rfl ?_
  repeat' ((conv=>whnf);first | exact zf | refine zm ?_ | refine (.inr ?_:(∃_,_)∨_) | refine (h1 ?_) | intro _)
  exact hk
end Go.Proofs.YtjpgfgajkjhonaaGreatDoor
