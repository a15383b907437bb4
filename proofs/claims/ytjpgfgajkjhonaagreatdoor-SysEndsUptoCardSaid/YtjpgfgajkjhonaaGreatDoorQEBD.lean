/- What the ops come to that ask: make, read, tell, the ops of a thing, of a label. Conditions: as told. -/
import Derived.Test.YtjpgfgajkjhonaaGreatDoorQEBB
import Derived.Test.YtjpgfgajkjhonaaGreatDoorQEBC
import Derived.Test.YtjpgfgajkjhonaaGreatDoorQEAY
namespace Go.Proofs.YtjpgfgajkjhonaaGreatDoor
open Go.Vx
set_option maxRecDepth 100000
inductive OR where
  |ok (e:Fx) (f:Option Nat→Ca×bq)
  |ex (n:Int) (c:Ca) (s:bq)
def OR.K (r:OR) (K:Out→H→Prop):Prop:=match r with
 |.ok e f=>∀b,K (.ret (.tu [])) (KN (f b).1 e false (f b).2)
 |.ex n c s=>K (.fW (nD n)) (eM c s)
def jt:List UInt8→Nat→List Nat
 |[],a=>[a]
 |c :: r,a=>bif c==46 then a :: jt r 0 else jt r (10*a+(c.toNat - 48))
def l4 (t:Th):List Nat:=jt t.pa 0 ++ [t.ma.toNat]
structure Kw (t:Th):Prop where
  pa:t.pa=cr (jt t.pa 0)
  ne:jt t.pa 0≠[]
  le:(jt t.pa 0).length<24
  sm:∀n∈jt t.pa 0,n<100
  m0:0≤t.ma
  m1:t.ma<100
  r2:t.ro<1000000000
structure M5 (c:Ca) (s:bq) (o:Ob):Prop where
  n:Kw c.t
  g:iv c.t.g
  l:cL o.l
  gs:lW s
  k3:3≤o.k
  k7:o.k≤7
  UZ:jv o.l=true
  q:o.va.q.length<100000000
  new:bN (cr (l4 c.t)) s.th=none
  st:c.t.c.st.length<1000000000
theorem Kw.o9 {t:Th} (h:Kw t):gK (l4 t):=by
 refine ⟨by simp [l4],?_,λn hn=>?_⟩
 ·have:=h.le;simp [l4];omega
 ·rcases aT.1 hn with g | g
  ·exact h.sm n g
  ·rw [aO.1 g];have:=h.m1;have:=h.m0;omega
def qE (c:Ca) (s:bq) (o:Ob):OR:=
 bif bR c.t.g o.l==0 then (bif decide (c.t.ro<1) then .ex (-5) c s else .ok .no λb=>(sj { c with t:=j4 c.t } (cr (l4 c.t)) o,qZ s (l4 c.t) o b)) else .ex (bR c.t.g o.l) c s
theorem JU {K:Out→H→Prop} (c:Ca) (s:bq) (o:Ob) (h:M5 c s o) (hk:(qE c s o).K K):Sat Tryz.prog 237 [.p 0 0,fz o] (eM c s) K:=by
 unfold qE at hk
 by_cases hw:bR c.t.g o.l=0
 ·rw [hw] at hk
  by_cases hr:c.t.ro<1
  ·rw [decide_eq_true hr] at hk
   replace hk:K (.fW (nD (-5))) (eM c s):=hk
   have h1:=fL c.t.g o.l h.g h.l;rw [hw] at h1;have h2:=λ{K:Out→H→Prop}=>Az (K:=K) c s hr;refine s237.go (keep:=false) rfl ?_
   repeat' ((conv=>whnf);first | exact zf | refine zm ?_ | refine zc h1 ?_ | intro _)
   conv=>whnf
   refine gT ?_
   repeat' ((conv=>whnf);first | exact zf | refine (dp (vo ?_)) | refine zm ?_ | refine (.inr ?_:(∃_,_)∨_) | refine (h2 ?_) | refine And.intro ?_ ?_ | intro _)
   all_goals exact hk
  ·rw [decide_eq_false hr] at hk
   replace hk:∀b,K (.ret (.tu [])) (eM (sj { c with t:=j4 c.t } (cr (l4 c.t)) o) (qZ s (l4 c.t) o b)):=hk
   have hm:c.t.ma=(c.t.ma.toNat:Nat):=by have:=h.n.m0;omega
   exact JT c s (jt c.t.pa 0) c.t.ma.toNat o h.g hw h.n.pa hm h.n.ne h.n.le h.n.sm (by have:=h.n.m1;omega) (by omega) h.n.r2 h.n.o9 h.gs h.l h.k3 h.k7 h.UZ h.q h.new h.st hk
 ·have hb:(bR c.t.g o.l==0)=false:=by simp [hw]
  rw [hb] at hk
  replace hk:K (.fW (nD (bR c.t.g o.l))) (eM c s):=hk
  have h1:=fL c.t.g o.l h.g h.l;refine s237.go (keep:=false) rfl ?_
  repeat' ((conv=>whnf);first | exact zf | refine zm ?_ | refine zc h1 ?_ | refine (j5 _ hw ?_) | intro _)
  exact hk
def lv (c:Ca) (s:bq) (l:Lb):OR:=bif dM c.t.g l==0 then .ok .no λ_=>({ c with t:={ c.t with g:=cu c.t.g l } },s) else .ex (dM c.t.g l) c s
def bz (ks:List Int) (ar:List Va):Bool:=(ks.zip ar).all λp=>p.1==0||p.2.k==p.1
def pz (ks:List Int):List (List D):=ks.map λn=>[.int .i64 n]
def Mv (b:Bool) (c:Ca) (s:bq) (K:Out→H→Prop):Prop:=match b with
 |true=>K (.ret (.tu [])) (eM c s)
 |false=>K (.fW (nD (-1))) (eM c s)
theorem xW {K:Out→H→Prop} (c:Ca) (s:bq) (ks:List Int) (B:Bool) (hl:ks.length≤c.ar.length) (hb:bz ks c.ar=B) (hk:Mv B c s K):Sat Tryz.prog 233 [.p 0 0,.d (.sl 1 (pz ks))] (eM c s) K:=by
 have hl1:(pz ks).length=ks.length:=aL _;have hl2:(c.ar.map cE).length=c.ar.length:=aL _;refine s233.go (keep:=false) rfl ?_
 repeat' ((conv=>whnf);first | exact zf | refine zm ?_ | intro _)
 conv=>whnf
 refine bV [(0,.p 0 0),(6,.d (.sl 1 (pz ks))),(7,.d (.int .i64 (pz ks).length))] (λi:Nat=>i≤ks.length∧bz (ks.drop i) (c.ar.drop i)=B) (λi=>[(8,.d (.int .i64 i))]) (λ_=>eM c s) (λi=>ks.length - i) 0 ⟨ak _,hb⟩ ?_ ?_ ?_ (λi hi=>?_)
 ·exact zzz
 ·exact zzz
 ·exact rfl
 repeat' ((conv=>whnf);first | exact zf | refine zm ?_ | intro _)
 refine aW (λhlt=>?_) (λhge=>?_)
 ·have hlt:i<ks.length:=by rw [←hl1];simpa using hlt
  obtain ⟨k,hm⟩:∃k,ks[i]? = some k:=⟨_,aB hlt⟩
  obtain ⟨v,hv⟩:∃v,c.ar[i]? = some v:=⟨_,aB (by omega)⟩
  have hdk:ks.drop i=k :: ks.drop (i+1):=by
   rw [bO hlt];rw [aB hlt] at hm;rw [aj hm]
  have hdv:c.ar.drop i=v :: c.ar.drop (i+1):=by
   have h2:i<c.ar.length:=by omega
   rw [bO h2];rw [aB h2] at hv;rw [aj hv]
  have hB:=hi.2;rw [hdk,hdv] at hB;simp only [bz,List.zip_cons_cons,kO] at hB;have hrow:(pz ks)[i]? = some [D.int .i64 k]:=by simp [pz,hm]
  have hrow2:(c.ar.map cE)[i]? = some (cE v):=by simp [hv]
  repeat' ((conv=>whnf);first | exact zf | refine zm ?_ | intro _)
  refine ⟨_,⟨by omega,hrow,rfl⟩,?_⟩
  by_cases hk0:k=0
  ·subst hk0
   repeat' ((conv=>whnf);first | exact zf | refine zm ?_ | refine zt ?_ | refine zu ?_ | intro _)
   refine ⟨i+1,⟨hlt,by simpa [bz] using hB⟩,bC hlt (bL i),zzz,zzz,rfl⟩
  ·by_cases hkv:v.k=k
   ·skip
    repeat' ((conv=>whnf);first | exact zf | refine zm ?_ | refine ⟨_,⟨by omega,hrow2,rfl⟩,?_⟩ | refine zt ?_ | refine zu ?_ | intro _)
    refine ⟨i+1,⟨hlt,by simpa [bz,hkv] using hB⟩,bC hlt (bL i),zzz,zzz,rfl⟩
   ·have hBf:B=false:=by rw [←hB];simp [hk0,hkv]
    rw [hBf] at hk
    repeat' ((conv=>whnf);first | exact zf | refine zm ?_ | refine ⟨_,⟨by omega,hrow2,rfl⟩,?_⟩ | refine (jW _ ?_) | refine zt ?_ | refine zu ?_ | intro _)
    exact hk
 ·have hge:i=ks.length:=by
   have:¬i<ks.length:=by rw [←hl1];simpa using hge
   omega
  have hBt:B=true:=by rw [←hi.2,hge,kN];rfl
  rw [hBt] at hk
  repeat' ((conv=>whnf);first | exact zf | refine zm ?_ | intro _)
  exact hk
theorem dX {K:Out→H→Prop} (c:Ca) (s:bq) (ks:List Int) (hl:ks.length≤c.ar.length) (hb:bz ks c.ar=true) (hk:K (.ret (.tu [])) (eM c s)):Sat Tryz.prog 233 [.p 0 0,.d (.sl 1 (pz ks))] (eM c s) K:=xW c s ks true hl hb hk
theorem dY {K:Out→H→Prop} (c:Ca) (s:bq) (ks:List Int) (hl:ks.length≤c.ar.length) (hb:bz ks c.ar=false) (hk:K (.fW (nD (-1))) (eM c s)):Sat Tryz.prog 233 [.p 0 0,.d (.sl 1 (pz ks))] (eM c s) K:=xW c s ks false hl hb hk
theorem Du {K:Out→H→Prop} (c:Ca) (s:bq) (l:Lb) (hs:iv c.t.g) (hl:cL l) (hj:cL (dU c.t.g.cur l)) (hk:(lv c s l).K K):Sat Tryz.prog 234 [.p 0 0,jr l] (eM c s) K:=by
 unfold lv at hk
 by_cases he:dM c.t.g l=0
 ·rw [he] at hk;exact lq c s l hs hl hj he (hk none)
 ·have hb:(dM c.t.g l==0)=false:=by simp [he]
  rw [hb] at hk;exact lu c s l hs hl hj he hk
def C9 (k:Int) (c:Ca) (s:bq):OR:=bif bz [0,2] c.ar then qE c s { fG with k:=k,l:=bB (c.ar[1]?.getD dR),v:=c.ar[0]?.getD dR } else .ex (-1) c s
theorem Cb {K:Out→H→Prop} (c:Ca) (s:bq) (a m:Va) (har:c.ar = [a,m]) (h:M5 c s { fG with k:=3,l:=bB m,v:=a }) (hk:(C9 3 c s).K K):Sat Tryz.prog 174 [.p 0 0] (eM c s) K:=by
 obtain ⟨im,now,t,tr,o,ar,ma⟩:=c;subst har;have h2:=λ{K:Out→H→Prop}=>JU (K:=K) ⟨im,now,t,tr,o,[a,m],ma⟩ s _ h;unfold C9 at hk;cases hb:bz [0,2] [a,m] with
 |true=>
  have h1:=λ{K:Out→H→Prop}=>dX (K:=K) ⟨im,now,t,tr,o,[a,m],ma⟩ s [0,2] (aQ _) hb;dsimp only at hk;rw [hb,cond_true] at hk
  replace hk:(qE ⟨im,now,t,tr,o,[a,m],ma⟩ s { fG with k:=3,l:=bB m,v:=a }).K K:=hk
  generalize hR:qE ⟨im,now,t,tr,o,[a,m],ma⟩ s { fG with k:=3,l:=bB m,v:=a }=R at h2 hk;cases R with
  |ok e f=>
   cases e
   all_goals
    refine s174.go (keep:=false) rfl ?_
    repeat' ((conv=>whnf);first | exact zf | refine zm ?_ | refine (.inr ?_:(∃_,_)∨_) | refine (h1 ?_) | refine (h2 (λb=>?_)) | refine ⟨_,⟨by omega,rfl,rfl⟩,?_⟩ | intro _)
    exact hk _
  |ex n c' s'=>
   have h3:=λ{K:Out→H→Prop} (g:K (.fW (nD n)) (eM c' s'))=>h2 (K:=K) g;refine s174.go (keep:=false) rfl ?_
   repeat' ((conv=>whnf);first | exact zf | refine zm ?_ | refine (.inr ?_:(∃_,_)∨_) | refine (h1 ?_) | refine (h3 ?_) | refine ⟨_,⟨by omega,rfl,rfl⟩,?_⟩ | intro _)
   exact hk
 |false=>
  have h1:=λ{K:Out→H→Prop}=>dY (K:=K) ⟨im,now,t,tr,o,[a,m],ma⟩ s [0,2] (aQ _) hb;dsimp only at hk;rw [hb,cond_false] at hk;refine s174.go (keep:=false) rfl ?_
  repeat' ((conv=>whnf);first | exact zf | refine zm ?_ | refine (.inr ?_:(∃_,_)∨_) | refine (h1 ?_) | intro _)
  exact hk
def FB (c:Ca) (s:bq):OR:=bif bz [2] c.ar then qE c s { fG with k:=5,l:=bB (c.ar[0]?.getD dR) } else .ex (-1) c s
def n6 (c:Ca) (s:bq):OR:=bif bz [2] c.ar then lv c s (bB (c.ar[0]?.getD dR)) else .ex (-1) c s
theorem E4 {K:Out→H→Prop} (c:Ca) (s:bq) (m:Va) (har:c.ar = [m]) (hs:iv c.t.g) (hl:cL (bB m)) (hj:cL (dU c.t.g.cur (bB m))) (hk:(n6 c s).K K):Sat Tryz.prog 172 [.p 0 0] (eM c s) K:=by
 obtain ⟨im,now,t,tr,o,ar,ma⟩:=c;subst har;have h2:=λ{K:Out→H→Prop}=>Du (K:=K) ⟨im,now,t,tr,o,[m],ma⟩ s (bB m) hs hl hj;unfold n6 at hk;cases hb:bz [2] [m] with
 |true=>
  have h1:=λ{K:Out→H→Prop}=>dX (K:=K) ⟨im,now,t,tr,o,[m],ma⟩ s [2] (aQ _) hb;dsimp only at hk;rw [hb,cond_true] at hk
  replace hk:(lv ⟨im,now,t,tr,o,[m],ma⟩ s (bB m)).K K:=hk
  generalize hR:lv ⟨im,now,t,tr,o,[m],ma⟩ s (bB m)=R at h2 hk;cases R with
  |ok e f=>
   cases e
   all_goals
    refine s172.go (keep:=false) rfl ?_
    repeat' ((conv=>whnf);first | exact zf | refine zm ?_ | refine (.inr ?_:(∃_,_)∨_) | refine (h1 ?_) | refine (h2 (λb=>?_)) | refine ⟨_,⟨by omega,rfl,rfl⟩,?_⟩ | intro _)
    exact hk _
  |ex n c' s'=>
   have h3:=λ{K:Out→H→Prop} (g:K (.fW (nD n)) (eM c' s'))=>h2 (K:=K) g;refine s172.go (keep:=false) rfl ?_
   repeat' ((conv=>whnf);first | exact zf | refine zm ?_ | refine (.inr ?_:(∃_,_)∨_) | refine (h1 ?_) | refine (h3 ?_) | refine ⟨_,⟨by omega,rfl,rfl⟩,?_⟩ | intro _)
   exact hk
 |false=>
  have h1:=λ{K:Out→H→Prop}=>dY (K:=K) ⟨im,now,t,tr,o,[m],ma⟩ s [2] (aQ _) hb;dsimp only at hk;rw [hb,cond_false] at hk;refine s172.go (keep:=false) rfl ?_
  repeat' ((conv=>whnf);first | exact zf | refine zm ?_ | refine (.inr ?_:(∃_,_)∨_) | refine (h1 ?_) | intro _)
  exact hk
def yy (c:Ca) (s:bq):OR:=bif bz [0,2] c.ar then
 (bif bR c.t.g (bB (c.ar[1]?.getD dR))==0 then .ok (.out ⟨bB (c.ar[1]?.getD dR),c.ar[0]?.getD dR⟩) λ_=>(c,s) else .ex (bR c.t.g (bB (c.ar[1]?.getD dR))) c s) else .ex (-1) c s
theorem Eg {K:Out→H→Prop} (c:Ca) (s:bq) (a m:Va) (har:c.ar = [a,m]) (hs:iv c.t.g) (hl:cL (bB m)) (hk:(yy c s).K K):Sat Tryz.prog 185 [.p 0 0] (eM c s) K:=by
 obtain ⟨im,now,t,tr,o,ar,ma⟩:=c;subst har;have h2:=fL t.g (bB m) hs hl;unfold yy at hk;cases hb:bz [0,2] [a,m] with
 |true=>
  have h1:=λ{K:Out→H→Prop}=>dX (K:=K) ⟨im,now,t,tr,o,[a,m],ma⟩ s [0,2] (aQ _) hb;dsimp only at hk;rw [hb,cond_true] at hk
  by_cases hw:bR t.g (bB m)=0
  ·rw [hw] at h2;have hwb:(bR t.g (bB m)==0)=true:=by simp [hw]
   replace hk:OR.K (bif bR t.g (bB m)==0 then .ok (.out ⟨bB m,a⟩) λ_=>(⟨im,now,t,tr,o,[a,m],ma⟩,s) else .ex (bR t.g (bB m)) ⟨im,now,t,tr,o,[a,m],ma⟩ s) K:=hk
   rw [hwb,cond_true] at hk;refine s185.go (keep:=false) rfl ?_
   repeat' ((conv=>whnf);first | exact zf | refine zm ?_ | refine (.inr ?_:(∃_,_)∨_) | refine (h1 ?_) | refine zc h2 ?_ | refine (gT ?_) | refine ⟨_,⟨by omega,rfl,rfl⟩,?_⟩ | intro _)
   exact hk none
  ·have hwb:(bR t.g (bB m)==0)=false:=by simp [hw]
   replace hk:OR.K (bif bR t.g (bB m)==0 then .ok (.out ⟨bB m,a⟩) λ_=>(⟨im,now,t,tr,o,[a,m],ma⟩,s) else .ex (bR t.g (bB m)) ⟨im,now,t,tr,o,[a,m],ma⟩ s) K:=hk
   rw [hwb,cond_false] at hk;refine s185.go (keep:=false) rfl ?_
   repeat' ((conv=>whnf);first | exact zf | refine zm ?_ | refine (.inr ?_:(∃_,_)∨_) | refine (h1 ?_) | refine zc h2 ?_ | refine (j5 _ hw ?_) | refine ⟨_,⟨by omega,rfl,rfl⟩,?_⟩ | intro _)
   exact hk
 |false=>
  have h1:=λ{K:Out→H→Prop}=>dY (K:=K) ⟨im,now,t,tr,o,[a,m],ma⟩ s [0,2] (aQ _) hb;dsimp only at hk;rw [hb,cond_false] at hk;refine s185.go (keep:=false) rfl ?_
  repeat' ((conv=>whnf);first | exact zf | refine zm ?_ | refine (.inr ?_:(∃_,_)∨_) | refine (h1 ?_) | intro _)
  exact hk
def dE (s:bq) (h:Va):Option (Nat×Ob):=match bN h.nm s.th with
 |some (i,o)=>bif (o.k==h.k)&&((o.l.s==h.ls)&&(o.l.i==h.li)) then some (i,o) else none
 |none=>none
def ky (s:bq) (h:Va):Ob:=((dE s h).map (·.2)).getD fG
def uv (s:bq) (nm:List UInt8):Prop:=∀i o,bN nm s.th=some (i,o)→o.va.q.length<100000000
theorem j0 {K:Out→H→Prop} (c:Ca) (s:bq) (h:Va) (hqa:uv s h.nm) (hk:K (.ret (.tu [fz (ky s h),.d (.bool (dE s h).isSome)])) (eM c s)):Sat Tryz.prog 243 [.p 0 0,jT h] (eM c s) K:=by
 have hq:(gb s h.nm).va.q.length<100000000:=by
  unfold gb;cases hlk:bN h.nm s.th with
  |none=>simp [fG,zH]
  |some p=>exact hqa p.1 p.2 hlk
 have hg:=oh (K:=λout hh=>out = .ret (.tu [fz (gb s h.nm),.d (.bool (ke s h.nm))])∧hh=jn s) s h.nm hq ⟨rfl,rfl⟩;unfold gb ke at hg;unfold ky dE at hk;cases hlk:bN h.nm s.th with
 |none=>
  rw [hlk] at hg hk;refine s243.go (keep:=false) rfl ?_
  repeat' ((conv=>whnf);first | exact zf | refine (bp (bw ?_):eQ _ (eQ (kG _ _ _ _ 16 _ _ _ _ _ _ _) _)) | refine zm ?_ | refine ⟨_,_,hg,?_⟩ | refine zt ?_ | refine zu ?_ | intro _)
  exact hk
 |some p=>
  obtain ⟨i,o⟩:=p;rw [hlk] at hg hk;dsimp only [Option.map,Option.getD,Option.isSome] at hg;dsimp only at hk;cases hkk:o.k==h.k with
  |false=>
   rw [hkk] at hk;refine s243.go (keep:=false) rfl ?_
   repeat' ((conv=>whnf);first | exact zf | refine (bp (bw ?_):eQ _ (eQ (kG _ _ _ _ 16 _ _ _ _ _ _ _) _)) | refine zm ?_ | refine ⟨_,_,hg,?_⟩ | refine zt ?_ | refine zu ?_ | intro _)
   exact hk
  |true=>
   cases hll:(o.l.s==h.ls)&&(o.l.i==h.li) with
   |false=>
    rw [hkk,hll] at hk;have e2:(!(o.l.s==h.ls&&(o.l.i==h.li&&true)))=true:=by rw [dc,hll];rfl
    refine s243.go (keep:=false) rfl ?_
    repeat' ((conv=>whnf);first | exact zf | refine (bp (bw ?_):eQ _ (eQ (kG _ _ _ _ 16 _ _ _ _ _ _ _) _)) | refine zm ?_ | refine ⟨_,_,hg,?_⟩ | refine (gG e2 ?_) | refine zt ?_ | refine zu ?_ | intro _)
    exact hk
   |true=>
    rw [hkk,hll] at hk;have e2:(!(o.l.s==h.ls&&(o.l.i==h.li&&true)))=false:=by rw [dc,hll];rfl
    refine s243.go (keep:=false) rfl ?_
    repeat' ((conv=>whnf);first | exact zf | refine (bp (bw ?_):eQ _ (eQ (kG _ _ _ _ 16 _ _ _ _ _ _ _) _)) | refine zm ?_ | refine ⟨_,_,hg,?_⟩ | refine (gY e2 ?_) | refine zt ?_ | refine zu ?_ | intro _)
    exact hk
def lV (c:Ca) (s:bq) (o:Ob):OR:=bif o.ex then .ex o.v.n c s else .ok .no λ_=>({ c with t:={ c.t with c:=jH c.t.c o.v } },s)
theorem A4 {K:Out→H→Prop} (c:Ca) (s:bq) (o:Ob) (hl:c.t.c.st.length<1000000000) (hk:(lV c s o).K K):Sat Tryz.prog 239 [.p 0 0,fz o] (eM c s) K:=by
 obtain ⟨ok,ol,ov,oe,od,oq,of,om⟩:=o;unfold lV at hk;cases oe with
 |true=>
  replace hk:K (.fW (nD ov.n)) (eM c s):=hk
  refine s239.go (keep:=false) rfl ?_
  repeat' ((conv=>whnf);first | exact zf | refine zm ?_ | refine (jW _ ?_) | intro _)
  exact hk
 |false=>
  replace hk:K (.ret (.tu [])) (eM { c with t:={ c.t with c:=jH c.t.c ov } } s):=hk none
  have h1:=λ{K:Out→H→Prop}=>jO (K:=K) c s ov hl;refine s239.go (keep:=false) rfl ?_
  repeat' ((conv=>whnf);first | exact zf | refine zm ?_ | refine (.inr ?_:(∃_,_)∨_) | refine (h1 ?_) | intro _)
  exact hk
def oQ (c:Ca) (s:bq) (h:Va) (go:Ca→bq→Ob→OR):OR:=
 bif dM c.t.g (bB h)==0 then (match dE s h with
  |some (_,o)=>go { c with t:={ c.t with g:=cu c.t.g (bB h) } } s o
  |none=>.ok .no λ_=>({ c with t:={ c.t with g:=cu c.t.g (bB h),c:=jH c.t.c (num 0) } },s)) else .ex (dM c.t.g (bB h)) c s
theorem EY {K:Out→H→Prop} (c:Ca) (s:bq) (h:Va) (hl:c.t.c.st.length<1000000000) (hs:iv c.t.g) (hlh:cL (bB h)) (hj:cL (dU c.t.g.cur (bB h))) (hqa:uv s h.nm) (hk:(oQ c s h lV).K K):Sat Tryz.prog 238 [.p 0 0,jT h,.fc 1000239 [.p 0 0]] (eM c s) K:=by
 unfold oQ at hk
 by_cases he:dM c.t.g (bB h)=0
 ·have h1:=λ{K:Out→H→Prop}=>lq (K:=K) c s (bB h) hs hlh hj he;have h2:=λ{K:Out→H→Prop}=>j0 (K:=K) { c with t:={ c.t with g:=cu c.t.g (bB h) } } s h hqa;rw [he] at hk;unfold ky at h2;cases ht:dE s h with
  |none=>
   rw [ht] at h2 hk
   replace hk:K (.ret (.tu [])) (eM { c with t:={ c.t with g:=cu c.t.g (bB h),c:=jH c.t.c (num 0) } } s):=hk none
   have h3:=λ{K:Out→H→Prop}=>jO (K:=K) { c with t:={ c.t with g:=cu c.t.g (bB h) } } s (num 0) hl;refine s238.go (keep:=false) rfl ?_
   repeat' ((conv=>whnf);first | exact zf | refine zm ?_ | refine (.inr ?_:(∃_,_)∨_) | refine (h1 ?_) | refine (h2 ?_) | refine (h3 ?_) | intro _)
   exact hk
  |some p=>
   obtain ⟨i,o⟩:=p;rw [ht] at h2 hk
   replace hk:(lV { c with t:={ c.t with g:=cu c.t.g (bB h) } } s o).K K:=hk
   have h3:=λ{K:Out→H→Prop}=>A4 (K:=K) { c with t:={ c.t with g:=cu c.t.g (bB h) } } s o hl;generalize hR:lV { c with t:={ c.t with g:=cu c.t.g (bB h) } } s o=R at h3 hk;cases R with
   |ok e f=>
    cases e
    all_goals
     refine s238.go (keep:=false) rfl ?_
     repeat' ((conv=>whnf);first | exact zf | refine zm ?_ | refine (.inr ?_:(∃_,_)∨_) | refine (h1 ?_) | refine (h2 ?_) | refine (h3 (λb=>?_)) | intro _)
     exact hk _
   |ex n c' s'=>
    have h4:=λ{K:Out→H→Prop} (g:K (.fW (nD n)) (eM c' s'))=>h3 (K:=K) g;refine s238.go (keep:=false) rfl ?_
    repeat' ((conv=>whnf);first | exact zf | refine zm ?_ | refine (.inr ?_:(∃_,_)∨_) | refine (h1 ?_) | refine (h2 ?_) | refine (h4 ?_) | intro _)
    exact hk
 ·have hb:(dM c.t.g (bB h)==0)=false:=by simp [he]
  rw [hb] at hk;have h1:=λ{K:Out→H→Prop}=>lu (K:=K) c s (bB h) hs hlh hj he;refine s238.go (keep:=false) rfl ?_
  repeat' ((conv=>whnf);first | exact zf | refine zm ?_ | refine (.inr ?_:(∃_,_)∨_) | refine (h1 ?_) | intro _)
  exact hk
def rT (c:Ca) (s:bq):OR:=bif bz [3] c.ar then oQ c s (c.ar[0]?.getD dR) lV else .ex (-1) c s
theorem Aq {K:Out→H→Prop} (c:Ca) (s:bq) (h:Va) (har:c.ar = [h]) (hl:c.t.c.st.length<1000000000) (hs:iv c.t.g) (hlh:cL (bB h)) (hj:cL (dU c.t.g.cur (bB h))) (hqa:uv s h.nm) (hk:(rT c s).K K):Sat Tryz.prog 175 [.p 0 0] (eM c s) K:=by
 obtain ⟨im,now,t,tr,o,ar,ma⟩:=c;subst har;have h2:=λ{K:Out→H→Prop}=>EY (K:=K) ⟨im,now,t,tr,o,[h],ma⟩ s h hl hs hlh hj hqa;unfold rT at hk;cases hb:bz [3] [h] with
 |true=>
  have h1:=λ{K:Out→H→Prop}=>dX (K:=K) ⟨im,now,t,tr,o,[h],ma⟩ s [3] (aQ _) hb;dsimp only at hk;rw [hb,cond_true] at hk
  replace hk:(oQ ⟨im,now,t,tr,o,[h],ma⟩ s h lV).K K:=hk
  generalize hR:oQ ⟨im,now,t,tr,o,[h],ma⟩ s h lV=R at h2 hk;cases R with
  |ok e f=>
   cases e
   all_goals
    refine s175.go (keep:=false) rfl ?_
    repeat' ((conv=>whnf);first | exact zf | refine zm ?_ | refine (.inr ?_:(∃_,_)∨_) | refine (h1 ?_) | refine (h2 (λb=>?_)) | refine ⟨_,⟨by omega,rfl,rfl⟩,?_⟩ | intro _)
    exact hk _
  |ex n c' s'=>
   have h3:=λ{K:Out→H→Prop} (g:K (.fW (nD n)) (eM c' s'))=>h2 (K:=K) g;refine s175.go (keep:=false) rfl ?_
   repeat' ((conv=>whnf);first | exact zf | refine zm ?_ | refine (.inr ?_:(∃_,_)∨_) | refine (h1 ?_) | refine (h3 ?_) | refine ⟨_,⟨by omega,rfl,rfl⟩,?_⟩ | intro _)
   exact hk
 |false=>
  have h1:=λ{K:Out→H→Prop}=>dY (K:=K) ⟨im,now,t,tr,o,[h],ma⟩ s [3] (aQ _) hb;dsimp only at hk;rw [hb,cond_false] at hk;refine s175.go (keep:=false) rfl ?_
  repeat' ((conv=>whnf);first | exact zf | refine zm ?_ | refine (.inr ?_:(∃_,_)∨_) | refine (h1 ?_) | intro _)
  exact hk
end Go.Proofs.YtjpgfgajkjhonaaGreatDoor
namespace Go.Proofs.YtjpgfgajkjhonaaGreatDoor
open Go.Vx
set_option maxRecDepth 100000
def lF (c:Ca) (v:Va):Ca:={ c with t:={ c.t with c:=jH c.t.c v } }
def NQ (c:Ca) (s:bq):OR:=.ok .no λ_=>(lF c ⟨2,0,[],c.t.g.cur.s,c.t.g.cur.i⟩,s)
def NV (c:Ca) (s:bq):OR:=.ok .no λ_=>(lF c ⟨2,0,[],c.t.g.fU.s,c.t.g.fU.i⟩,s)
theorem NR {K:Out→H→Prop} (c:Ca) (s:bq) (hl:c.t.c.st.length<1000000000) (hk:(NQ c s).K K):Sat Tryz.prog 170 [.p 0 0] (eM c s) K:=by
 have h1:=λ{K:Out→H→Prop}=>BF (K:=K) c s c.t.g.cur hl;refine s170.go (keep:=false) rfl ?_
 repeat' ((conv=>whnf);first | exact zf | refine zm ?_ | refine (.inr ?_:(∃_,_)∨_) | refine (h1 ?_) | intro _)
 exact hk none
theorem NW {K:Out→H→Prop} (c:Ca) (s:bq) (hl:c.t.c.st.length<1000000000) (hk:(NV c s).K K):Sat Tryz.prog 171 [.p 0 0] (eM c s) K:=by
 have h1:=λ{K:Out→H→Prop}=>BF (K:=K) c s c.t.g.fU hl;refine s171.go (keep:=false) rfl ?_
 repeat' ((conv=>whnf);first | exact zf | refine zm ?_ | refine (.inr ?_:(∃_,_)∨_) | refine (h1 ?_) | intro _)
 exact hk none
def vU (c:Ca) (s:bq):OR:=bif bz [2] c.ar then
 (bif i_ c.t.g (bB (c.ar[0]?.getD dR))==0 then .ok .no λ_=>({ c with t:={ c.t with g:=rZ c.t.g (bB (c.ar[0]?.getD dR)) } },s) else .ex (i_ c.t.g (bB (c.ar[0]?.getD dR))) c s) else .ex (-1) c s
theorem FJ {K:Out→H→Prop} (c:Ca) (s:bq) (m:Va) (har:c.ar = [m]) (hs:iv c.t.g) (hl:cL (bB m)) (hk:(vU c s).K K):Sat Tryz.prog 173 [.p 0 0] (eM c s) K:=by
 obtain ⟨im,now,t,tr,o,ar,ma⟩:=c;subst har;have h2:=FH t.g (bB m) hs hl;unfold vU at hk;cases hb:bz [2] [m] with
 |true=>
  have h1:=λ{K:Out→H→Prop}=>dX (K:=K) ⟨im,now,t,tr,o,[m],ma⟩ s [2] (aQ _) hb;dsimp only at hk;rw [hb,cond_true] at hk
  replace hk:OR.K (bif i_ t.g (bB m)==0 then .ok .no λ_=>(⟨im,now,{ t with g:=rZ t.g (bB m) },tr,o,[m],ma⟩,s) else .ex (i_ t.g (bB m)) ⟨im,now,t,tr,o,[m],ma⟩ s) K:=hk
  by_cases hw:i_ t.g (bB m)=0
  ·rw [show (i_ t.g (bB m)==0)=true by simp [hw],cond_true] at hk;rw [hw] at h2;refine s173.go (keep:=false) rfl ?_
   repeat' ((conv=>whnf);first | exact zf | refine zm ?_ | refine (.inr ?_:(∃_,_)∨_) | refine (h1 ?_) | refine zc h2 ?_ | refine (gT ?_) | refine ⟨_,⟨by omega,rfl,rfl⟩,?_⟩ | intro _)
   exact hk none
  ·rw [show (i_ t.g (bB m)==0)=false by simp [hw],cond_false] at hk;refine s173.go (keep:=false) rfl ?_
   repeat' ((conv=>whnf);first | exact zf | refine zm ?_ | refine (.inr ?_:(∃_,_)∨_) | refine (h1 ?_) | refine zc h2 ?_ | refine (j5 _ hw ?_) | refine ⟨_,⟨by omega,rfl,rfl⟩,?_⟩ | intro _)
   exact hk
 |false=>
  have h1:=λ{K:Out→H→Prop}=>dY (K:=K) ⟨im,now,t,tr,o,[m],ma⟩ s [2] (aQ _) hb;dsimp only at hk;rw [hb,cond_false] at hk;refine s173.go (keep:=false) rfl ?_
  repeat' ((conv=>whnf);first | exact zf | refine zm ?_ | refine (.inr ?_:(∃_,_)∨_) | refine (h1 ?_) | intro _)
  exact hk
def zQ (c:Ca) (f to:Lb) (b:Bool):Fx:=bif b then .log ⟨c.o.c,f,to,c.ma⟩ else .no
theorem FN {K:Out→H→Prop} (c:Ca) (s:bq) (g:Gs) (f to:Lb) (b:Bool) (hk:K (.ret (.tu [])) (KN { c with t:={ c.t with g:=g } } (zQ c f to b) false s)):Sat Tryz.prog 256 [.p 0 0,D8 g,jr f,jr to,.d (.bool b)] (eM c s) K:=by
 cases b with
 |true=>
  refine s256.go (keep:=false) rfl ?_
  repeat' ((conv=>whnf);first | exact zf | refine zm ?_ | refine zt ?_ | refine zu ?_ | intro _)
  exact hk
 |false=>
  refine s256.go (keep:=false) rfl ?_
  repeat' ((conv=>whnf);first | exact zf | refine zm ?_ | refine zt ?_ | refine zu ?_ | intro _)
  exact hk
def B0 (c:Ca) (s:bq):OR:=bif bz [2] c.ar then
 (bif ki c.t.g (bB (c.ar[0]?.getD dR)) c.ma==0 then .ok (zQ c c.t.g.cur (bB (c.ar[0]?.getD dR)) (sP c.t.g (bB (c.ar[0]?.getD dR)) c.ma)) λ_=>({ c with t:={ c.t with g:=uY c.t.g (bB (c.ar[0]?.getD dR)) c.ma } },s) else .ex (ki c.t.g (bB (c.ar[0]?.getD dR)) c.ma) c s) else .ex (-1) c s
theorem Jr {K:Out→H→Prop} (c:Ca) (s:bq) (m:Va) (har:c.ar = [m]) (hs:iv c.t.g) (hl:cL (bB m)) (hk:(B0 c s).K K):Sat Tryz.prog 186 [.p 0 0] (eM c s) K:=by
 obtain ⟨im,now,t,tr,o,ar,ma⟩:=c;subst har;have h2:=Jq t.g (bB m) ma hs hl;unfold B0 at hk;cases hb:bz [2] [m] with
 |true=>
  have h1:=λ{K:Out→H→Prop}=>dX (K:=K) ⟨im,now,t,tr,o,[m],ma⟩ s [2] (aQ _) hb;dsimp only at hk;rw [hb,cond_true] at hk
  replace hk:OR.K (bif ki t.g (bB m) ma==0 then .ok (zQ ⟨im,now,t,tr,o,[m],ma⟩ t.g.cur (bB m) (sP t.g (bB m) ma)) λ_=>(⟨im,now,{ t with g:=uY t.g (bB m) ma },tr,o,[m],ma⟩,s) else .ex (ki t.g (bB m) ma) ⟨im,now,t,tr,o,[m],ma⟩ s) K:=hk
  by_cases hw:ki t.g (bB m) ma=0
  ·rw [show (ki t.g (bB m) ma==0)=true by simp [hw],cond_true] at hk;have h3:=λ{K:Out→H→Prop}=>FN (K:=K) ⟨im,now,t,tr,o,[m],ma⟩ s (uY t.g (bB m) ma) t.g.cur (bB m) (sP t.g (bB m) ma);rw [hw] at h2
   replace hk:=hk none
   cases hL:sP t.g (bB m) ma
   all_goals
    rw [hL] at h2 h3 hk;refine s186.go (keep:=false) rfl ?_
    repeat' ((conv=>whnf);first | exact zf | refine zm ?_ | refine (.inr ?_:(∃_,_)∨_) | refine (h1 ?_) | refine zc h2 ?_ | refine (gT ?_) | refine (h3 ?_) | refine ⟨_,⟨by omega,rfl,rfl⟩,?_⟩ | intro _)
    exact hk
  ·rw [show (ki t.g (bB m) ma==0)=false by simp [hw],cond_false] at hk;refine s186.go (keep:=false) rfl ?_
   repeat' ((conv=>whnf);first | exact zf | refine zm ?_ | refine (.inr ?_:(∃_,_)∨_) | refine (h1 ?_) | refine zc h2 ?_ | refine (j5 _ hw ?_) | refine ⟨_,⟨by omega,rfl,rfl⟩,?_⟩ | intro _)
   exact hk
 |false=>
  have h1:=λ{K:Out→H→Prop}=>dY (K:=K) ⟨im,now,t,tr,o,[m],ma⟩ s [2] (aQ _) hb;dsimp only at hk;rw [hb,cond_false] at hk;refine s186.go (keep:=false) rfl ?_
  repeat' ((conv=>whnf);first | exact zf | refine zm ?_ | refine (.inr ?_:(∃_,_)∨_) | refine (h1 ?_) | intro _)
  exact hk
def BK (c:Ca) (s:bq):OR:=bif bz [2] c.ar then
 (bif kX c.t.g (bB (c.ar[0]?.getD dR)) c.ma==0 then .ok (zQ c c.t.g.fU (bB (c.ar[0]?.getD dR)) (rh c.t.g (bB (c.ar[0]?.getD dR)) c.ma)) λ_=>({ c with t:={ c.t with g:=uN c.t.g (bB (c.ar[0]?.getD dR)) c.ma } },s) else .ex (kX c.t.g (bB (c.ar[0]?.getD dR)) c.ma) c s) else .ex (-1) c s
theorem JX {K:Out→H→Prop} (c:Ca) (s:bq) (m:Va) (har:c.ar = [m]) (hs:iv c.t.g) (hl:cL (bB m)) (hk:(BK c s).K K):Sat Tryz.prog 187 [.p 0 0] (eM c s) K:=by
 obtain ⟨im,now,t,tr,o,ar,ma⟩:=c;subst har;have h2:=JW t.g (bB m) ma hs hl;unfold BK at hk;cases hb:bz [2] [m] with
 |true=>
  have h1:=λ{K:Out→H→Prop}=>dX (K:=K) ⟨im,now,t,tr,o,[m],ma⟩ s [2] (aQ _) hb;dsimp only at hk;rw [hb,cond_true] at hk
  replace hk:OR.K (bif kX t.g (bB m) ma==0 then .ok (zQ ⟨im,now,t,tr,o,[m],ma⟩ t.g.fU (bB m) (rh t.g (bB m) ma)) λ_=>(⟨im,now,{ t with g:=uN t.g (bB m) ma },tr,o,[m],ma⟩,s) else .ex (kX t.g (bB m) ma) ⟨im,now,t,tr,o,[m],ma⟩ s) K:=hk
  by_cases hw:kX t.g (bB m) ma=0
  ·rw [show (kX t.g (bB m) ma==0)=true by simp [hw],cond_true] at hk;have h3:=λ{K:Out→H→Prop}=>FN (K:=K) ⟨im,now,t,tr,o,[m],ma⟩ s (uN t.g (bB m) ma) t.g.fU (bB m) (rh t.g (bB m) ma);rw [hw] at h2
   replace hk:=hk none
   cases hL:rh t.g (bB m) ma
   all_goals
    rw [hL] at h2 h3 hk;refine s187.go (keep:=false) rfl ?_
    repeat' ((conv=>whnf);first | exact zf | refine zm ?_ | refine (.inr ?_:(∃_,_)∨_) | refine (h1 ?_) | refine zc h2 ?_ | refine (gT ?_) | refine (h3 ?_) | refine ⟨_,⟨by omega,rfl,rfl⟩,?_⟩ | intro _)
    exact hk
  ·rw [show (kX t.g (bB m) ma==0)=false by simp [hw],cond_false] at hk;refine s187.go (keep:=false) rfl ?_
   repeat' ((conv=>whnf);first | exact zf | refine zm ?_ | refine (.inr ?_:(∃_,_)∨_) | refine (h1 ?_) | refine zc h2 ?_ | refine (j5 _ hw ?_) | refine ⟨_,⟨by omega,rfl,rfl⟩,?_⟩ | intro _)
   exact hk
 |false=>
  have h1:=λ{K:Out→H→Prop}=>dY (K:=K) ⟨im,now,t,tr,o,[m],ma⟩ s [2] (aQ _) hb;dsimp only at hk;rw [hb,cond_false] at hk;refine s187.go (keep:=false) rfl ?_
  repeat' ((conv=>whnf);first | exact zf | refine zm ?_ | refine (.inr ?_:(∃_,_)∨_) | refine (h1 ?_) | intro _)
  exact hk
def pJ (c:Ca) (s:bq):OR:=bif bz [4,0] c.ar then
 (bif bR c.t.g (bB (c.ar[0]?.getD dR))==0 then (match dE s (c.ar[0]?.getD dR) with
  |some (i,o)=>.ok .no λ_=>(c,kF s i (c.ar[0]?.getD dR).nm { o with v:=c.ar[1]?.getD dR })
  |none=>.ok .no λ_=>(c,s)) else .ex (bR c.t.g (bB (c.ar[0]?.getD dR))) c s) else .ex (-1) c s
theorem lp {s:bq} {h:Va} {i:Nat} {o:Ob} (ht:dE s h=some (i,o)):bN h.nm s.th=some (i,o):=by
 unfold dE at ht;cases hl:bN h.nm s.th with
 |none=>rw [hl] at ht;cases ht
 |some p=>
  rw [hl] at ht;dsimp only at ht;cases hb:(p.2.k==h.k)&&((p.2.l.s==h.ls)&&(p.2.l.i==h.li)) with
  |true=>rw [hb] at ht;cases ht;rfl
  |false=>rw [hb] at ht;cases ht
theorem wR {K:Out→H→Prop} (c:Ca) (s:bq) (h v:Va) (har:c.ar = [h,v]) (hs:iv c.t.g) (hl:cL (bB h)) (hqa:uv s h.nm) (hk:(pJ c s).K K):Sat Tryz.prog 178 [.p 0 0] (eM c s) K:=by
 obtain ⟨im,now,t,tr,o,ar,ma⟩:=c;subst har;have h2:=fL t.g (bB h) hs hl;have h4:=λ{K:Out→H→Prop}=>j0 (K:=K) ⟨im,now,t,tr,o,[h,v],ma⟩ s h hqa;unfold pJ at hk;cases hb:bz [4,0] [h,v] with
 |true=>
  have h1:=λ{K:Out→H→Prop}=>dX (K:=K) ⟨im,now,t,tr,o,[h,v],ma⟩ s [4,0] (aQ _) hb;dsimp only at hk;rw [hb,cond_true] at hk
  replace hk:OR.K (bif bR t.g (bB h)==0 then (match dE s h with
   |some (i,ob)=>.ok .no λ_=>(⟨im,now,t,tr,o,[h,v],ma⟩,kF s i h.nm { ob with v:=v })
   |none=>.ok .no λ_=>(⟨im,now,t,tr,o,[h,v],ma⟩,s)) else .ex (bR t.g (bB h)) ⟨im,now,t,tr,o,[h,v],ma⟩ s) K:=hk
  by_cases hw:bR t.g (bB h)=0
  ·rw [show (bR t.g (bB h)==0)=true by simp [hw],cond_true] at hk;rw [hw] at h2;unfold ky at h4;cases ht:dE s h with
   |none=>
    rw [ht] at h4 hk;refine s178.go (keep:=false) rfl ?_
    repeat' ((conv=>whnf);first | exact zf | refine zm ?_ | refine (.inr ?_:(∃_,_)∨_) | refine (h1 ?_) | refine zc h2 ?_ | refine (gT ?_) | refine (h4 ?_) | refine ⟨_,⟨by omega,rfl,rfl⟩,?_⟩ | intro _)
    exact hk none
   |some p=>
    obtain ⟨i,ob⟩:=p;rw [ht] at h4 hk;have hlk:=lp ht;have h5:=λ{K:Out→H→Prop}=>lB (K:=K) s h.nm i { ob with v:=v } ob hlk rfl rfl (hqa i ob hlk);refine s178.go (keep:=false) rfl ?_
    repeat' ((conv=>whnf);first | exact zf | refine zm ?_ | refine (.inr ?_:(∃_,_)∨_) | refine (h1 ?_) | refine zc h2 ?_ | refine (gT ?_) | refine (h4 ?_) | refine ⟨_,⟨by omega,rfl,rfl⟩,?_⟩ | refine (h5 ?_) | intro _)
    exact hk none
  ·rw [show (bR t.g (bB h)==0)=false by simp [hw],cond_false] at hk;refine s178.go (keep:=false) rfl ?_
   repeat' ((conv=>whnf);first | exact zf | refine zm ?_ | refine (.inr ?_:(∃_,_)∨_) | refine (h1 ?_) | refine zc h2 ?_ | refine (j5 _ hw ?_) | refine ⟨_,⟨by omega,rfl,rfl⟩,?_⟩ | intro _)
   exact hk
 |false=>
  have h1:=λ{K:Out→H→Prop}=>dY (K:=K) ⟨im,now,t,tr,o,[h,v],ma⟩ s [4,0] (aQ _) hb;dsimp only at hk;rw [hb,cond_false] at hk;refine s178.go (keep:=false) rfl ?_
  repeat' ((conv=>whnf);first | exact zf | refine zm ?_ | refine (.inr ?_:(∃_,_)∨_) | refine (h1 ?_) | intro _)
  exact hk
end Go.Proofs.YtjpgfgajkjhonaaGreatDoor
namespace Go.Proofs.YtjpgfgajkjhonaaGreatDoor
open Go.Vx
set_option maxRecDepth 100000
inductive RQ where
  |ok (c:Ca) (s:bq)
  |ex (n:Int) (c:Ca) (s:bq)
def DV (c:Ca) (s:bq):H:=[.cells [.p 1 0],.cells (kC c [.nl 20,.nl 7,.nl 6,.nl 2,.d (.bool false)] (.d (.sl 5 (c.ar.map cE))) 2),.cells [.mp 3,.mp 4],.dm (q8 s.th),.ms 1 (qA s.nm) none none]
def B8 (c:Ca) (s:bq):H:=[.cells (kC c [.nl 20,.nl 7,.nl 6,.nl 2,.d (.bool false)] (.d (.sl 5 (c.ar.map cE))) 1),.cells [.mp 2,.mp 3],.dm (q8 s.th),.ms 1 (qA s.nm) none none,.cells [.p 0 0]]
def RQ.Kb (r:RQ) (K:Out→H→Prop):Prop:=match r with
 |.ok c s=>K (.ret (.tu [])) (DV c s)
 |.ex n c s=>K (.fW (nD n)) (DV c s)
def RQ.Kt (r:RQ) (K:Out→H→Prop):Prop:=match r with
 |.ok c s=>K (.ret (.tu [])) (B8 c s)
 |.ex n c s=>K (.fW (nD n)) (B8 c s)
def RQ.or (r:RQ):OR:=match r with
 |.ok c s=>.ok .no λ_=>(c,s)
 |.ex n c s=>.ex n c s
def gn (c:Ca) (s:bq) (h:Va) (go:Ca→bq→Ob→RQ):RQ:=
 bif dM c.t.g (bB h)==0 then (match dE s h with
  |some (_,o)=>go { c with t:={ c.t with g:=cu c.t.g (bB h) } } s o
  |none=>.ok { c with t:={ c.t with g:=cu c.t.g (bB h),c:=jH c.t.c (num 0) } } s) else .ex (dM c.t.g (bB h)) c s
def rP (c:Ca) (s:bq) (o:Ob):RQ:=.ok (lF c o.v) s
theorem yt {K:Out→H→Prop} (c:Ca) (s:bq) (o:Ob) (hl:c.t.c.st.length<1000000000) (hk:(rP c s o).Kb K):Sat Tryz.prog 240 [fz o,.p 0 0] (DV c s) K:=by
 have h1:=λ{K:Out→H→Prop}=>jO (K:=K) c s o.v hl;refine s240.go (keep:=false) rfl ?_
 repeat' ((conv=>whnf);first | exact zf | refine zm ?_ | refine (.inr ?_:(∃_,_)∨_) | refine (h1 ?_) | intro _)
 exact hk
def kD (c:Ca) (nm:List UInt8):Ca:={ c with t:={ c.t with st:=1,on:=nm } }
theorem lh {K:Out→H→Prop} (c:Ca) (s:bq) (nm:List UInt8) (hk:K (.ret (.tu [])) (eM (kD c nm) s)):Sat Tryz.prog 245 [.p 0 0,.d (.str nm)] (eM c s) K:=by
 refine s245.go (keep:=false) rfl ?_
 repeat' ((conv=>whnf);first | exact zf | refine zm ?_ | intro _)
 exact hk
def lj (c:Ca) (s:bq) (o:Ob):RQ:=bif o.dn then (bif o.ex then .ex o.v.n c s else .ok (lF c o.v) s) else .ok (kD c (c.ar[0]?.getD dR).nm) s
theorem HP {K:Out→H→Prop} (c:Ca) (s:bq) (o:Ob) (h:Va) (har:c.ar = [h]) (hl:c.t.c.st.length<1000000000) (hk:(lj c s o).Kb K):Sat Tryz.prog 253 [fz o,.p 0 0] (DV c s) K:=by
 obtain ⟨im,now,t,tr,op,ar,ma⟩:=c;subst har;obtain ⟨k,l,v,ex,dn,va,fu,m⟩:=o;unfold lj at hk;cases dn with
 |true=>
  have h1:=λ{K:Out→H→Prop}=>A4 (K:=K) ⟨im,now,t,tr,op,[h],ma⟩ s ⟨k,l,v,ex,true,va,fu,m⟩ hl;cases ex with
  |true=>
   have h2:=λ{K:Out→H→Prop} (g:K (.fW (nD v.n)) (eM ⟨im,now,t,tr,op,[h],ma⟩ s))=>h1 (K:=K) g;refine s253.go (keep:=false) rfl ?_
   repeat' ((conv=>whnf);first | exact zf | refine zm ?_ | refine (.inr ?_:(∃_,_)∨_) | refine (h2 ?_) | refine zt ?_ | refine zu ?_ | intro _)
   exact hk
  |false=>
   have h2:=λ{K:Out→H→Prop} (g:K (.ret (.tu [])) (eM (lF ⟨im,now,t,tr,op,[h],ma⟩ v) s))=>h1 (K:=K) λ_=>g;refine s253.go (keep:=false) rfl ?_
   repeat' ((conv=>whnf);first | exact zf | refine zm ?_ | refine (.inr ?_:(∃_,_)∨_) | refine (h2 ?_) | refine zt ?_ | refine zu ?_ | intro _)
   exact hk
 |false=>
  have h1:=λ{K:Out→H→Prop}=>lh (K:=K) ⟨im,now,t,tr,op,[h],ma⟩ s h.nm;refine s253.go (keep:=false) rfl ?_
  repeat' ((conv=>whnf);first | exact zf | refine zm ?_ | refine (.inr ?_:(∃_,_)∨_) | refine (h1 ?_) | refine ⟨_,⟨by omega,rfl,rfl⟩,?_⟩ | refine zt ?_ | refine zu ?_ | intro _)
  exact hk
def gF (im:Im) (f:Int):Int:=bif decide (f<0)||decide ((im.fs.length:Int)≤f) then 0 else ((im.fs[f.toNat]?).map (·.vars)).getD 0
theorem ue {K:Out→H→Prop} (c:Ca) (s:bq) (f:Int) (hk:K (.ret (.d (.int .i64 (gF c.im f)))) (eM c s)):Sat Tryz.prog 251 [.p 0 0,.d (.int .i64 f)] (eM c s) K:=by
 have hml:(c.im.fs.map da).length=c.im.fs.length:=aL _;unfold gF at hk
 by_cases h0:f<0
 ·rw [decide_eq_true h0,Bool.true_or,cond_true] at hk;refine s251.go (keep:=false) rfl ?_
  repeat' ((conv=>whnf);first | exact zf | refine zm ?_ | refine zt ?_ | refine zu ?_ | intro _)
  exact hk
 ·by_cases h1:(c.im.fs.length:Int)≤f
  ·rw [decide_eq_true h1,Bool.or_true,cond_true] at hk;refine s251.go (keep:=false) rfl ?_
   repeat' ((conv=>whnf);first | exact zf | refine zm ?_ | refine zt ?_ | refine zu ?_ | intro _)
   exact hk
  ·rw [decide_eq_false h0,decide_eq_false h1] at hk;obtain ⟨g,hg⟩:∃g,c.im.fs[f.toNat]? = some g:=⟨_,aB (by omega)⟩
   rw [hg] at hk;refine s251.go (keep:=false) rfl ?_
   repeat' ((conv=>whnf);first | exact zf | refine zm ?_ | refine ⟨da g,⟨by omega,by rw [aC,hg];rfl,rfl⟩,?_⟩ | refine zt ?_ | refine zu ?_ | intro _)
   exact hk
theorem EZ {K:Out→H→Prop} (c:Ca) (s:bq) (h:Va) (hl:c.t.c.st.length<1000000000) (hs:iv c.t.g) (hlh:cL (bB h)) (hj:cL (dU c.t.g.cur (bB h))) (hqa:uv s h.nm) (hk:(gn c s h rP).Kt K):Sat Tryz.prog 238 [.p 0 0,jT h,.fc 240 [.p 4 0]] (B8 c s) K:=by
 unfold gn at hk
 by_cases he:dM c.t.g (bB h)=0
 ·have h1:=λ{K:Out→H→Prop}=>lq (K:=K) c s (bB h) hs hlh hj he;have h2:=λ{K:Out→H→Prop}=>j0 (K:=K) { c with t:={ c.t with g:=cu c.t.g (bB h) } } s h hqa;rw [he] at hk;unfold ky at h2;cases ht:dE s h with
  |none=>
   rw [ht] at h2 hk
   replace hk:K (.ret (.tu [])) (B8 { c with t:={ c.t with g:=cu c.t.g (bB h),c:=jH c.t.c (num 0) } } s):=hk
   have h3:=λ{K:Out→H→Prop}=>jO (K:=K) { c with t:={ c.t with g:=cu c.t.g (bB h) } } s (num 0) hl;refine s238.go (keep:=false) rfl ?_
   repeat' ((conv=>whnf);first | exact zf | refine zm ?_ | refine (.inr ?_:(∃_,_)∨_) | refine (h1 ?_) | refine (h2 ?_) | refine (h3 ?_) | intro _)
   exact hk
  |some p=>
   obtain ⟨i,o⟩:=p;rw [ht] at h2 hk
   replace hk:(rP { c with t:={ c.t with g:=cu c.t.g (bB h) } } s o).Kt K:=hk
   have h3:=λ{K:Out→H→Prop}=>yt (K:=K) { c with t:={ c.t with g:=cu c.t.g (bB h) } } s o hl;generalize hR:rP { c with t:={ c.t with g:=cu c.t.g (bB h) } } s o=R at h3 hk;cases R with
   |ok c' s'=>
    have h4:=λ{K:Out→H→Prop} (g:K (.ret (.tu [])) (DV c' s'))=>h3 (K:=K) g;refine s238.go (keep:=false) rfl ?_
    repeat' ((conv=>whnf);first | exact zf | refine zm ?_ | refine (.inr ?_:(∃_,_)∨_) | refine (h1 ?_) | refine (h2 ?_) | refine (h4 ?_) | intro _)
    exact hk
   |ex n c' s'=>
    have h4:=λ{K:Out→H→Prop} (g:K (.fW (nD n)) (DV c' s'))=>h3 (K:=K) g;refine s238.go (keep:=false) rfl ?_
    repeat' ((conv=>whnf);first | exact zf | refine zm ?_ | refine (.inr ?_:(∃_,_)∨_) | refine (h1 ?_) | refine (h2 ?_) | refine (h4 ?_) | intro _)
    exact hk
 ·have hb:(dM c.t.g (bB h)==0)=false:=by simp [he]
  rw [hb] at hk;have h1:=λ{K:Out→H→Prop}=>lu (K:=K) c s (bB h) hs hlh hj he;refine s238.go (keep:=false) rfl ?_
  repeat' ((conv=>whnf);first | exact zf | refine zm ?_ | refine (.inr ?_:(∃_,_)∨_) | refine (h1 ?_) | intro _)
  exact hk
theorem EX {K:Out→H→Prop} (c:Ca) (s:bq) (h:Va) (har:c.ar = [h]) (hl:c.t.c.st.length<1000000000) (hs:iv c.t.g) (hlh:cL (bB h)) (hj:cL (dU c.t.g.cur (bB h))) (hqa:uv s h.nm) (hk:(gn c s h lj).Kt K):Sat Tryz.prog 238 [.p 0 0,jT h,.fc 253 [.p 4 0]] (B8 c s) K:=by
 unfold gn at hk
 by_cases he:dM c.t.g (bB h)=0
 ·have h1:=λ{K:Out→H→Prop}=>lq (K:=K) c s (bB h) hs hlh hj he;have h2:=λ{K:Out→H→Prop}=>j0 (K:=K) { c with t:={ c.t with g:=cu c.t.g (bB h) } } s h hqa;rw [he] at hk;unfold ky at h2;cases ht:dE s h with
  |none=>
   rw [ht] at h2 hk
   replace hk:K (.ret (.tu [])) (B8 { c with t:={ c.t with g:=cu c.t.g (bB h),c:=jH c.t.c (num 0) } } s):=hk
   have h3:=λ{K:Out→H→Prop}=>jO (K:=K) { c with t:={ c.t with g:=cu c.t.g (bB h) } } s (num 0) hl;refine s238.go (keep:=false) rfl ?_
   repeat' ((conv=>whnf);first | exact zf | refine zm ?_ | refine (.inr ?_:(∃_,_)∨_) | refine (h1 ?_) | refine (h2 ?_) | refine (h3 ?_) | intro _)
   exact hk
  |some p=>
   obtain ⟨i,o⟩:=p;rw [ht] at h2 hk
   replace hk:(lj { c with t:={ c.t with g:=cu c.t.g (bB h) } } s o).Kt K:=hk
   have h3:=λ{K:Out→H→Prop}=>HP (K:=K) { c with t:={ c.t with g:=cu c.t.g (bB h) } } s o h har hl;generalize hR:lj { c with t:={ c.t with g:=cu c.t.g (bB h) } } s o=R at h3 hk;cases R with
   |ok c' s'=>
    have h4:=λ{K:Out→H→Prop} (g:K (.ret (.tu [])) (DV c' s'))=>h3 (K:=K) g;refine s238.go (keep:=false) rfl ?_
    repeat' ((conv=>whnf);first | exact zf | refine zm ?_ | refine (.inr ?_:(∃_,_)∨_) | refine (h1 ?_) | refine (h2 ?_) | refine (h4 ?_) | intro _)
    exact hk
   |ex n c' s'=>
    have h4:=λ{K:Out→H→Prop} (g:K (.fW (nD n)) (DV c' s'))=>h3 (K:=K) g;refine s238.go (keep:=false) rfl ?_
    repeat' ((conv=>whnf);first | exact zf | refine zm ?_ | refine (.inr ?_:(∃_,_)∨_) | refine (h1 ?_) | refine (h2 ?_) | refine (h4 ?_) | intro _)
    exact hk
 ·have hb:(dM c.t.g (bB h)==0)=false:=by simp [he]
  rw [hb] at hk;have h1:=λ{K:Out→H→Prop}=>lu (K:=K) c s (bB h) hs hlh hj he;refine s238.go (keep:=false) rfl ?_
  repeat' ((conv=>whnf);first | exact zf | refine zm ?_ | refine (.inr ?_:(∃_,_)∨_) | refine (h1 ?_) | intro _)
  exact hk
def oP (c:Ca) (s:bq):OR:=bif bz [4] c.ar then (gn c s (c.ar[0]?.getD dR) rP).or else .ex (-1) c s
theorem yu {K:Out→H→Prop} (c:Ca) (s:bq) (h:Va) (har:c.ar = [h]) (hl:c.t.c.st.length<1000000000) (hs:iv c.t.g) (hlh:cL (bB h)) (hj:cL (dU c.t.g.cur (bB h))) (hqa:uv s h.nm) (hk:(oP c s).K K):Sat Tryz.prog 177 [.p 0 0] (eM c s) K:=by
 obtain ⟨im,now,t,tr,o,ar,ma⟩:=c;subst har;have h2:=λ{K:Out→H→Prop}=>EZ (K:=K) ⟨im,now,t,tr,o,[h],ma⟩ s h hl hs hlh hj hqa;unfold oP at hk;cases hb:bz [4] [h] with
 |true=>
  have h1:=λ{K:Out→H→Prop}=>dX (K:=K) ⟨im,now,t,tr,o,[h],ma⟩ s [4] (aQ _) hb;dsimp only at hk;rw [hb,cond_true] at hk
  replace hk:(gn ⟨im,now,t,tr,o,[h],ma⟩ s h rP).or.K K:=hk
  generalize hR:gn ⟨im,now,t,tr,o,[h],ma⟩ s h rP=R at h2 hk;cases R with
  |ok c' s'=>
   have h3:=λ{K:Out→H→Prop} (g:K (.ret (.tu [])) (B8 c' s'))=>h2 (K:=K) g;refine s177.go (keep:=false) rfl ?_
   repeat' ((conv=>whnf);first | exact zf | refine zm ?_ | refine (.inr ?_:(∃_,_)∨_) | refine (h1 ?_) | refine (h3 ?_) | refine ⟨_,⟨by omega,rfl,rfl⟩,?_⟩ | intro _)
   exact hk none
  |ex n c' s'=>
   have h3:=λ{K:Out→H→Prop} (g:K (.fW (nD n)) (B8 c' s'))=>h2 (K:=K) g;refine s177.go (keep:=false) rfl ?_
   repeat' ((conv=>whnf);first | exact zf | refine zm ?_ | refine (.inr ?_:(∃_,_)∨_) | refine (h1 ?_) | refine (h3 ?_) | refine ⟨_,⟨by omega,rfl,rfl⟩,?_⟩ | intro _)
   exact hk
 |false=>
  have h1:=λ{K:Out→H→Prop}=>dY (K:=K) ⟨im,now,t,tr,o,[h],ma⟩ s [4] (aQ _) hb;dsimp only at hk;rw [hb,cond_false] at hk;refine s177.go (keep:=false) rfl ?_
  repeat' ((conv=>whnf);first | exact zf | refine zm ?_ | refine (.inr ?_:(∃_,_)∨_) | refine (h1 ?_) | intro _)
  exact hk
def A0 (c:Ca) (s:bq):OR:=bif bz [6] c.ar then (gn c s (c.ar[0]?.getD dR) lj).or else .ex (-1) c s
theorem HQ {K:Out→H→Prop} (c:Ca) (s:bq) (h:Va) (har:c.ar = [h]) (hl:c.t.c.st.length<1000000000) (hs:iv c.t.g) (hlh:cL (bB h)) (hj:cL (dU c.t.g.cur (bB h))) (hqa:uv s h.nm) (hk:(A0 c s).K K):Sat Tryz.prog 183 [.p 0 0] (eM c s) K:=by
 obtain ⟨im,now,t,tr,o,ar,ma⟩:=c;subst har;have h2:=λ{K:Out→H→Prop}=>EX (K:=K) ⟨im,now,t,tr,o,[h],ma⟩ s h rfl hl hs hlh hj hqa;unfold A0 at hk;cases hb:bz [6] [h] with
 |true=>
  have h1:=λ{K:Out→H→Prop}=>dX (K:=K) ⟨im,now,t,tr,o,[h],ma⟩ s [6] (aQ _) hb;dsimp only at hk;rw [hb,cond_true] at hk
  replace hk:(gn ⟨im,now,t,tr,o,[h],ma⟩ s h lj).or.K K:=hk
  generalize hR:gn ⟨im,now,t,tr,o,[h],ma⟩ s h lj=R at h2 hk;cases R with
  |ok c' s'=>
   have h3:=λ{K:Out→H→Prop} (g:K (.ret (.tu [])) (B8 c' s'))=>h2 (K:=K) g;refine s183.go (keep:=false) rfl ?_
   repeat' ((conv=>whnf);first | exact zf | refine zm ?_ | refine (.inr ?_:(∃_,_)∨_) | refine (h1 ?_) | refine (h3 ?_) | refine ⟨_,⟨by omega,rfl,rfl⟩,?_⟩ | intro _)
   exact hk none
  |ex n c' s'=>
   have h3:=λ{K:Out→H→Prop} (g:K (.fW (nD n)) (B8 c' s'))=>h2 (K:=K) g;refine s183.go (keep:=false) rfl ?_
   repeat' ((conv=>whnf);first | exact zf | refine zm ?_ | refine (.inr ?_:(∃_,_)∨_) | refine (h1 ?_) | refine (h3 ?_) | refine ⟨_,⟨by omega,rfl,rfl⟩,?_⟩ | intro _)
   exact hk
 |false=>
  have h1:=λ{K:Out→H→Prop}=>dY (K:=K) ⟨im,now,t,tr,o,[h],ma⟩ s [6] (aQ _) hb;dsimp only at hk;rw [hb,cond_false] at hk;refine s183.go (keep:=false) rfl ?_
  repeat' ((conv=>whnf);first | exact zf | refine zm ?_ | refine (.inr ?_:(∃_,_)∨_) | refine (h1 ?_) | intro _)
  exact hk
def jd (c:Ca) (s:bq) (o:Ob):RQ:=bif dZ c.t.c then .ok { c with t:={ c.t with c:=ft c.t.c o.fu (gF c.im o.fu) (c.ar.take 1) o.ma } } s else .ex (-6) c s
theorem GA {K:Out→H→Prop} (c:Ca) (s:bq) (o:Ob) (a h:Va) (har:c.ar = [a,h]) (hf:c.t.c.fr.length<1000000000) (hk:(jd c s o).Kb K):Sat Tryz.prog 258 [fz o,.p 0 0] (DV c s) K:=by
 obtain ⟨im,now,t,tr,op,ar,ma⟩:=c;subst har;have h1:=ue (K:=λout hh=>out = .ret (.d (.int .i64 (gF im o.fu)))∧hh=eM ⟨im,now,t,tr,op,[a,h],ma⟩ s) ⟨im,now,t,tr,op,[a,h],ma⟩ s o.fu ⟨rfl,rfl⟩;have h2:=kB t.c o.fu (gF im o.fu) [a] o.ma hf (show 1<_ by decide);unfold jd at hk;unfold lP at h2;cases hy:dZ t.c with
 |true=>
  rw [hy] at h2
  replace hk:K (.ret (.tu [])) (DV ⟨im,now,{ t with c:=ft t.c o.fu (gF im o.fu) [a] o.ma },tr,op,[a,h],ma⟩ s):=by
   dsimp only at hk;rw [hy] at hk;exact hk
  refine s258.go (keep:=false) rfl ?_
  repeat' ((conv=>whnf);first | exact zf | refine (bp (bw ?_):eQ _ (eQ (kG _ _ _ _ 251 _ _ _ _ _ _ _) _)) | refine zm ?_ | refine ⟨_,_,h1,?_⟩ | refine zc h2 ?_ | refine zt ?_ | refine zu ?_ | intro _)
  exact hk
 |false=>
  rw [hy] at h2
  replace hk:K (.fW (nD (-6))) (DV ⟨im,now,t,tr,op,[a,h],ma⟩ s):=by
   dsimp only at hk;rw [hy] at hk;exact hk
  refine s258.go (keep:=false) rfl ?_
  repeat' ((conv=>whnf);first | exact zf | refine (bp (bw ?_):eQ _ (eQ (kG _ _ _ _ 251 _ _ _ _ _ _ _) _)) | refine zm ?_ | refine ⟨_,_,h1,?_⟩ | refine zc h2 ?_ | refine (jW _ ?_) | refine zt ?_ | refine zu ?_ | intro _)
  exact hk
theorem E0 {K:Out→H→Prop} (c:Ca) (s:bq) (h a:Va) (har:c.ar = [a,h]) (hf:c.t.c.fr.length<1000000000) (hl:c.t.c.st.length<1000000000) (hs:iv c.t.g) (hlh:cL (bB h)) (hj:cL (dU c.t.g.cur (bB h))) (hqa:uv s h.nm) (hk:(gn c s h jd).Kt K):Sat Tryz.prog 238 [.p 0 0,jT h,.fc 258 [.p 4 0]] (B8 c s) K:=by
 unfold gn at hk
 by_cases he:dM c.t.g (bB h)=0
 ·have h1:=λ{K:Out→H→Prop}=>lq (K:=K) c s (bB h) hs hlh hj he;have h2:=λ{K:Out→H→Prop}=>j0 (K:=K) { c with t:={ c.t with g:=cu c.t.g (bB h) } } s h hqa;rw [he] at hk;unfold ky at h2;cases ht:dE s h with
  |none=>
   rw [ht] at h2 hk
   replace hk:K (.ret (.tu [])) (B8 { c with t:={ c.t with g:=cu c.t.g (bB h),c:=jH c.t.c (num 0) } } s):=hk
   have h3:=λ{K:Out→H→Prop}=>jO (K:=K) { c with t:={ c.t with g:=cu c.t.g (bB h) } } s (num 0) hl;refine s238.go (keep:=false) rfl ?_
   repeat' ((conv=>whnf);first | exact zf | refine zm ?_ | refine (.inr ?_:(∃_,_)∨_) | refine (h1 ?_) | refine (h2 ?_) | refine (h3 ?_) | intro _)
   exact hk
  |some p=>
   obtain ⟨i,o⟩:=p;rw [ht] at h2 hk
   replace hk:(jd { c with t:={ c.t with g:=cu c.t.g (bB h) } } s o).Kt K:=hk
   have h3:=λ{K:Out→H→Prop}=>GA (K:=K) { c with t:={ c.t with g:=cu c.t.g (bB h) } } s o a h har hf;generalize hR:jd { c with t:={ c.t with g:=cu c.t.g (bB h) } } s o=R at h3 hk;cases R with
   |ok c' s'=>
    have h4:=λ{K:Out→H→Prop} (g:K (.ret (.tu [])) (DV c' s'))=>h3 (K:=K) g;refine s238.go (keep:=false) rfl ?_
    repeat' ((conv=>whnf);first | exact zf | refine zm ?_ | refine (.inr ?_:(∃_,_)∨_) | refine (h1 ?_) | refine (h2 ?_) | refine (h4 ?_) | intro _)
    exact hk
   |ex n c' s'=>
    have h4:=λ{K:Out→H→Prop} (g:K (.fW (nD n)) (DV c' s'))=>h3 (K:=K) g;refine s238.go (keep:=false) rfl ?_
    repeat' ((conv=>whnf);first | exact zf | refine zm ?_ | refine (.inr ?_:(∃_,_)∨_) | refine (h1 ?_) | refine (h2 ?_) | refine (h4 ?_) | intro _)
    exact hk
 ·have hb:(dM c.t.g (bB h)==0)=false:=by simp [he]
  rw [hb] at hk;have h1:=λ{K:Out→H→Prop}=>lu (K:=K) c s (bB h) hs hlh hj he;refine s238.go (keep:=false) rfl ?_
  repeat' ((conv=>whnf);first | exact zf | refine zm ?_ | refine (.inr ?_:(∃_,_)∨_) | refine (h1 ?_) | intro _)
  exact hk
def qn (c:Ca) (s:bq):OR:=bif bz [0,7] c.ar then (gn c s (c.ar[1]?.getD dR) jd).or else .ex (-1) c s
theorem GB {K:Out→H→Prop} (c:Ca) (s:bq) (a h:Va) (har:c.ar = [a,h]) (hf:c.t.c.fr.length<1000000000) (hl:c.t.c.st.length<1000000000) (hs:iv c.t.g) (hlh:cL (bB h)) (hj:cL (dU c.t.g.cur (bB h))) (hqa:uv s h.nm) (hk:(qn c s).K K):Sat Tryz.prog 189 [.p 0 0] (eM c s) K:=by
 obtain ⟨im,now,t,tr,o,ar,ma⟩:=c;subst har;have h2:=λ{K:Out→H→Prop}=>E0 (K:=K) ⟨im,now,t,tr,o,[a,h],ma⟩ s h a rfl hf hl hs hlh hj hqa;unfold qn at hk;cases hb:bz [0,7] [a,h] with
 |true=>
  have h1:=λ{K:Out→H→Prop}=>dX (K:=K) ⟨im,now,t,tr,o,[a,h],ma⟩ s [0,7] (aQ _) hb;dsimp only at hk;rw [hb,cond_true] at hk
  replace hk:(gn ⟨im,now,t,tr,o,[a,h],ma⟩ s h jd).or.K K:=hk
  generalize hR:gn ⟨im,now,t,tr,o,[a,h],ma⟩ s h jd=R at h2 hk;cases R with
  |ok c' s'=>
   have h3:=λ{K:Out→H→Prop} (g:K (.ret (.tu [])) (B8 c' s'))=>h2 (K:=K) g;refine s189.go (keep:=false) rfl ?_
   repeat' ((conv=>whnf);first | exact zf | refine zm ?_ | refine (.inr ?_:(∃_,_)∨_) | refine (h1 ?_) | refine (h3 ?_) | refine ⟨_,⟨by omega,rfl,rfl⟩,?_⟩ | intro _)
   exact hk none
  |ex n c' s'=>
   have h3:=λ{K:Out→H→Prop} (g:K (.fW (nD n)) (B8 c' s'))=>h2 (K:=K) g;refine s189.go (keep:=false) rfl ?_
   repeat' ((conv=>whnf);first | exact zf | refine zm ?_ | refine (.inr ?_:(∃_,_)∨_) | refine (h1 ?_) | refine (h3 ?_) | refine ⟨_,⟨by omega,rfl,rfl⟩,?_⟩ | intro _)
   exact hk
 |false=>
  have h1:=λ{K:Out→H→Prop}=>dY (K:=K) ⟨im,now,t,tr,o,[a,h],ma⟩ s [0,7] (aQ _) hb;dsimp only at hk;rw [hb,cond_false] at hk;refine s189.go (keep:=false) rfl ?_
  repeat' ((conv=>whnf);first | exact zf | refine zm ?_ | refine (.inr ?_:(∃_,_)∨_) | refine (h1 ?_) | intro _)
  exact hk
end Go.Proofs.YtjpgfgajkjhonaaGreatDoor
namespace Go.Proofs.YtjpgfgajkjhonaaGreatDoor
open Go.Vx
set_option maxRecDepth 100000
def lg (id:List UInt8) (l:List Va):Fx:=bif id == [] then .no else .L9 ⟨id,l⟩
theorem AZ {K:Out→H→Prop} (c:Ca) (s:bq) (id:List UInt8) (l:List Va) (hk:K (.ret (.tu [])) (KN c (lg id l) false s)):Sat Tryz.prog 247 [.p 0 0,.d (.str id),.d (.sl 5 (l.map cE))] (eM c s) K:=by
 unfold lg at hk;cases he:id == [] with
 |true=>
  rw [he] at hk;have e:id = []:=by simpa using he
  subst e;refine s247.go (keep:=false) rfl ?_
  repeat' ((conv=>whnf);first | exact zf | refine zm ?_ | refine zt ?_ | refine zu ?_ | intro _)
  exact hk
 |false=>
  rw [he,cond_false] at hk;have e:¬id = []:=by simpa using he
  have e2:(id != [])=true:=by simp [bne,he]
  refine s247.go (keep:=false) rfl ?_
  repeat' ((conv=>whnf);first | exact zf | refine (sd ?_) | refine zm ?_ | refine (gG e2 ?_) | refine zt ?_ | refine zu ?_ | intro _)
  exact hk
structure Q8 (c:Ca) (l:Lb):Prop where
  n:Kw c.t
  g:iv c.t.g
  l:cL l
  f:c.t.c.fr.length<1000000000
  sc:c.t.sc.length<1000000000
  w:0≤c.now∧c.now<1000000000
def lC (c:Ca) (a:Va) (l:Lb) (tk ro:Int):Th:=bif c_ c.t l tk ro==0 then AE c.t c.o.a (gF c.im c.o.a) a c.ma l tk ro c.now (cr (l4 c.t)) else c.t
theorem F_ (c:Ca) (a:Va) (l:Lb) (tk ro:Int) (h:Q8 c l) :
  bJ Tryz.prog 254 [eX c.t,.d (.int .i64 c.o.a),.d (.int .i64 (gF c.im c.o.a)),jT a,.d (.int .u8 c.ma),jr l,.d (.int .i64 tk),.d (.int .i64 ro),.d (.int .i64 c.now)] (.tu [eX (lC c a l tk ro),.d (.int .i64 (c_ c.t l tk ro))]):=by
 have hm:c.t.ma=(c.t.ma.toNat:Nat):=by have:=h.n.m0;omega
 have hm1:c.t.ma.toNat<100:=by have:=h.n.m1;omega
 have no:∀{t:Th},iB c.t c.o.a (gF c.im c.o.a) a c.ma l tk ro c.now→c_ c.t l tk ro≠0→bJ Tryz.prog 254 [eX c.t,.d (.int .i64 c.o.a),.d (.int .i64 (gF c.im c.o.a)),jT a,.d (.int .u8 c.ma),jr l,.d (.int .i64 tk),.d (.int .i64 ro),.d (.int .i64 c.now)] (.tu [eX (lC c a l tk ro),.d (.int .i64 (c_ c.t l tk ro))]):=λh1 h2=>by
  have e:lC c a l tk ro=c.t:=by
   unfold lC;rw [show (c_ c.t l tk ro==0)=false by simp [h2]];rfl
  rw [e];exact h1
 by_cases h0:tk<1∨1000<tk
 ·exact no (t:=c.t) (xe _ _ _ _ _ _ _ _ _ h0) (by unfold c_;rw [if_pos h0];decide)
 by_cases h1:ro<0∨999<ro
 ·exact no (t:=c.t) (AD _ _ _ _ _ _ _ _ _ h0 h1) (by unfold c_;rw [if_neg h0,if_pos h1];decide)
 by_cases h2:bR c.t.g l=0
 ·by_cases h3:c.t.ro≤ro
  ·exact no (t:=c.t) (xf _ _ _ _ _ _ _ _ _ h.g h.l h0 h1 h2 h3 _ _ h.n.pa hm h.n.ne h.n.le h.n.sm hm1) (by unfold c_;rw [if_neg h0,if_neg h1,if_neg (by simp [h2]),if_pos h3];decide)
  ·cases h4:dZ c.t.c with
   |false=>exact no (t:=c.t) (xg _ _ _ _ _ _ _ _ _ h.g h.l h0 h1 h2 h3 h.n.r2 _ _ h.n.pa hm h.n.ne h.n.le h.n.sm hm1 h.f h4) (by unfold c_;rw [if_neg h0,if_neg h1,if_neg (by simp [h2]),if_neg h3,if_pos h4];decide)
   |true=>
    have e:c_ c.t l tk ro=0:=by unfold c_;rw [if_neg h0,if_neg h1,if_neg (by simp [h2]),if_neg h3,if_neg (by simp [h4])]
    have hr:=sN c.t c.o.a (gF c.im c.o.a) a c.ma l tk ro c.now h.g h.l h0 h1 h2 h3 h.n.r2 _ _ h.n.pa hm h.n.ne h.n.le h.n.sm hm1 h.f h.sc h.w h4;unfold lC;rw [e];exact hr
 ·exact no (t:=c.t) (xd _ _ _ _ _ _ _ _ _ h.g h.l h0 h1 h2) (by unfold c_;rw [if_neg h0,if_neg h1,if_pos h2];exact h2)
def vA (c:Ca) (s:bq):OR:=bif bz [0,1,1,2] c.ar then
  (bif c_ c.t (bB (c.ar[3]?.getD dR)) (c.ar[2]?.getD dR).n (c.ar[1]?.getD dR).n == 0 then .ok .no fun _ => ({ c with t := lC c (c.ar[0]?.getD dR) (bB (c.ar[3]?.getD dR)) (c.ar[2]?.getD dR).n (c.ar[1]?.getD dR).n }, s)
   else .ex (c_ c.t (bB (c.ar[3]?.getD dR)) (c.ar[2]?.getD dR).n (c.ar[1]?.getD dR).n) c s) else .ex (-1) c s
theorem EG {K:Out→H→Prop} (c:Ca) (s:bq) (a r k m:Va) (har:c.ar = [a,r,k,m]) (h:Q8 c (bB m)) (hk:(vA c s).K K):Sat Tryz.prog 184 [.p 0 0] (eM c s) K:=by
 have h2:=F_ c a (bB m) k.n r.n h;obtain ⟨im,now,t,tr,o,ar,ma⟩:=c;subst har;have h4:=ue (K:=λout hh=>out = .ret (.d (.int .i64 (gF im o.a)))∧hh=eM ⟨im,now,t,tr,o,[a,r,k,m],ma⟩ s) ⟨im,now,t,tr,o,[a,r,k,m],ma⟩ s o.a ⟨rfl,rfl⟩;unfold vA at hk;cases hb:bz [0,1,1,2] [a,r,k,m] with
 |true=>
  have h1:=λ{K:Out→H→Prop}=>dX (K:=K) ⟨im,now,t,tr,o,[a,r,k,m],ma⟩ s [0,1,1,2] (aQ _) hb;dsimp only at hk;rw [hb,cond_true] at hk
  replace hk:OR.K (bif c_ t (bB m) k.n r.n==0 then .ok .no λ_=>(⟨im,now,lC ⟨im,now,t,tr,o,[a,r,k,m],ma⟩ a (bB m) k.n r.n,tr,o,[a,r,k,m],ma⟩,s) else .ex (c_ t (bB m) k.n r.n) ⟨im,now,t,tr,o,[a,r,k,m],ma⟩ s) K:=hk
  generalize lC ⟨im,now,t,tr,o,[a,r,k,m],ma⟩ a (bB m) k.n r.n=u at h2 hk
  by_cases hw:c_ t (bB m) k.n r.n=0
  ·rw [show (c_ t (bB m) k.n r.n==0)=true by simp [hw],cond_true] at hk;rw [show c_ (Ca.t ⟨im,now,t,tr,o,[a,r,k,m],ma⟩) (bB m) k.n r.n=0 from hw] at h2;refine s184.go (keep:=false) rfl ?_
   repeat' ((conv=>whnf);first | exact zf | refine (bp (bw ?_):eQ _ (eQ (kG _ _ _ _ 251 _ _ _ _ _ _ _) _)) | refine zm ?_ | refine (.inr ?_:(∃_,_)∨_) | refine (h1 ?_) | refine ⟨_,_,h4,?_⟩ | refine zc h2 ?_ | refine (gT ?_) | refine ⟨_,⟨by omega,rfl,rfl⟩,?_⟩ | intro _)
   exact hk none
  ·rw [show (c_ t (bB m) k.n r.n==0)=false by simp [hw],cond_false] at hk;refine s184.go (keep:=false) rfl ?_
   repeat' ((conv=>whnf);first | exact zf | refine (bp (bw ?_):eQ _ (eQ (kG _ _ _ _ 251 _ _ _ _ _ _ _) _)) | refine zm ?_ | refine (.inr ?_:(∃_,_)∨_) | refine (h1 ?_) | refine ⟨_,_,h4,?_⟩ | refine zc h2 ?_ | refine (j5 _ hw ?_) | refine ⟨_,⟨by omega,rfl,rfl⟩,?_⟩ | intro _)
   exact hk
 |false=>
  have h1:=λ{K:Out→H→Prop}=>dY (K:=K) ⟨im,now,t,tr,o,[a,r,k,m],ma⟩ s [0,1,1,2] (aQ _) hb;dsimp only at hk;rw [hb,cond_false] at hk;refine s184.go (keep:=false) rfl ?_
  repeat' ((conv=>whnf);first | exact zf | refine zm ?_ | refine (.inr ?_:(∃_,_)∨_) | refine (h1 ?_) | intro _)
  exact hk
end Go.Proofs.YtjpgfgajkjhonaaGreatDoor
