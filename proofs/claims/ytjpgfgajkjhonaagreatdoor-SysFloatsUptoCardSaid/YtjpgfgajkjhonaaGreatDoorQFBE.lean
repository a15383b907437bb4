/- What is added where the label may be none of the program's, or with something told already; a thread that is begun. Conditions: as told. -/
import Derived.Test.YtjpgfgajkjhonaaGreatDoorQFBD
import Derived.Test.YtjpgfgajkjhonaaGreatDoorQFAZ
import Derived.Test.YtjpgfgajkjhonaaGreatDoorQFBC
namespace Go.Proofs.YtjpgfgajkjhonaaGreatDoor
open Go.Vx
set_option maxRecDepth 100000
def kZ (s:bq) (kp:List Nat) (o:Ob) (b:Option Nat):bq:=bif kq o.l&&(cD (cr kp) s.th).isNone then qq s kp o b else s
structure U6 (s:bq) (kp:List Nat) (o:Ob):Prop where
  n:gP kp
  gs:lu s
  l:cO o.l
  k3:3≤o.k
  k7:o.k≤7
  q:o.va.q.length<100000000
theorem Ap {K:Out→H→Prop} (s:bq) (kp:List Nat) (o:Ob) (h:U6 s kp o) (hk:∀b n,K (.ret (.d (.int .i64 n))) (kH (kZ s kp o b))):Sat Tryz.prog 14 [.p 0 0,.d (.str (cr kp)),gH o] (kH s) K:=by
 unfold kZ at hk;cases hl:kq o.l with
 |true=>
  rw [hl] at hk;cases hf:cD (cr kp) s.th with
  |none=>
   rw [hf] at hk;exact H3 s kp o h.n h.gs h.l h.k3 h.k7 hl h.q hf λb=>hk b 0
  |some p=>
   rw [hf] at hk;exact EB s kp o p.2 p.1 h.n h.l h.k3 h.k7 hl hf (hk none 12)
 |false=>
  rw [hl] at hk;exact C1 s kp o h.n h.l (.inr hl) (hk none 1)
theorem FQ {K:Out→H→Prop} (c:Ca) (s:bq) (v:Va) (e:Fx) (hl:c.t.c.st.length<1000000000) (hk:K (.ret (.tu [])) (Ks (lR c v) e false s)):Sat Tryz.prog 241 [.p 0 0,j5 v] (Ks c e false s) K:=by
 have h1:=rz c.t.c v hl;cases e
 all_goals
  refine s241.go (keep:=false) rfl ?_
  repeat' ((conv=>whnf);first | exact zf | refine zm ?_ | refine zc h1 ?_ | intro _)
  exact hk
theorem C5 {K:Out→H→Prop} (c:Ca) (s:bq) (kp:List Nat) (o:Ob) (e:Fx) (h:U6 s kp o) (hst:c.t.c.st.length<1000000000) (hk:∀b,K (.ret (.tu [])) (Ks (tO c (cr kp) o) e false (kZ s kp o b))) :
  Sat Tryz.prog 252 [.p 0 0,.d (.str (cr kp)),gH o] (Ks c e false s) K:=by
 have h1:=λ{K:Out→H→Prop}=>Ap (K:=K) s kp o h;have h2:=λ{K:Out→H→Prop} (b:Option Nat)=>FQ (K:=K) c (kZ s kp o b) ⟨o.k,0,cr kp,o.l.s,o.l.i⟩ e hst;cases e
 all_goals
  refine s252.go (keep:=false) rfl ?_
  repeat' ((conv=>whnf);first | exact zf | refine zm ?_ | refine (.inr ?_:(∃_,_)∨_) | refine (h1 (λb n=>?_)) | refine (h2 _ ?_) | intro _)
  exact hk _
structure DH (c:Ca) (s:bq) (o:Ob):Prop where
  n:Ld c.t
  g:jH c.t.g
  l:cO o.l
  gs:lu s
  k3:3≤o.k
  k7:o.k≤7
  q:o.va.q.length<100000000
  st:c.t.c.st.length<1000000000
def jT (c:Ca) (s:bq) (o:Ob):OR:=
 bif bS c.t.g o.l==0 then (bif decide (c.t.ro<1) then .ex (-5) c s else .ok .no λb=>(tO { c with t:=jh c.t } (cr (lY c.t)) o,kZ s (lY c.t) o b)) else .ex (bS c.t.g o.l) c s
set_option maxHeartbeats 2000000 in
theorem pI {K:Out→H→Prop} (c:Ca) (s:bq) (o:Ob) (h:DH c s o) (hk:(jT c s o).K K):Sat Tryz.prog 237 [.p 0 0,gH o] (eN c s) K:=by
 unfold jT at hk;have h1:=fR c.t.g o.l h.g h.l
 by_cases hw:bS c.t.g o.l=0
 ·rw [hw] at hk h1
  by_cases hr:c.t.ro<1
  ·rw [decide_eq_true hr] at hk
   replace hk:K (.ff (nQ (-5))) (eN c s):=hk
   have h2:=λ{K:Out→H→Prop}=>Bb (K:=K) c s hr;refine s237.go (keep:=false) rfl ?_
   repeat' ((conv=>whnf);first | exact zf | refine zm ?_ | refine zc h1 ?_ | intro _)
   conv=>whnf
   refine gf ?_
   repeat' ((conv=>whnf);first | exact zf | refine (dp (wP ?_)) | refine zm ?_ | refine (.inr ?_:(∃_,_)∨_) | refine (h2 ?_) | refine And.intro ?_ ?_ | intro _)
   all_goals exact hk
  ·rw [decide_eq_false hr] at hk
   replace hk:∀b,K (.ret (.tu [])) (eN (tO { c with t:=jh c.t } (cr (lY c.t)) o) (kZ s (lY c.t) o b)):=hk
   have hm:c.t.ma=(c.t.ma.toNat:Nat):=by have:=h.n.m0;omega
   have h2:=λ{K:Out→H→Prop}=>vp (K:=K) c s (kD c.t.pa 0) c.t.ma.toNat h.n.pa hm h.n.ne h.n.le h.n.sm (by have:=h.n.m1;omega) (by omega) h.n.r2;have h4:=λ{K:Out→H→Prop}=>C5 (K:=K) { c with t:=jh c.t } s (lY c.t) o .no ⟨h.n.pQ,h.gs,h.l,h.k3,h.k7,h.q⟩ h.st;refine s237.go (keep:=false) rfl ?_
   repeat' ((conv=>whnf);first | exact zf | refine zm ?_ | refine zc h1 ?_ | intro _)
   conv=>whnf
   refine gf ?_
   repeat' ((conv=>whnf);first | exact zf | refine (dp (dp ?_)) | refine zm ?_ | refine (.inr ?_:(∃_,_)∨_) | refine (h2 ?_) | refine (h4 (λb=>?_)) | refine And.intro ?_ ?_ | intro _)
   all_goals exact hk _
 ·have hb:(bS c.t.g o.l==0)=false:=by simp [hw]
  rw [hb] at hk
  replace hk:K (.ff (nQ (bS c.t.g o.l))) (eN c s):=hk
  refine s237.go (keep:=false) rfl ?_
  repeat' ((conv=>whnf);first | exact zf | refine zm ?_ | refine zc h1 ?_ | refine (ji _ hw ?_) | intro _)
  exact hk
def yE (c:Ca) (a:Va) (l:Lb) (ro:Int):Th:=xe (cr (lY c.t)) ⟨c.t.g.cur,eC l⟩ (f_ c00 c.o.a (gM c.im c.o.a) [a] c.ma) ro
def yF (c:Ca) (ro:Int):Ca:={ c with t:={ jh c.t with ro:=c.t.ro - 1 - ro } }
def jr (c:Ca) (l:Lb) (ro:Int):Int:=bif bS c.t.g l==0 then (bif decide (ro<0)||(decide (999<ro)||decide (c.t.ro≤ro)) then -5 else 0) else bS c.t.g l
def Bu (c:Ca) (s:bq):OR:=bif bw [0,1,2] c.ar then
  (bif jr c (bD (c.ar[2]?.getD dT)) (c.ar[1]?.getD dT).n == 0 then .ok (.fork (yE c (c.ar[0]?.getD dT) (bD (c.ar[2]?.getD dT)) (c.ar[1]?.getD dT).n)) fun b => (tO (yF c (c.ar[1]?.getD dT).n) (cr (lY c.t)) { fO with k := 6, l := bD (c.ar[2]?.getD dT) }, kZ s (lY c.t) { fO with k := 6, l := bD (c.ar[2]?.getD dT) } b)
   else .ex (jr c (bD (c.ar[2]?.getD dT)) (c.ar[1]?.getD dT).n) c s) else .ex (-1) c s
structure TY (c:Ca) (s:bq) (l:Lb):Prop where
  n:Ld c.t
  g:jH c.t.g
  l:cO l
  gs:lu s
  st:c.t.c.st.length<1000000000
theorem KY {K:Out→H→Prop} (c:Ca) (s:bq) (a r m:Va) (har:c.ar = [a,r,m]) (h:TY c s (bD m)) (hk:(Bu c s).K K):Sat Tryz.prog 182 [.p 0 0] (eN c s) K:=by
  obtain ⟨im,now,t,tr,o,ar,ma⟩:=c
  subst har
  have hw:=fR t.g (bD m) h.g h.l
  unfold Bu at hk
  cases hb:bw [0,1,2] [a,r,m] with
  |true=>
    have h1:=λ{K:Out→H→Prop}=>dY (K:=K) ⟨im,now,t,tr,o,[a,r,m],ma⟩ s [0,1,2] (aQ _) hb
    dsimp only at hk
    rw [hb,cond_true] at hk
    by_cases h0:bS t.g (bD m)=0
    · rw [h0] at hw
      have e0:(bS t.g (bD m)==0)=true:=by simp [h0]
      by_cases hr:r.n<0∨999<r.n∨t.ro≤r.n
      · have e1:jr ⟨im,now,t,tr,o,[a,r,m],ma⟩ (bD m) r.n = -5:=by
          unfold jr
          dsimp only
          rw [e0,cond_true]
          have:(decide (r.n<0)||(decide (999<r.n)||decide (t.ro≤r.n)))=true:=by simpa using hr
          rw [this,cond_true]
        replace hk:OR.K (bif jr ⟨im,now,t,tr,o,[a,r,m],ma⟩ (bD m) r.n==0 then .ok (.fork (yE ⟨im,now,t,tr,o,[a,r,m],ma⟩ a (bD m) r.n)) λb=>(tO (yF ⟨im,now,t,tr,o,[a,r,m],ma⟩ r.n) (cr (lY t)) { fO with k:=6,l:=bD m },kZ s (lY t) { fO with k:=6,l:=bD m } b) else .ex (jr ⟨im,now,t,tr,o,[a,r,m],ma⟩ (bD m) r.n) ⟨im,now,t,tr,o,[a,r,m],ma⟩ s) K:=hk
        rw [e1] at hk
        replace hk:K (.ff (nQ (-5))) (eN ⟨im,now,t,tr,o,[a,r,m],ma⟩ s):=hk
        have hr':r.n<0∨(¬r.n<0∧999<r.n)∨(¬r.n<0∧¬999<r.n∧t.ro≤r.n):=by omega
        clear hr
        rcases hr' with hr | hr | hr
        all_goals
          refine s182.go (keep:=false) rfl ?_
          repeat' ((conv=>whnf);first | exact zf | refine zm ?_ | refine (.inr ?_:(∃_,_)∨_) | refine (h1 ?_) | refine ⟨_,⟨by omega,rfl,rfl⟩,?_⟩ | refine zc hw ?_ | refine (gf ?_) | refine (j8 _ ?_) | refine zt ?_ | refine zu ?_ | intro _)
          all_goals exact hk
      · have hr0:¬r.n<0∧¬999<r.n∧¬t.ro≤r.n:=by omega
        clear hr
        have e1:jr ⟨im,now,t,tr,o,[a,r,m],ma⟩ (bD m) r.n=0:=by
          unfold jr
          dsimp only
          rw [e0,cond_true]
          have:(decide (r.n<0)||(decide (999<r.n)||decide (t.ro≤r.n)))=false:=by simp;omega
          rw [this,cond_false]
        replace hk:OR.K (bif jr ⟨im,now,t,tr,o,[a,r,m],ma⟩ (bD m) r.n==0 then .ok (.fork (yE ⟨im,now,t,tr,o,[a,r,m],ma⟩ a (bD m) r.n)) λb=>(tO (yF ⟨im,now,t,tr,o,[a,r,m],ma⟩ r.n) (cr (lY t)) { fO with k:=6,l:=bD m },kZ s (lY t) { fO with k:=6,l:=bD m } b) else .ex (jr ⟨im,now,t,tr,o,[a,r,m],ma⟩ (bD m) r.n) ⟨im,now,t,tr,o,[a,r,m],ma⟩ s) K:=hk
        rw [e1] at hk
        have hm:t.ma=(t.ma.toNat:Nat):=by have:=h.n.m0;dsimp only at this;omega
        have hm1:t.ma.toNat<100:=by have:=h.n.m1;have:=h.n.m0;dsimp only at *;omega
        have hr2:=h.n.r2
        dsimp only at hr2
        have h2:=λ{K:Out→H→Prop}=>vp (K:=K) ⟨im,now,t,tr,o,[a,r,m],ma⟩ s (kD t.pa 0) t.ma.toNat h.n.pa hm h.n.ne h.n.le h.n.sm hm1 (by dsimp only;omega) hr2
        have h4:=vH (K:=λout hh=>out = .ret (.d (.int .i64 (gM im o.a)))∧hh=eN ⟨im,now,jh t,tr,o,[a,r,m],ma⟩ s) ⟨im,now,jh t,tr,o,[a,r,m],ma⟩ s o.a ⟨rfl,rfl⟩
        have h5:bJ Tryz.prog 20 [gT c00,.d (.int .i64 o.a),.d (.int .i64 (gM im o.a)),.d (.sl 5 ([a].map cE)),.d (.int .u8 ma)] (.tu [gT (f_ c00 o.a (gM im o.a) [a] ma),.d (.bool true)]):=kN c00 o.a (gM im o.a) [a] ma (by decide) (show 1<_ by decide)
        have h6:=jg (bD m) h.l
        have h7:=Fh (cr (lY t)) ⟨t.g.cur,eC (bD m)⟩ (f_ c00 o.a (gM im o.a) [a] ma) r.n
        have h8:=λ{K:Out→H→Prop}=>C5 (K:=K) (yF ⟨im,now,t,tr,o,[a,r,m],ma⟩ r.n) s (lY t) { fO with k:=6,l:=bD m } (.fork (yE ⟨im,now,t,tr,o,[a,r,m],ma⟩ a (bD m) r.n)) ⟨h.n.pQ,h.gs,h.l,(show (3:Int)≤6 by decide),(show (6:Int)≤7 by decide),(show (0:Nat)<_ by decide)⟩ h.st
        have hin:eW .i64 (t.ro - 1 - r.n):=by unfold eW;omega
        refine s182.go (keep:=false) rfl ?_
        repeat' ((conv=>whnf);first | exact zf | refine (bo (bu ?_):eQ _ (eQ (kT _ _ _ _ 251 _ _ _ _ _ _ _) _)) | refine zm ?_ | refine (.inr ?_:(∃_,_)∨_) | refine (.inl ⟨hin,?_⟩) | refine (h1 ?_) | refine ⟨_,⟨by omega,rfl,rfl⟩,?_⟩ | refine zc hw ?_ | refine (gf ?_) | refine (h2 ?_) | refine ⟨_,_,h4,?_⟩ | refine zc h5 ?_ | refine zc h6 ?_ | refine zc h7 ?_ | refine (h8 (λb=>?_)) | refine zt ?_ | refine zu ?_ | intro _)
        conv=>whnf
        exact hk _
    · have e0:(bS t.g (bD m)==0)=false:=by simp [h0]
      have e1:jr ⟨im,now,t,tr,o,[a,r,m],ma⟩ (bD m) r.n=bS t.g (bD m):=by
        unfold jr
        dsimp only
        rw [e0,cond_false]
      replace hk:OR.K (bif jr ⟨im,now,t,tr,o,[a,r,m],ma⟩ (bD m) r.n==0 then .ok (.fork (yE ⟨im,now,t,tr,o,[a,r,m],ma⟩ a (bD m) r.n)) λb=>(tO (yF ⟨im,now,t,tr,o,[a,r,m],ma⟩ r.n) (cr (lY t)) { fO with k:=6,l:=bD m },kZ s (lY t) { fO with k:=6,l:=bD m } b) else .ex (jr ⟨im,now,t,tr,o,[a,r,m],ma⟩ (bD m) r.n) ⟨im,now,t,tr,o,[a,r,m],ma⟩ s) K:=hk
      rw [e1,e0,cond_false] at hk
      refine s182.go (keep:=false) rfl ?_
      repeat' ((conv=>whnf);first | exact zf | refine zm ?_ | refine (.inr ?_:(∃_,_)∨_) | refine (h1 ?_) | refine ⟨_,⟨by omega,rfl,rfl⟩,?_⟩ | refine zc hw ?_ | refine (ji _ h0 ?_) | refine zt ?_ | refine zu ?_ | intro _)
      exact hk
  |false=>
    have h1:=λ{K:Out→H→Prop}=>dZ (K:=K) ⟨im,now,t,tr,o,[a,r,m],ma⟩ s [0,1,2] (aQ _) hb
    dsimp only at hk
    rw [hb,cond_false] at hk
    refine s182.go (keep:=false) rfl ?_
    repeat' ((conv=>whnf);first | exact zf | refine zm ?_ | refine (.inr ?_:(∃_,_)∨_) | refine (h1 ?_) | intro _)
    exact hk
end Go.Proofs.YtjpgfgajkjhonaaGreatDoor
namespace Go.Proofs.YtjpgfgajkjhonaaGreatDoor
open Go.Vx
set_option maxRecDepth 100000
def gS (c:Ca) (l:Lb):Ca:={ c with t:={ c.t with g:=tE c.t.g l } }
def pe (c:Ca) (s:bq):OR:=bif bw [5] c.ar then
  (bif bS c.t.g (bD (c.ar[0]?.getD dT)) == 0 then (match dF s (c.ar[0]?.getD dT) with
    |none=>.ok .no λ_=>(kP (gS c (bD (c.ar[0]?.getD dT))) (c.ar[0]?.getD dT).nm,s)
    |some (i,o)=>bif (fA o.va c.t.id).2.2.1 then .ok (mF (fA o.va c.t.id).2.2.2 []) λ_=>(lR (gS c (bD (c.ar[0]?.getD dT))) (fA o.va c.t.id).2.1,kS s i (c.ar[0]?.getD dT).nm { o with va:=(fA o.va c.t.id).1 })
      else .ok .no λ_=>(kP (gS c (bD (c.ar[0]?.getD dT))) (c.ar[0]?.getD dT).nm,kS s i (c.ar[0]?.getD dT).nm { o with va:=(fA o.va c.t.id).1 }))
   else .ex (bS c.t.g (bD (c.ar[0]?.getD dT))) c s) else .ex (-1) c s
def uY (c:Ca) (s:bq):OR:=bif bw [5,0] c.ar then
  (bif bS c.t.g (bD (c.ar[0]?.getD dT)) == 0 then (match dF s (c.ar[0]?.getD dT) with
    |none=>.ok .no λ_=>(kP (gS c (bD (c.ar[0]?.getD dT))) (c.ar[0]?.getD dT).nm,s)
    |some (i,o)=>bif (je o.va c.t.id (c.ar[1]?.getD dT)).2.1 then .ok (mF (je o.va c.t.id (c.ar[1]?.getD dT)).2.2 [c.ar[1]?.getD dT]) λ_=>(gS c (bD (c.ar[0]?.getD dT)),kS s i (c.ar[0]?.getD dT).nm { o with va:=(je o.va c.t.id (c.ar[1]?.getD dT)).1 })
      else .ok .no λ_=>(kP (gS c (bD (c.ar[0]?.getD dT))) (c.ar[0]?.getD dT).nm,kS s i (c.ar[0]?.getD dT).nm { o with va:=(je o.va c.t.id (c.ar[1]?.getD dT)).1 }))
   else .ex (bS c.t.g (bD (c.ar[0]?.getD dT))) c s) else .ex (-1) c s
theorem uw {q:List Wt} {i:Nat}:(q6 q i).length≤q.length:=by
 unfold q6;rw [aL,ah,bz];omega
theorem uP {x:Vr} {id:List UInt8}:(fA x id).1.q.length≤x.q.length+1:=by
 unfold fA;cases x.full with
 |false=>simp
 |true=>
  cases x.q[rP true x.q]? with
  |none=>exact cL _
  |some w=>exact eA uw
theorem xY {x:Vr} {id:List UInt8} {v:Va}:(je x id v).1.q.length≤x.q.length+1:=by
 unfold je;cases x.full with
 |true=>simp
 |false=>
  cases x.q[rP false x.q]? with
  |none=>exact cL _
  |some w=>exact eA uw
def Gc (s:bq) (nm:List UInt8):Prop:=∀i o,cD nm s.th=some (i,o)→o.va.q.length<90000000
theorem Gc.sm {s:bq} {nm:List UInt8} (h:Gc s nm):vS s nm:=λi o ho=>by have:=h i o ho;omega
theorem zB {K:Out→H→Prop} (c:Ca) (s:bq) (h:Va) (har:c.ar = [h]) (hs:jH c.t.g) (hl:cO (bD h)) (hst:c.t.c.st.length<1000000000) (hqa:Gc s h.nm) (hk:(pe c s).K K):Sat Tryz.prog 180 [.p 0 0] (eN c s) K:=by
 obtain ⟨im,now,t,tr,op,ar,ma⟩:=c;subst har;unfold pe at hk;cases hb:bw [5] [h] with
 |true=>
  have h1:=λ{K:Out→H→Prop}=>dY (K:=K) ⟨im,now,t,tr,op,[h],ma⟩ s [5] (aQ _) hb;dsimp only at hk;rw [hb,cond_true] at hk
  by_cases hw:bS t.g (bD h)=0
  ·have h2:=λ{K:Out→H→Prop}=>CL (K:=K) ⟨im,now,t,tr,op,[h],ma⟩ s (bD h) hs hl hw;have h4:=λ{K:Out→H→Prop}=>jd (K:=K) (gS ⟨im,now,t,tr,op,[h],ma⟩ (bD h)) s h hqa.sm
   replace hk:OR.K (match dF s h with
    |none=>.ok .no λ_=>(kP (gS ⟨im,now,t,tr,op,[h],ma⟩ (bD h)) h.nm,s)
    |some (i,o)=>bif (fA o.va t.id).2.2.1 then .ok (mF (fA o.va t.id).2.2.2 []) λ_=>(lR (gS ⟨im,now,t,tr,op,[h],ma⟩ (bD h)) (fA o.va t.id).2.1,kS s i h.nm { o with va:=(fA o.va t.id).1 })
     else .ok .no λ_=>(kP (gS ⟨im,now,t,tr,op,[h],ma⟩ (bD h)) h.nm,kS s i h.nm { o with va:=(fA o.va t.id).1 })) K:=by
    have e0:(bS t.g (bD h)==0)=true:=by simp [hw]
    have:=hk;rw [show (bS t.g (bD ([h][0]?.getD dT))==0)=true from e0,cond_true] at this;exact this
   unfold lJ at h4;cases ht:dF s h with
   |none=>
    rw [ht] at h4 hk;have h5:=λ{K:Out→H→Prop}=>mG (K:=K) (gS ⟨im,now,t,tr,op,[h],ma⟩ (bD h)) s h.nm;refine s180.go (keep:=false) rfl ?_
    repeat' ((conv=>whnf);first | exact zf | refine zm ?_ | refine (.inr ?_:(∃_,_)∨_) | refine (h1 ?_) | refine (h2 ?_) | refine (h4 ?_) | refine (h5 ?_) | refine ⟨_,⟨by omega,rfl,rfl⟩,?_⟩ | refine zt ?_ | refine zu ?_ | intro _)
    exact hk none
   |some p=>
    obtain ⟨i,o⟩:=p;rw [ht] at h4 hk;dsimp only at hk;have hlk:=mJ ht;have hq:=hqa i o hlk;have h5:=JJ o.va t.id (by omega);have hql:=uP (x:=o.va) (id:=t.id);generalize fA o.va t.id=r at h5 hql hk;obtain ⟨y,v,b,w⟩:=r;have h6:=λ{K:Out→H→Prop}=>lN (K:=K) s h.nm i { o with va:=y } o hlk rfl rfl (by dsimp only at hql ⊢;omega);cases b with
    |true=>
     have h7:=λ{K:Out→H→Prop}=>j1 (K:=K) (gS ⟨im,now,t,tr,op,[h],ma⟩ (bD h)) (kS s i h.nm { o with va:=y }) v hst;have h8:=λ{K:Out→H→Prop}=>BA (K:=K) (lR (gS ⟨im,now,t,tr,op,[h],ma⟩ (bD h)) v) (kS s i h.nm { o with va:=y }) w [];unfold mF at h8 hk;cases he:w == []
     all_goals
      rw [he] at h8 hk;refine s180.go (keep:=false) rfl ?_
      repeat' ((conv=>whnf);first | exact zf | refine zm ?_ | refine (.inr ?_:(∃_,_)∨_) | refine (h1 ?_) | refine (h2 ?_) | refine (h4 ?_) | refine zc h5 ?_ | refine (h6 ?_) | refine (h7 ?_) | refine (h8 ?_) | refine ⟨_,⟨by omega,rfl,rfl⟩,?_⟩ | refine zt ?_ | refine zu ?_ | intro _)
      exact hk none
    |false=>
     have h7:=λ{K:Out→H→Prop}=>mG (K:=K) (gS ⟨im,now,t,tr,op,[h],ma⟩ (bD h)) (kS s i h.nm { o with va:=y }) h.nm;refine s180.go (keep:=false) rfl ?_
     repeat' ((conv=>whnf);first | exact zf | refine zm ?_ | refine (.inr ?_:(∃_,_)∨_) | refine (h1 ?_) | refine (h2 ?_) | refine (h4 ?_) | refine zc h5 ?_ | refine (h6 ?_) | refine (h7 ?_) | refine ⟨_,⟨by omega,rfl,rfl⟩,?_⟩ | refine zt ?_ | refine zu ?_ | intro _)
     exact hk none
  ·have h2:=λ{K:Out→H→Prop}=>CM (K:=K) ⟨im,now,t,tr,op,[h],ma⟩ s (bD h) hs hl hw;have e0:(bS t.g (bD h)==0)=false:=by simp [hw]
   rw [show (bS t.g (bD ([h][0]?.getD dT))==0)=false from e0,cond_false] at hk;refine s180.go (keep:=false) rfl ?_
   repeat' ((conv=>whnf);first | exact zf | refine zm ?_ | refine (.inr ?_:(∃_,_)∨_) | refine (h1 ?_) | refine (h2 ?_) | refine ⟨_,⟨by omega,rfl,rfl⟩,?_⟩ | refine zt ?_ | refine zu ?_ | intro _)
   exact hk
 |false=>
  have h1:=λ{K:Out→H→Prop}=>dZ (K:=K) ⟨im,now,t,tr,op,[h],ma⟩ s [5] (aQ _) hb;dsimp only at hk;rw [hb,cond_false] at hk;refine s180.go (keep:=false) rfl ?_
  repeat' ((conv=>whnf);first | exact zf | refine zm ?_ | refine (.inr ?_:(∃_,_)∨_) | refine (h1 ?_) | intro _)
  exact hk
theorem DD {K:Out→H→Prop} (c:Ca) (s:bq) (h v:Va) (har:c.ar = [h,v]) (hs:jH c.t.g) (hl:cO (bD h)) (hqa:Gc s h.nm) (hk:(uY c s).K K):Sat Tryz.prog 181 [.p 0 0] (eN c s) K:=by
 obtain ⟨im,now,t,tr,op,ar,ma⟩:=c;subst har;unfold uY at hk;cases hb:bw [5,0] [h,v] with
 |true=>
  have h1:=λ{K:Out→H→Prop}=>dY (K:=K) ⟨im,now,t,tr,op,[h,v],ma⟩ s [5,0] (aQ _) hb;dsimp only at hk;rw [hb,cond_true] at hk
  by_cases hw:bS t.g (bD h)=0
  ·have h2:=λ{K:Out→H→Prop}=>CL (K:=K) ⟨im,now,t,tr,op,[h,v],ma⟩ s (bD h) hs hl hw;have h4:=λ{K:Out→H→Prop}=>jd (K:=K) (gS ⟨im,now,t,tr,op,[h,v],ma⟩ (bD h)) s h hqa.sm
   replace hk:OR.K (match dF s h with
    |none=>.ok .no λ_=>(kP (gS ⟨im,now,t,tr,op,[h,v],ma⟩ (bD h)) h.nm,s)
    |some (i,o)=>bif (je o.va t.id v).2.1 then .ok (mF (je o.va t.id v).2.2 [v]) λ_=>(gS ⟨im,now,t,tr,op,[h,v],ma⟩ (bD h),kS s i h.nm { o with va:=(je o.va t.id v).1 })
     else .ok .no λ_=>(kP (gS ⟨im,now,t,tr,op,[h,v],ma⟩ (bD h)) h.nm,kS s i h.nm { o with va:=(je o.va t.id v).1 })) K:=by
    have e0:(bS t.g (bD h)==0)=true:=by simp [hw]
    have:=hk;rw [show (bS t.g (bD ([h,v][0]?.getD dT))==0)=true from e0,cond_true] at this;exact this
   unfold lJ at h4;cases ht:dF s h with
   |none=>
    rw [ht] at h4 hk;have h5:=λ{K:Out→H→Prop}=>mG (K:=K) (gS ⟨im,now,t,tr,op,[h,v],ma⟩ (bD h)) s h.nm;refine s181.go (keep:=false) rfl ?_
    repeat' ((conv=>whnf);first | exact zf | refine zm ?_ | refine (.inr ?_:(∃_,_)∨_) | refine (h1 ?_) | refine (h2 ?_) | refine (h4 ?_) | refine (h5 ?_) | refine ⟨_,⟨by omega,rfl,rfl⟩,?_⟩ | refine zt ?_ | refine zu ?_ | intro _)
    exact hk none
   |some p=>
    obtain ⟨i,o⟩:=p;rw [ht] at h4 hk;dsimp only at hk;have hlk:=mJ ht;have hq:=hqa i o hlk;have h5:=My o.va t.id v (by omega);have hql:=xY (x:=o.va) (id:=t.id) (v:=v);generalize je o.va t.id v=r at h5 hql hk;obtain ⟨y,b,w⟩:=r;have h6:=λ{K:Out→H→Prop}=>lN (K:=K) s h.nm i { o with va:=y } o hlk rfl rfl (by dsimp only at hql ⊢;omega);cases b with
    |true=>
     have h8:=λ{K:Out→H→Prop}=>BA (K:=K) (gS ⟨im,now,t,tr,op,[h,v],ma⟩ (bD h)) (kS s i h.nm { o with va:=y }) w [v];unfold mF at h8 hk;cases he:w == []
     all_goals
      rw [he] at h8 hk;refine s181.go (keep:=false) rfl ?_
      repeat' ((conv=>whnf);first | exact zf | refine zm ?_ | refine (.inr ?_:(∃_,_)∨_) | refine (h1 ?_) | refine (h2 ?_) | refine (h4 ?_) | refine zc h5 ?_ | refine (h6 ?_) | refine (h8 ?_) | refine ⟨_,⟨by omega,rfl,rfl⟩,?_⟩ | refine zt ?_ | refine zu ?_ | intro _)
      exact hk none
    |false=>
     have h7:=λ{K:Out→H→Prop}=>mG (K:=K) (gS ⟨im,now,t,tr,op,[h,v],ma⟩ (bD h)) (kS s i h.nm { o with va:=y }) h.nm;refine s181.go (keep:=false) rfl ?_
     repeat' ((conv=>whnf);first | exact zf | refine zm ?_ | refine (.inr ?_:(∃_,_)∨_) | refine (h1 ?_) | refine (h2 ?_) | refine (h4 ?_) | refine zc h5 ?_ | refine (h6 ?_) | refine (h7 ?_) | refine ⟨_,⟨by omega,rfl,rfl⟩,?_⟩ | refine zt ?_ | refine zu ?_ | intro _)
     exact hk none
  ·have h2:=λ{K:Out→H→Prop}=>CM (K:=K) ⟨im,now,t,tr,op,[h,v],ma⟩ s (bD h) hs hl hw;have e0:(bS t.g (bD h)==0)=false:=by simp [hw]
   rw [show (bS t.g (bD ([h,v][0]?.getD dT))==0)=false from e0,cond_false] at hk;refine s181.go (keep:=false) rfl ?_
   repeat' ((conv=>whnf);first | exact zf | refine zm ?_ | refine (.inr ?_:(∃_,_)∨_) | refine (h1 ?_) | refine (h2 ?_) | refine ⟨_,⟨by omega,rfl,rfl⟩,?_⟩ | refine zt ?_ | refine zu ?_ | intro _)
   exact hk
 |false=>
  have h1:=λ{K:Out→H→Prop}=>dZ (K:=K) ⟨im,now,t,tr,op,[h,v],ma⟩ s [5,0] (aQ _) hb;dsimp only at hk;rw [hb,cond_false] at hk;refine s181.go (keep:=false) rfl ?_
  repeat' ((conv=>whnf);first | exact zf | refine zm ?_ | refine (.inr ?_:(∃_,_)∨_) | refine (h1 ?_) | intro _)
  exact hk
end Go.Proofs.YtjpgfgajkjhonaaGreatDoor
namespace Go.Proofs.YtjpgfgajkjhonaaGreatDoor
open Go.Vx
set_option maxRecDepth 100000
def sD (k:Int) (c:Ca) (s:bq):OR:=bif bw [0,2] c.ar then jT c s { fO with k:=k,l:=bD (c.ar[1]?.getD dT),v:=c.ar[0]?.getD dT } else .ex (-1) c s
theorem AA {K:Out→H→Prop} (c:Ca) (s:bq) (a m:Va) (har:c.ar = [a,m]) (h:DH c s { fO with k:=3,l:=bD m,v:=a }) (hk:(sD 3 c s).K K):Sat Tryz.prog 174 [.p 0 0] (eN c s) K:=by
 obtain ⟨im,now,t,tr,o,ar,ma⟩:=c;subst har;have h2:=λ{K:Out→H→Prop}=>pI (K:=K) ⟨im,now,t,tr,o,[a,m],ma⟩ s _ h;unfold sD at hk;cases hb:bw [0,2] [a,m] with
 |true=>
  have h1:=λ{K:Out→H→Prop}=>dY (K:=K) ⟨im,now,t,tr,o,[a,m],ma⟩ s [0,2] (aQ _) hb;dsimp only at hk;rw [hb,cond_true] at hk
  replace hk:(jT ⟨im,now,t,tr,o,[a,m],ma⟩ s { fO with k:=3,l:=bD m,v:=a }).K K:=hk
  generalize hR:jT ⟨im,now,t,tr,o,[a,m],ma⟩ s { fO with k:=3,l:=bD m,v:=a }=R at h2 hk;cases R with
  |ok e f=>
   cases e
   all_goals
    refine s174.go (keep:=false) rfl ?_
    repeat' ((conv=>whnf);first | exact zf | refine zm ?_ | refine (.inr ?_:(∃_,_)∨_) | refine (h1 ?_) | refine (h2 (λb=>?_)) | refine ⟨_,⟨by omega,rfl,rfl⟩,?_⟩ | intro _)
    exact hk _
  |ex n c' s'=>
   have h3:=λ{K:Out→H→Prop} (g:K (.ff (nQ n)) (eN c' s'))=>h2 (K:=K) g;refine s174.go (keep:=false) rfl ?_
   repeat' ((conv=>whnf);first | exact zf | refine zm ?_ | refine (.inr ?_:(∃_,_)∨_) | refine (h1 ?_) | refine (h3 ?_) | refine ⟨_,⟨by omega,rfl,rfl⟩,?_⟩ | intro _)
   exact hk
 |false=>
  have h1:=λ{K:Out→H→Prop}=>dZ (K:=K) ⟨im,now,t,tr,o,[a,m],ma⟩ s [0,2] (aQ _) hb;dsimp only at hk;rw [hb,cond_false] at hk;refine s174.go (keep:=false) rfl ?_
  repeat' ((conv=>whnf);first | exact zf | refine zm ?_ | refine (.inr ?_:(∃_,_)∨_) | refine (h1 ?_) | intro _)
  exact hk
theorem z_ {K:Out→H→Prop} (c:Ca) (s:bq) (a m:Va) (har:c.ar = [a,m]) (h:DH c s { fO with k:=4,l:=bD m,v:=a }) (hk:(sD 4 c s).K K):Sat Tryz.prog 176 [.p 0 0] (eN c s) K:=by
 obtain ⟨im,now,t,tr,o,ar,ma⟩:=c;subst har;have h2:=λ{K:Out→H→Prop}=>pI (K:=K) ⟨im,now,t,tr,o,[a,m],ma⟩ s _ h;unfold sD at hk;cases hb:bw [0,2] [a,m] with
 |true=>
  have h1:=λ{K:Out→H→Prop}=>dY (K:=K) ⟨im,now,t,tr,o,[a,m],ma⟩ s [0,2] (aQ _) hb;dsimp only at hk;rw [hb,cond_true] at hk
  replace hk:(jT ⟨im,now,t,tr,o,[a,m],ma⟩ s { fO with k:=4,l:=bD m,v:=a }).K K:=hk
  generalize hR:jT ⟨im,now,t,tr,o,[a,m],ma⟩ s { fO with k:=4,l:=bD m,v:=a }=R at h2 hk;cases R with
  |ok e f=>
   cases e
   all_goals
    refine s176.go (keep:=false) rfl ?_
    repeat' ((conv=>whnf);first | exact zf | refine zm ?_ | refine (.inr ?_:(∃_,_)∨_) | refine (h1 ?_) | refine (h2 (λb=>?_)) | refine ⟨_,⟨by omega,rfl,rfl⟩,?_⟩ | intro _)
    exact hk _
  |ex n c' s'=>
   have h3:=λ{K:Out→H→Prop} (g:K (.ff (nQ n)) (eN c' s'))=>h2 (K:=K) g;refine s176.go (keep:=false) rfl ?_
   repeat' ((conv=>whnf);first | exact zf | refine zm ?_ | refine (.inr ?_:(∃_,_)∨_) | refine (h1 ?_) | refine (h3 ?_) | refine ⟨_,⟨by omega,rfl,rfl⟩,?_⟩ | intro _)
   exact hk
 |false=>
  have h1:=λ{K:Out→H→Prop}=>dZ (K:=K) ⟨im,now,t,tr,o,[a,m],ma⟩ s [0,2] (aQ _) hb;dsimp only at hk;rw [hb,cond_false] at hk;refine s176.go (keep:=false) rfl ?_
  repeat' ((conv=>whnf);first | exact zf | refine zm ?_ | refine (.inr ?_:(∃_,_)∨_) | refine (h1 ?_) | intro _)
  exact hk
def vn (c:Ca) (s:bq):OR:=bif bw [2] c.ar then jT c s { fO with k:=5,l:=bD (c.ar[0]?.getD dT) } else .ex (-1) c s
theorem zy {K:Out→H→Prop} (c:Ca) (s:bq) (m:Va) (har:c.ar = [m]) (h:DH c s { fO with k:=5,l:=bD m }) (hk:(vn c s).K K):Sat Tryz.prog 179 [.p 0 0] (eN c s) K:=by
 obtain ⟨im,now,t,tr,o,ar,ma⟩:=c;subst har;have h2:=λ{K:Out→H→Prop}=>pI (K:=K) ⟨im,now,t,tr,o,[m],ma⟩ s _ h;unfold vn at hk;cases hb:bw [2] [m] with
 |true=>
  have h1:=λ{K:Out→H→Prop}=>dY (K:=K) ⟨im,now,t,tr,o,[m],ma⟩ s [2] (aQ _) hb;dsimp only at hk;rw [hb,cond_true] at hk
  replace hk:(jT ⟨im,now,t,tr,o,[m],ma⟩ s { fO with k:=5,l:=bD m }).K K:=hk
  generalize hR:jT ⟨im,now,t,tr,o,[m],ma⟩ s { fO with k:=5,l:=bD m }=R at h2 hk;cases R with
  |ok e f=>
   cases e
   all_goals
    refine s179.go (keep:=false) rfl ?_
    repeat' ((conv=>whnf);first | exact zf | refine zm ?_ | refine (.inr ?_:(∃_,_)∨_) | refine (h1 ?_) | refine (h2 (λb=>?_)) | refine ⟨_,⟨by omega,rfl,rfl⟩,?_⟩ | intro _)
    exact hk _
  |ex n c' s'=>
   have h3:=λ{K:Out→H→Prop} (g:K (.ff (nQ n)) (eN c' s'))=>h2 (K:=K) g;refine s179.go (keep:=false) rfl ?_
   repeat' ((conv=>whnf);first | exact zf | refine zm ?_ | refine (.inr ?_:(∃_,_)∨_) | refine (h1 ?_) | refine (h3 ?_) | refine ⟨_,⟨by omega,rfl,rfl⟩,?_⟩ | intro _)
   exact hk
 |false=>
  have h1:=λ{K:Out→H→Prop}=>dZ (K:=K) ⟨im,now,t,tr,o,[m],ma⟩ s [2] (aQ _) hb;dsimp only at hk;rw [hb,cond_false] at hk;refine s179.go (keep:=false) rfl ?_
  repeat' ((conv=>whnf);first | exact zf | refine zm ?_ | refine (.inr ?_:(∃_,_)∨_) | refine (h1 ?_) | intro _)
  exact hk
def vo (c:Ca) (s:bq):OR:=bif bw [2] c.ar then jT c s { fO with k:=7,l:=bD (c.ar[0]?.getD dT),fu:=c.o.a,ma:=c.ma } else .ex (-1) c s
theorem xf {K:Out→H→Prop} (c:Ca) (s:bq) (m:Va) (har:c.ar = [m]) (h:DH c s { fO with k:=7,l:=bD m,fu:=c.o.a,ma:=c.ma }) (hk:(vo c s).K K):Sat Tryz.prog 188 [.p 0 0] (eN c s) K:=by
 obtain ⟨im,now,t,tr,o,ar,ma⟩:=c;subst har;have h2:=λ{K:Out→H→Prop}=>pI (K:=K) ⟨im,now,t,tr,o,[m],ma⟩ s _ h;unfold vo at hk;cases hb:bw [2] [m] with
 |true=>
  have h1:=λ{K:Out→H→Prop}=>dY (K:=K) ⟨im,now,t,tr,o,[m],ma⟩ s [2] (aQ _) hb;dsimp only at hk;rw [hb,cond_true] at hk
  replace hk:(jT ⟨im,now,t,tr,o,[m],ma⟩ s { fO with k:=7,l:=bD m,fu:=o.a,ma:=ma }).K K:=hk
  generalize hR:jT ⟨im,now,t,tr,o,[m],ma⟩ s { fO with k:=7,l:=bD m,fu:=o.a,ma:=ma }=R at h2 hk;cases R with
  |ok e f=>
   cases e
   all_goals
    refine s188.go (keep:=false) rfl ?_
    repeat' ((conv=>whnf);first | exact zf | refine zm ?_ | refine (.inr ?_:(∃_,_)∨_) | refine (h1 ?_) | refine (h2 (λb=>?_)) | refine ⟨_,⟨by omega,rfl,rfl⟩,?_⟩ | intro _)
    exact hk _
  |ex n c' s'=>
   have h3:=λ{K:Out→H→Prop} (g:K (.ff (nQ n)) (eN c' s'))=>h2 (K:=K) g;refine s188.go (keep:=false) rfl ?_
   repeat' ((conv=>whnf);first | exact zf | refine zm ?_ | refine (.inr ?_:(∃_,_)∨_) | refine (h1 ?_) | refine (h3 ?_) | refine ⟨_,⟨by omega,rfl,rfl⟩,?_⟩ | intro _)
   exact hk
 |false=>
  have h1:=λ{K:Out→H→Prop}=>dZ (K:=K) ⟨im,now,t,tr,o,[m],ma⟩ s [2] (aQ _) hb;dsimp only at hk;rw [hb,cond_false] at hk;refine s188.go (keep:=false) rfl ?_
  repeat' ((conv=>whnf);first | exact zf | refine zm ?_ | refine (.inr ?_:(∃_,_)∨_) | refine (h1 ?_) | intro _)
  exact hk
def jf (c:Ca) (s:bq):OR:=
 bif c.o.c==25 then Nz c s else bif c.o.c==26 then PC c s else bif c.o.c==27 then oE c s else bif c.o.c==28 then vz c s else
 bif c.o.c==29 then sD 3 c s else bif c.o.c==30 then sB c s else bif c.o.c==32 then sD 4 c s else bif c.o.c==33 then ou c s else
 bif c.o.c==34 then p9 c s else bif c.o.c==35 then vn c s else bif c.o.c==36 then pe c s else bif c.o.c==37 then uY c s else
 bif c.o.c==38 then Bu c s else bif c.o.c==39 then BB c s else bif c.o.c==40 then vY c s else bif c.o.c==41 then ze c s else
 bif c.o.c==42 then CC c s else bif c.o.c==43 then Bm c s else bif c.o.c==45 then vo c s else bif c.o.c==46 then rK c s else .ex 0 c s
def codeF:List (Int×Nat×Int):=[(25,170,0),(26,171,0),(27,172,1),(28,173,1),(29,174,2),(30,175,1),(32,176,2),(33,177,1),(34,178,2),(35,179,1),(36,180,1),(37,181,2),(38,182,3),(39,183,1),(40,184,4),(41,185,2),(42,186,1),(43,187,1),(45,188,1),(46,189,2)]
structure DG (c:Ca) (s:bq):Prop where
  n:Ld c.t
  g:jH c.t.g
  ar:∀v∈c.ar,cO (bD v)
  gs:lu s
  st:c.t.c.st.length<800000000
  fr:c.t.c.fr.length<900000000
  sc:c.t.sc.length<900000000
  w:0≤c.now∧c.now<1000000000
  q:∀p∈s.th,p.2.va.q.length<90000000
theorem jl {key:List UInt8}:∀{l:List (List UInt8×Ob)} {i:Nat} {o:Ob},cD key l=some (i,o)→∃p∈l,p.2=o
 |[],_,_,h=>nomatch h
 |p :: r,i,o,h=>by
  unfold cD at h
  by_cases hb:key=p.1
  ·rw [if_pos hb] at h;cases h;exact ⟨p,bZ ..,rfl⟩
  ·rw [if_neg hb] at h;cases hr:cD key r with
   |none=>rw [hr] at h;cases h
   |some q=>
    rw [hr] at h;obtain ⟨p',hp,he⟩:=jl (i:=q.1) (o:=q.2) (by rw [hr]);cases h;exact ⟨p',cM _ hp,he⟩
theorem DG.Nn {c:Ca} {s:bq} (h:DG c s) (nm:List UInt8):Gc s nm:=λi o ho=>by
 obtain ⟨p,hp,he⟩:=jl ho;rw [←he];exact h.q p hp
theorem DG.Sb {c:Ca} {s:bq} (h:DG c s) (o:Ob) (hl:cO o.l) (h3:3≤o.k) (h7:o.k≤7) (hq:o.va.q.length<100000000):DH c s o:=⟨h.n,h.g,hl,h.gs,h3,h7,hq,by have:=h.st;omega⟩
theorem Ek (a b:Lb):cO (dR a b):=⟨ft _,ft _⟩
theorem Jh {K:Out→H→Prop} (c:Ca) (s:bq) (F:Nat) (po:Int) (hF:(c.o.c,F,po)∈codeF) (hl:(c.ar.length:Int)=po) (h:DG c s) (hk:(jf c s).K K):Sat Tryz.prog F [.p 0 0] (eN c s) K:=by
 have hst:c.t.c.st.length<1000000000:=by have:=h.st;omega
 have hfr:c.t.c.fr.length<1000000000:=by have:=h.fr;omega
 unfold jf at hk;have a1:c.ar.length=1→∃m,c.ar = [m]:=λe=>eB.1 e;have a2:c.ar.length=2→∃a b,c.ar = [a,b]:=λe=>by
  match har:c.ar,e with
  |[a,b],_=>exact ⟨a,b,rfl⟩
 simp only [codeF,ae,dy,cU,or_false] at hF;rcases hF with ⟨hc,rfl,rfl⟩ | ⟨hc,rfl,rfl⟩ | ⟨hc,rfl,rfl⟩ | ⟨hc,rfl,rfl⟩ | ⟨hc,rfl,rfl⟩ | ⟨hc,rfl,rfl⟩ | ⟨hc,rfl,rfl⟩ | ⟨hc,rfl,rfl⟩ | ⟨hc,rfl,rfl⟩ | ⟨hc,rfl,rfl⟩ | ⟨hc,rfl,rfl⟩ | ⟨hc,rfl,rfl⟩ | ⟨hc,rfl,rfl⟩ | ⟨hc,rfl,rfl⟩ | ⟨hc,rfl,rfl⟩ | ⟨hc,rfl,rfl⟩ | ⟨hc,rfl,rfl⟩ | ⟨hc,rfl,rfl⟩ | ⟨hc,rfl,rfl⟩ | ⟨hc,rfl,rfl⟩<;>rw [hc] at hk
 ·exact N_ c s hst hk
 ·exact PD c s hst hk
 ·obtain ⟨m,e⟩:=a1 (by omega);have hm:=h.ar m (by rw [e];exact bZ ..);exact FM c s m e h.g hm (Ek _ _) hk
 ·obtain ⟨m,e⟩:=a1 (by omega);have hm:=h.ar m (by rw [e];exact bZ ..);exact Fo c s m e h.g hm hk
 ·obtain ⟨a,m,e⟩:=a2 (by omega);have hm:=h.ar m (by rw [e];exact cM _ (bZ ..));exact AA c s a m e (h.Sb _ hm (show (3:Int)≤3 by decide) (show (3:Int)≤7 by decide) (show (0:Nat)<_ by decide)) hk
 ·obtain ⟨m,e⟩:=a1 (by omega);have hm:=h.ar m (by rw [e];exact bZ ..);exact B1 c s m e hst h.g hm (Ek _ _) (h.Nn _).sm hk
 ·obtain ⟨a,m,e⟩:=a2 (by omega);have hm:=h.ar m (by rw [e];exact cM _ (bZ ..));exact z_ c s a m e (h.Sb _ hm (show (3:Int)≤4 by decide) (show (4:Int)≤7 by decide) (show (0:Nat)<_ by decide)) hk
 ·obtain ⟨m,e⟩:=a1 (by omega);have hm:=h.ar m (by rw [e];exact bZ ..);exact z7 c s m e hst h.g hm (Ek _ _) (h.Nn _).sm hk
 ·obtain ⟨a,v,e⟩:=a2 (by omega);have hm:=h.ar a (by rw [e];exact bZ ..);exact w_ c s a v e h.g hm (h.Nn _).sm hk
 ·obtain ⟨m,e⟩:=a1 (by omega);have hm:=h.ar m (by rw [e];exact bZ ..);exact zy c s m e (h.Sb _ hm (show (3:Int)≤5 by decide) (show (5:Int)≤7 by decide) (show (0:Nat)<_ by decide)) hk
 ·obtain ⟨m,e⟩:=a1 (by omega);have hm:=h.ar m (by rw [e];exact bZ ..);exact zB c s m e h.g hm hst (h.Nn _) hk
 ·obtain ⟨a,v,e⟩:=a2 (by omega);have hm:=h.ar a (by rw [e];exact bZ ..);exact DD c s a v e h.g hm (h.Nn _) hk
 ·obtain ⟨a,r,m,e⟩:∃a r m,c.ar = [a,r,m]:=by
   match har:c.ar,hl with
   |[a,r,m],_=>exact ⟨a,r,m,rfl⟩
  have hm:=h.ar m (by rw [e];simp);exact KY c s a r m e ⟨h.n,h.g,hm,h.gs,hst⟩ hk
 ·obtain ⟨m,e⟩:=a1 (by omega);have hm:=h.ar m (by rw [e];exact bZ ..);exact Hz c s m e hst h.g hm (Ek _ _) (h.Nn _).sm hk
 ·obtain ⟨a,r,k,m,e⟩:∃a r k m,c.ar = [a,r,k,m]:=by
   match har:c.ar,hl with
   |[a,r,k,m],_=>exact ⟨a,r,k,m,rfl⟩
  have hm:=h.ar m (by rw [e];simp);exact Ep c s a r k m e ⟨h.n,h.g,hm,hfr,by have:=h.sc;omega,h.w⟩ hk
 ·obtain ⟨a,m,e⟩:=a2 (by omega);have hm:=h.ar m (by rw [e];exact cM _ (bZ ..));exact FX c s a m e h.g hm hk
 ·obtain ⟨m,e⟩:=a1 (by omega);have hm:=h.ar m (by rw [e];exact bZ ..);exact K6 c s m e h.g hm hk
 ·obtain ⟨m,e⟩:=a1 (by omega);have hm:=h.ar m (by rw [e];exact bZ ..);exact Jz c s m e h.g hm hk
 ·obtain ⟨m,e⟩:=a1 (by omega);have hm:=h.ar m (by rw [e];exact bZ ..);exact xf c s m e (h.Sb _ hm (show (3:Int)≤7 by decide) (show (7:Int)≤7 by decide) (show (0:Nat)<_ by decide)) hk
 ·obtain ⟨a,m,e⟩:=a2 (by omega);have hm:=h.ar m (by rw [e];exact cM _ (bZ ..));exact Gi c s a m e hfr hst h.g hm (Ek _ _) (h.Nn _).sm hk
end Go.Proofs.YtjpgfgajkjhonaaGreatDoor
namespace Go.Proofs.YtjpgfgajkjhonaaGreatDoor
open Go.Vx
set_option maxRecDepth 100000
theorem J4 {K:H→Prop} (a b:D) (hk:K [.cells [.d a],.cells [.d b]]):Aq Tryz.prog 169 [.p 0 0,.p 1 0] [.cells [.d a],.cells [.d b]] none K:=by
 refine s169 rfl ?_
 repeat' ((conv=>whnf);first | exact zf | refine zm ?_ | intro _)
 exact hk
theorem J3 {K:H→Prop} (a b:D) (n:Int) (hk:K [.cells [.d (.int .i64 n)],.cells [.d (.bool true)]]):Aq Tryz.prog 169 [.p 0 0,.p 1 0] [.cells [.d a],.cells [.d b]] (some (nQ n)) K:=by
 refine s169 rfl ?_
 repeat' ((conv=>whnf);first | exact zf | refine zm ?_ | intro _)
 exact hk
def OR.L (r:OR) (K:Out→H→Prop):Prop:=match r with
 |.ok e f=>∀b,K (.ret (.tu [.ag [.d (.int .i64 0)],.d (.bool false)])) (Ks (f b).1 e false (f b).2)
 |.ex n c s=>K (.ret (.tu [.ag [.d (.int .i64 n)],.d (.bool true)])) (eN c s)
theorem KA {K:Out→H→Prop} (F:Nat) (hlt:Nat.blt F 5000000=true) (R:OR) (c:Ca) (s:bq) (hF:∀{K:Out→H→Prop},R.K K→Sat Tryz.prog F [.p 0 0] (eN c s) K) (hk:R.L K):Sat Tryz.prog 115 [.p 0 0,.d (.fn F)] (eN c s) K:=by
 cases R with
 |ok e f=>
  cases e
  all_goals
   refine s115 (keep:=false) rfl ?_;unfold Rm
   repeat' ((conv=>whnf);first | exact zf | refine zm ?_ | intro _)
   conv=>whnf
   rw [hlt]
   repeat' ((conv=>whnf);first | exact zf | refine zm ?_ | refine (.inr ?_:(∃_,_)∨_) | refine (hF (λb=>?_)) | refine (J4 _ _ ?_) | intro _)
   exact hk _
 |ex n c' s'=>
  have hF':=λ{K:Out→H→Prop} (h:K (.ff (nQ n)) (eN c' s'))=>hF (K:=K) h;refine s115 (keep:=false) rfl ?_;unfold Rm
  repeat' ((conv=>whnf);first | exact zf | refine zm ?_ | intro _)
  conv=>whnf
  rw [hlt]
  repeat' ((conv=>whnf);first | exact zf | refine zm ?_ | refine (.inr ?_:(∃_,_)∨_) | refine (hF' ?_) | refine (J3 _ _ _ ?_) | intro _)
  exact hk
def UJ:List (Int×Nat):=[(25,170),(26,171),(27,172),(28,173),(29,174),(30,175),(32,176),(33,177),(34,178),(35,179),(36,180),(37,181),(38,182),(39,183),(40,184),(41,185),(42,186),(43,187),(45,188),(46,189)]
def SI:List (V×V):=UJ.map λp=>(.d (.int .i64 p.1),.d (.fn p.2))
def CW (c:Int) (F:Nat):Prop:=∃j,p8 [0,3] [.d (.int .i64 c)] SI 0=some (some (j,.d (.fn F)))
theorem HX {K:Out→H→Prop} (hk:K (.ret (.mp 0)) [.mp SI]):Sat Tryz.prog 116 [] [] K:=by
 refine s116.go (keep:=true) rfl ?_
 repeat' ((conv=>whnf);first | exact zf | refine zm ?_ | refine ⟨_,rfl,?_⟩ | intro _)
 exact hk
def lI (im:Im) (t:Th) (now:Int):Ca:=⟨im,now,t,(bQ t).tr,o0,[],0⟩
def qN (c:Ca) (k:Co):Ca:={ c with t:={ c.t with c:=k } }
def iu (c:Ca) (o:Op) (f:Fr) (po:Int):Ca:={ c with o:=o,ma:=f.ma,ar:=kX c.t.c po,t:={ c.t with c:={ qf c.t.c po with fr:=bW c.t.c.fr f } } }
structure Rs where
  t:Th
  e:Fx
  d:Bool
  s:bq
def Hc (p:Ca×Bool×bq):Rs:=⟨p.1.t,.no,p.2.1,p.2.2⟩
def OR.A (r:OR) (gE:Co) (K:Out→H→Prop):Prop:=match r with
 |.ok e f=>∀b,K (.ret (.tu [])) (Ks (f b).1 e false (f b).2)
 |.ex n c s=>K (.ret (.tu [])) (SA (kW c s gE n))
def OR.fin (r:OR) (gE:Co) (b:Option Nat):Rs:=match r with
 |.ok e f=>⟨(f b).1.t,e,false,(f b).2⟩
 |.ex n c s=>Hc (kW c s gE n)
def EJ (c:Ca) (s:bq):OR:=
 bif c.o.c==27 then oE c s else
 bif c.o.c==29 then DO 3 c s else
 bif c.o.c==30 then sB c s else
 bif c.o.c==32 then DO 4 c s else
 bif c.o.c==35 then Fg c s else
 bif c.o.c==41 then ze c s else .ex 0 c s
def SH (c:Ca) (s:bq) (o:Op) (b:Option Nat):Rs:=
 match c.t.c.fr.getLast?,inf o.c with
 |some f,some i=>(EJ (iu c o f i.po) s).fin c.t.c b
 |_,_=>⟨c.t,.no,false,s⟩
def Dj (im:Im) (t:Th) (s:bq) (now:Int) (b:Option Nat):Rs:=
 bif t.st != 0 then ⟨t,.no,false,s⟩ else
 bif (du im t.c (bQ t).fr (bQ t).tr).2.k==1 then Hc (nZ (qN (lI im t now) (du im t.c (bQ t).fr (bQ t).tr).1) s (du im t.c (bQ t).fr (bQ t).tr).2.v false) else
 bif (du im t.c (bQ t).fr (bQ t).tr).2.k==2 then Hc (nZ (qN (lI im t now) (du im t.c (bQ t).fr (bQ t).tr).1) s (du im t.c (bQ t).fr (bQ t).tr).2.v true) else
 bif (du im t.c (bQ t).fr (bQ t).tr).2.k==3 then SH (lI im t now) s (du im t.c (bQ t).fr (bQ t).tr).2.o b else
 ⟨{ t with c:=(du im t.c (bQ t).fr (bQ t).tr).1 },.no,false,s⟩
set_option maxHeartbeats 4000000 in
theorem MC {K:Out→H→Prop} (c:Ca) (s:bq) (o:Op) (f:Fr) (i:Info) (F:Nat) (R:OR) (hi:inf o.c=some i) (hf:c.t.c.fr.getLast? = some f) (hlf:c.t.c.fr.length<900000000) (hls:c.t.c.st.length<800000000) (hp:fB c.t.c i.po=true) (hpc:0≤f.pc∧f.pc<1000000000) (hF:CW o.c F) (hlt:Nat.blt F 5000000=true)
  (hR:∀{K:Out→H→Prop},R.K K→Sat Tryz.prog F [.p 0 0] (eN (iu c o f i.po) s) K) (hx:∀n c' s',R = .ex n c' s'→vS s' c'.t.id)
  (hk:R.A c.t.c K):Sat Tryz.prog 73 [.p 0 0,Ao o] (Uj c s) K:=by
 have h1:=nW hi;have h2:=x4 c.t.c i.po (by omega);rw [ko hp] at h2;have hpos:0<c.t.c.fr.length:=by
  cases h:c.t.c.fr with
  |nil=>rw [h] at hf;cases hf
  |cons=>simp
 have hfl:c.t.c.fr[c.t.c.fr.length - 1]? = some f:=by rw [←dS];exact hf
 have hrow:=mW hpos hfl;have hml:(c.t.c.fr.map bR).length=c.t.c.fr.length:=aK _;obtain ⟨ai,hA⟩:=hF;have er:(bW c.t.c.fr f).map bR=(c.t.c.fr.map bR).set (((c.t.c.fr.map bR).length:Int) - 1).toNat [.int .i64 f.fu,.int .i64 (f.pc+1),.int .i64 f.ba,.int .u8 f.ma,.sl 5 (f.vars.map cE)]:=by
  unfold bW;rw [fW,aK];congr 1;omega
 have h4:=λ{K:Out→H→Prop}=>KA (K:=K) F hlt R (iu c o f i.po) s hR;dsimp only [eN,kO,gX,iu] at h4;rw [er] at h4;refine s73.go (keep:=false) rfl ?_
 repeat' ((conv=>whnf);first | exact zf | refine zm ?_ | refine zc h1 ?_ | refine ⟨bR f,⟨by omega,hrow,rfl⟩,?_⟩ | refine zc h2 ?_ | refine (rN (c.t.c.fr.map bR) (by omega) ?_) | intro _)
 conv=>whnf
 refine ⟨bR f,hrow,?_⟩
 repeat' ((conv=>whnf);first | exact zf | refine zm ?_ | intro _)
 conv=>whnf
 refine ⟨bR f,hrow,⟨rfl,rfl,rfl⟩,?_⟩
 repeat' ((conv=>whnf);first | exact zf | refine (dp (dp (iw [7] ?_))) | refine zm ?_ | refine (.inr ?_:(∃_,_)∨_) | refine (HX ?_) | refine ⟨_,hA,?_⟩ | refine (h4 ?_) | refine And.intro ?_ ?_ | intro _)
 all_goals
  clear h4 er h1 h2 hR;cases R with
  |ok e g=>
   cases e
   all_goals
    refine λb=>?_
    repeat' ((conv=>whnf);first | exact zf | refine zm ?_ | refine (gr rfl ?_) | intro _)
    exact hk _
  |ex n c' s'=>
   have h5:=λ{K:Out→H→Prop}=>J6 (K:=K) c' s' c.t.c n (by omega) (by omega) (hx n c' s' rfl)
   conv=>whnf
   repeat' ((conv=>whnf);first | exact zf | refine zm ?_ | refine (gZ rfl ?_) | refine (.inr ?_:(∃_,_)∨_) | refine (h5 ?_) | intro _)
   exact hk
end Go.Proofs.YtjpgfgajkjhonaaGreatDoor
namespace Go.Proofs.YtjpgfgajkjhonaaGreatDoor
open Go.Vx
set_option maxRecDepth 100000
theorem j0 {c:Co} {n kp:Int}:(raise c n kp).2.k≠3:=by
 unfold raise;cases mI c n kp
 ·exact (show (2:Int)≠3 by decide)
 ·exact (show (0:Int)≠3 by decide)
theorem n9 {b:Bool} {x y:Co×Ou} (hx:x.2.k≠3) (hy:y.2.k≠3):(bif b then x else y).2.k≠3:=by cases b<;>assumption
theorem k_ {im:Im} {c:Co} {o:Op} {f:Fr} {l:List Va}:(fD im c o f l).2.k≠3:=(show (0:Int)≠3 by decide)
theorem fG {b:Bool} {x y:Co×Ou} {P:Prop} (hx:x.2.k≠3) (hy:b=false→y.2.k=3→P) (h:(bif b then x else y).2.k=3):P:=by
 cases b with
 |true=>exact absurd h hx
 |false=>exact hy rfl h
def GL (c:Int):Prop:=c≠1∧c≠2∧c≠3∧c≠4∧c≠5∧c≠6∧¬(7≤c∧c≤13)∧c≠14∧c≠15∧c≠16∧c≠17∧c≠18∧c≠19∧c≠20∧c≠21∧c≠22∧c≠23∧c≠44∧c≠47
theorem fm {a b:Int} (h:(a==b)=false):a≠b:=by simpa using h
theorem Jg {im:Im} {c:Co} {fr tr:Int} {o:Op} {f:Fr} {P:Prop} (hp:mS im c fr tr o f=(c,⟨3,zeroV,o⟩)→o.c≠1→o.c≠2→o.c≠4→o.c≠5→o.c≠6→o.c≠12→¬(7≤o.c∧o.c≤13)→o.c≠14→o.c≠15→o.c≠16→o.c≠17→o.c≠18→o.c≠19→o.c≠20→o.c≠21→o.c≠44→o.c≠47→P)
  (h:(mS im c fr tr o f).2.k=3):P:=by
 have hp:=hp;unfold mS at h hp
 revert h
 have z0:∀{x:Co},(x,cC).2.k≠3:=λ{x}=>(show (0:Int)≠3 by decide)
 refine fG (k_) λh1=>?_;refine fG (k_) λh2=>?_;refine fG (k_) λh4=>?_;refine fG (k_) λh5=>?_;refine fG (k_) λh6=>?_;refine fG (k_) λh12=>?_;refine fG (n9 (by split<;>first | exact k_ | exact j0) (j0)) λh7=>?_;refine fG (n9 (k_) (j0)) λh14=>?_;refine fG z0 λh15=>?_;refine fG (n9 (n9 (k_) z0) (j0)) λh16=>?_;refine fG (n9 z0 (j0)) λh17=>?_;refine fG (n9 (show (1:Int)≠3 by decide) z0) λh18=>?_;refine fG (n9 (j0) (j0)) λh19=>?_;refine fG z0 λh20=>?_;refine fG (n9 z0 (k_)) λh21=>?_;refine fG z0 λh44=>?_;refine fG (k_) λh47=>?_;intro _;have h7':¬(7≤o.c∧o.c≤13):=by simpa using h7
 refine hp ?_ (fm h1) (fm h2) (fm h4) (fm h5) (fm h6) (fm h12) h7' (fm h14) (fm h15) (fm h16) (fm h17) (fm h18) (fm h19) (fm h20) (fm h21) (fm h44) (fm h47);simp only [h1,h2,h4,h5,h6,h12,h7,h14,h15,h16,h17,h18,h19,h20,h21,h44,h47,cond_false]
theorem Jf {im:Im} {c:Co} {fr tr:Int} {o:Op} {f:Fr} (h:(B2 im c fr tr o f).2.k=3):B2 im c fr tr o f=(c,⟨3,zeroV,o⟩)∧GL o.c:=by
 have z0:∀{x:Co},(x,cC).2.k≠3:=λ{x}=>(show (0:Int)≠3 by decide)
 have h0:=h;unfold B2 at h ⊢
 revert h
 refine fG z0 λh3=>?_;refine fG (n9 (k_) (j0)) λh22=>?_;refine fG (n9 (k_) (j0)) λh23=>?_;refine Jg λhe a1 a2 a4 a5 a6 a12 a7 a14 a15 a16 a17 a18 a19 a20 a21 a44 a47=>?_;refine ⟨?_,a1,a2,fm h3,a4,a5,a6,a7,a14,a15,a16,a17,a18,a19,a20,a21,fm h22,fm h23,a44,a47⟩;simp only [h3,h22,h23,cond_false];exact he
theorem HG {c:Int} (h1:1≤c) (h2:c≤47) (ha:GL c) (h24:c≠24) (h31:c≠31):∃F po,(c,F,po)∈codeF:=by
 unfold GL at ha;have:c=25∨c=26∨c=27∨c=28∨c=29∨c=30∨c=32∨c=33∨c=34∨c=35∨c=36∨c=37∨c=38∨c=39∨c=40∨c=41∨c=42∨c=43∨c=45∨c=46:=by omega
 rcases this with rfl | rfl | rfl | rfl | rfl | rfl | rfl | rfl | rfl | rfl | rfl | rfl | rfl | rfl | rfl | rfl | rfl | rfl | rfl | rfl
 ·exact ⟨170,0,by decide⟩
 ·exact ⟨171,0,by decide⟩
 ·exact ⟨172,1,by decide⟩
 ·exact ⟨173,1,by decide⟩
 ·exact ⟨174,2,by decide⟩
 ·exact ⟨175,1,by decide⟩
 ·exact ⟨176,2,by decide⟩
 ·exact ⟨177,1,by decide⟩
 ·exact ⟨178,2,by decide⟩
 ·exact ⟨179,1,by decide⟩
 ·exact ⟨180,1,by decide⟩
 ·exact ⟨181,2,by decide⟩
 ·exact ⟨182,3,by decide⟩
 ·exact ⟨183,1,by decide⟩
 ·exact ⟨184,4,by decide⟩
 ·exact ⟨185,2,by decide⟩
 ·exact ⟨186,1,by decide⟩
 ·exact ⟨187,1,by decide⟩
 ·exact ⟨188,1,by decide⟩
 ·exact ⟨189,2,by decide⟩
theorem wQ {c:Int} {F:Nat} {po:Int} (h:(c,F,po)∈codeF):(∃i,inf c=some i∧i.po=po)∧CW c F∧Nat.blt F 5000000=true∧c≠17:=by
 simp only [codeF,ae,dy,cU,or_false] at h;rcases h with ⟨rfl,rfl,rfl⟩ | ⟨rfl,rfl,rfl⟩ | ⟨rfl,rfl,rfl⟩ | ⟨rfl,rfl,rfl⟩ | ⟨rfl,rfl,rfl⟩ | ⟨rfl,rfl,rfl⟩ | ⟨rfl,rfl,rfl⟩ | ⟨rfl,rfl,rfl⟩ | ⟨rfl,rfl,rfl⟩ | ⟨rfl,rfl,rfl⟩ | ⟨rfl,rfl,rfl⟩ | ⟨rfl,rfl,rfl⟩ | ⟨rfl,rfl,rfl⟩ | ⟨rfl,rfl,rfl⟩ | ⟨rfl,rfl,rfl⟩ | ⟨rfl,rfl,rfl⟩ | ⟨rfl,rfl,rfl⟩ | ⟨rfl,rfl,rfl⟩ | ⟨rfl,rfl,rfl⟩ | ⟨rfl,rfl,rfl⟩ <;>
  exact ⟨⟨_,rfl,rfl⟩,⟨_,rfl⟩,rfl,by decide⟩
def PN (c:Ca) (s:bq) (o:Op) (b:Option Nat):Rs:=
 match c.t.c.fr.getLast?,inf o.c with
 |some f,some i=>(jf (iu c o f i.po) s).fin c.t.c b
 |_,_=>⟨c.t,.no,false,s⟩
def EL (im:Im) (t:Th) (s:bq) (now:Int) (b:Option Nat):Rs:=
 bif t.st != 0 then ⟨t,.no,false,s⟩ else
 bif (du im t.c (bQ t).fr (bQ t).tr).2.k==1 then Hc (nZ (qN (lI im t now) (du im t.c (bQ t).fr (bQ t).tr).1) s (du im t.c (bQ t).fr (bQ t).tr).2.v false) else
 bif (du im t.c (bQ t).fr (bQ t).tr).2.k==2 then Hc (nZ (qN (lI im t now) (du im t.c (bQ t).fr (bQ t).tr).1) s (du im t.c (bQ t).fr (bQ t).tr).2.v true) else
 bif (du im t.c (bQ t).fr (bQ t).tr).2.k==3 then PN (lI im t now) s (du im t.c (bQ t).fr (bQ t).tr).2.o b else
 ⟨{ t with c:=(du im t.c (bQ t).fr (bQ t).tr).1 },.no,false,s⟩
structure Pk (im:Im) (t:Th) (s:bq) (now:Int):Prop where
  x:Pj im t.c
  n:Ld t
  g:jH t.g
  gs:lu s
  sc:t.sc.length<900000000
  w:0≤now∧now<1000000000
  q:∀p∈s.th,p.2.va.q.length<90000000
theorem Pk.Uu {im:Im} {t:Th} {s:bq} {now:Int} (h:Pk im t s now) (nm:List UInt8):vS s nm:=λi o ho=>by
 obtain ⟨p,hp,he⟩:=jl ho;rw [←he];have:=h.q p hp;omega
theorem uR {im:Im} {c:Co} {fr tr:Int} (h:Pj im c) (hk:(du im c fr tr).2.k=3):∃o f F po,du im c fr tr=(c,⟨3,zeroV,o⟩)∧c.fr.getLast? = some f∧(o.c,F,po)∈codeF∧fB c po=true∧(0≤f.pc∧f.pc<1000000000):=by
 unfold du at hk ⊢;cases hf:fit im c with
 |none=>rw [hf] at hk;exact absurd hk (show ¬(2:Int)=3 by decide)
 |some o=>
  rw [hf] at hk;obtain ⟨f,fn,hl,w1,hfn,w2,ho,hr,hop,hpo⟩:=mg hf;simp only [hl] at hk ⊢;obtain ⟨e,ha⟩:=Jf hk;obtain ⟨i,hi⟩:∃i,inf o.c=some i:=by
   unfold jJ at hr;cases hi:inf o.c with
   |none=>rw [hi] at hr;cases hr
   |some i=>exact ⟨i,rfl⟩
  obtain ⟨b1,b2,_⟩:=sV hi;obtain ⟨d1,d2⟩:=h.dm o hf;obtain ⟨F,po,hF⟩:=HG b1 b2 ha d1 d2;obtain ⟨⟨i',hi',hpi⟩,_,_,h17⟩:=wQ hF;have ht:fM im o=po:=by
   unfold fM;rw [hi'];rw [show (o.c==17)=false by simp [h17]];exact hpi
  rw [ht] at hpo;obtain ⟨p1,p2⟩:=within_iff.1 w2;have hcd:=h.cd _ _ hfn;exact ⟨o,f,F,po,e,rfl,hF,hpo,p1,by omega⟩
theorem CV {im:Im} {t:Th} {now:Int} {o:Op} {f:Fr} {po:Int} (hp:fB t.c po=true):((iu (lI im t now) o f po).ar.length:Int)=po:=by
 have h:=(mQ hp).1;have h0:0≤po:=by simp [fB] at hp;omega
 show ((kX t.c po).length:Int)=po;rw [h];omega
theorem PM {im:Im} {t:Th} {s:bq} {now:Int} {o:Op} {f:Fr} {po:Int} (h:Pk im t s now) (hp:fB t.c po=true):DG (iu (lI im t now) o f po) s where
 n:=⟨h.n.pa,h.n.ne,h.n.le,h.n.sm,h.n.m0,h.n.m1,h.n.r2⟩
 g:=h.g
 ar:=λv hv=>h.x.sm v (dq hv)
 gs:=h.gs
 st:=by
  have h1:=(mQ hp).2;have h2:=h.x.ls;show (qf t.c po).st.length<800000000;omega
 fr:=by
  show (bW t.c.fr f).length<900000000;unfold bW;rw [gW];exact h.x.lf
 sc:=h.sc
 w:=h.w
 q:=h.q
def OR.keeps (r:OR) (s:bq):Prop:=match r with
 |.ok _ _=>True
 |.ex _ _ s'=>s'=s
theorem bI {b:Bool} {x y:OR} {s:bq} (hx:x.keeps s) (hy:y.keeps s):(bif b then x else y).keeps s:=by cases b<;>assumption
theorem dK {e:Fx} {f:Option Nat→Ca×bq} {s:bq}:(OR.ok e f).keeps s:=trivial
theorem cP {n:Int} {c:Ca} {s:bq}:(OR.ex n c s).keeps s:=rfl
theorem nL {c:Ca} {s:bq} {o:Ob}:(jT c s o).keeps s:=bI (bI cP dK) cP
theorem AO {c:Ca} {s:bq} {l:Lb}:(mM c s l).keeps s:=bI dK cP
theorem D0 {c:Ca} {s:bq} {o:Ob}:(ll c s o).keeps s:=bI cP dK
theorem D1 {c:Ca} {s:bq} {h:Va}:(o_ c s h ll).keeps s:=by
 unfold o_;refine bI ?_ cP;cases dF s h with
 |none=>exact dK
 |some p=>exact D0
theorem oL {c:Ca} {s:bq} {h:Va} {go:Ca→bq→Ob→RQ} (hg:∀c o,(go c s o).or.keeps s):(gw c s h go).or.keeps s:=by
 unfold gw;cases dN c.t.g (bD h)==0 with
 |false=>exact cP
 |true=>
  cases dF s h with
  |none=>exact dK
  |some p=>exact hg _ _
theorem DZ {c:Ca} {s:bq} {o:Ob}:(mH c s o).or.keeps s:=by
 unfold mH;cases o.dn
 ·exact dK
 ·cases o.ex
  ·exact dK
  ·exact cP
theorem AP {c:Ca} {s:bq} {o:Ob}:(jt c s o).or.keeps s:=by
 unfold jt;cases da c.t.c
 ·exact cP
 ·exact dK
theorem GH {c:Ca} {s:bq}:(pe c s).keeps s:=by
 unfold pe;refine bI (bI ?_ cP) cP;cases dF s (c.ar[0]?.getD dT) with
 |none=>exact dK
 |some p=>exact bI dK dK
theorem GI {c:Ca} {s:bq}:(uY c s).keeps s:=by
 unfold uY;refine bI (bI ?_ cP) cP;cases dF s (c.ar[0]?.getD dT) with
 |none=>exact dK
 |some p=>exact bI dK dK
theorem AN {c:Ca} {s:bq}:(p9 c s).keeps s:=by
 unfold p9;refine bI (bI ?_ cP) cP;cases dF s (c.ar[0]?.getD dT) with
 |none=>exact dK
 |some p=>exact dK
theorem x9 (c:Ca) (s:bq):(jf c s).keeps s:=by
 unfold jf;refine bI dK (bI dK (bI (bI AO cP) (bI (bI (bI dK cP) cP) (bI (bI nL cP) (bI (bI D1 cP) (bI (bI nL cP) (bI (bI (oL λ_ _=>dK) cP)
  (bI AN (bI (bI nL cP) (bI GH (bI GI (bI (bI (bI dK cP) cP) (bI (bI (oL λ_ _=>DZ) cP) (bI (bI (bI dK cP) cP) (bI (bI (bI dK cP) cP)
  (bI (bI (bI dK cP) cP) (bI (bI (bI dK cP) cP) (bI (bI nL cP) (bI (bI (oL λ_ _=>AP) cP) cP)))))))))))))))))))
theorem F7 {c c':Ca} {s s':bq} {n:Int} (h:jf c s = .ex n c' s') (hq:∀p∈s.th,p.2.va.q.length<90000000):vS s' c'.t.id:=by
 have:=x9 c s;rw [h] at this;have e:s'=s:=this;intro i o ho;obtain ⟨p,hp,he⟩:=jl ho;rw [←he];rw [e] at hp;have:=hq p hp;omega
set_option maxHeartbeats 4000000 in
theorem Ly {K:Out→H→Prop} (im:Im) (t:Th) (s:bq) (now:Int) (h:t.st=0→Pk im t s now) (hk:∀b,K (.ret (.tu [eu (EL im t s now b).t,qp ((EL im t s now b).e.ef (EL im t s now b).d)])) (kH (EL im t s now b).s)) :
    Sat Tryz.prog 34 [wb im,eu t,.p 0 0,.d (.int .i64 now)] (kH s) K:=by
  unfold EL at hk
  by_cases h0:t.st=0
  · have hz:(t.st != 0)=false:=by simp [h0]
    rw [hz] at hk
    have hd:=h h0
    have h1:=wK t
    have h2:=JM (fr:=(bQ t).fr) (tr:=(bQ t).tr) hd.x
    have hq:=hd.Uu t.id
    have hask:=uR (fr:=(bQ t).fr) (tr:=(bQ t).tr) hd.x
    unfold St at h2
    generalize hr:du im t.c (bQ t).fr (bQ t).tr=r at h2 hk hask
    obtain ⟨k,u⟩:=r
    by_cases k1:u.k=1
    · rw [show (u.k==1)=true by simp [k1]] at hk
      have h3:=λ{K:Out→H→Prop}=>nP (K:=K) (qN (lI im t now) k) s u.v false hq
      refine s34.go (keep:=false) rfl ?_
      repeat' ((conv=>whnf);first | exact zf | refine zm ?_ | refine zc h1 ?_ | refine zc h2 ?_ | refine (.inr ?_:(∃_,_)∨_) | refine (h3 ?_) | refine zt ?_ | refine zu ?_ | intro _)
      exact hk none
    · by_cases k2:u.k=2
      · rw [show (u.k==1)=false by simp [k1],show (u.k==2)=true by simp [k2]] at hk
        have h3:=λ{K:Out→H→Prop}=>nP (K:=K) (qN (lI im t now) k) s u.v true hq
        refine s34.go (keep:=false) rfl ?_
        repeat' ((conv=>whnf);first | exact zf | refine zm ?_ | refine zc h1 ?_ | refine zc h2 ?_ | refine (.inr ?_:(∃_,_)∨_) | refine (h3 ?_) | refine zt ?_ | refine zu ?_ | intro _)
        exact hk none
      · by_cases k3:u.k=3
        · rw [show (u.k == 1) = false by simp [k1], show (u.k == 2) = false by simp [k2], show (u.k == 3) = true by simp [k3]] at hk
          obtain ⟨o,f,F,po,e,hf,hcf,hp,hpc⟩:=hask k3
          cases e
          obtain ⟨⟨i,hi,hpi⟩,hF,hlt,_⟩:=wQ hcf
          subst hpi
          have hR:=λ{K:Out→H→Prop}=>Jh (K:=K) (iu (lI im t now) o f i.po) s F i.po hcf (CV hp) (PM hd hp)
          have hx:=λn c' s' (h:jf (iu (lI im t now) o f i.po) s = .ex n c' s')=>F7 h hd.q
          have h3:=λ{K:Out→H→Prop}=>MC (K:=K) (lI im t now) s o f i F _ hi hf hd.x.lf hd.x.ls hp hpc hF hlt hR hx
          replace hk:∀b,K (.ret (.tu [eu ((jf (iu (lI im t now) o f i.po) s).fin t.c b).t,qp (((jf (iu (lI im t now) o f i.po) s).fin t.c b).e.ef ((jf (iu (lI im t now) o f i.po) s).fin t.c b).d)])) (kH ((jf (iu (lI im t now) o f i.po) s).fin t.c b).s):=λb=>by
            have:=hk b
            unfold PN at this
            rw [show (lI im t now).t.c.fr.getLast? = some f from hf,hi] at this
            exact this
          generalize jf (iu (lI im t now) o f i.po) s=R at h3 hk
          cases R with
          |ok e g=>
            cases e
            all_goals
              refine s34.go (keep:=false) rfl ?_
              repeat' ((conv=>whnf);first | exact zf | refine zm ?_ | refine zc h1 ?_ | refine zc h2 ?_ | refine (.inr ?_:(∃_,_)∨_) | refine (h3 (λb=>?_)) | refine zt ?_ | refine zu ?_ | intro _)
              exact hk _
          |ex n c' s'=>
            have h4:=λ{K:Out→H→Prop} (g:K (.ret (.tu [])) (SA (kW c' s' t.c n)))=>h3 (K:=K) g
            refine s34.go (keep:=false) rfl ?_
            repeat' ((conv=>whnf);first | exact zf | refine zm ?_ | refine zc h1 ?_ | refine zc h2 ?_ | refine (.inr ?_:(∃_,_)∨_) | refine (h4 ?_) | refine zt ?_ | refine zu ?_ | intro _)
            exact hk none
        · rw [show (u.k==1)=false by simp [k1],show (u.k==2)=false by simp [k2],show (u.k==3)=false by simp [k3]] at hk
          refine s34.go (keep:=false) rfl ?_
          repeat' ((conv=>whnf);first | exact zf | refine zm ?_ | refine zc h1 ?_ | refine zc h2 ?_ | refine zt ?_ | refine zu ?_ | intro _)
          exact hk none
  · have hz:(t.st != 0)=true:=by simp [h0]
    rw [hz] at hk
    refine s34.go (keep:=false) rfl ?_
    repeat' ((conv=>whnf);first | exact zf | refine zm ?_ | refine zt ?_ | refine zu ?_ | intro _)
    exact hk none
end Go.Proofs.YtjpgfgajkjhonaaGreatDoor
namespace Go.Proofs.YtjpgfgajkjhonaaGreatDoor
open Go.Vx
set_option maxRecDepth 100000
def yt (im:Im) (t:Th) (s:bq):H:=[.cells ([.d (.sl 5 (im.cs.map cE)),.d (.sl 3 (im.fs.map db)),.p 1 0]++(gX t).map .d),.cells [.mp 2,.mp 3],.dm (qw s.th),.ms 1 (qT s.nm) none none]
def Md (s:Sc):List Nat:=kD s.nm 0
structure Lc (s:Sc):Prop where
  nm:s.nm=cr (Md s)
  g:gP (Md s)
  l:cO s.l
def dX (t:Th) (s:bq) (now:Int) (b:Option Nat):Th×bq:=match t.sc[gQ now t.sc]? with
 |some sc=>(v_ t (gQ now t.sc) sc,kZ s (Md sc) (sL t (gQ now t.sc) sc) b)
 |none=>(t,s)
set_option maxHeartbeats 4000000 in
theorem JP {K:Out→H→Prop} (im:Im) (t:Th) (s:bq) (now:Int) (hc:cO t.g.cur) (hn:t.sc.length<1000000000) (hst:t.c.st.length<1000000000) (hsc:∀sc∈t.sc,Lc sc) (hgs:lu s)
  (h:∀b,(dX t s now b).1.st=0→Pk im (dX t s now b).1 (dX t s now b).2 now)
  (hk:∀b b',K (.ret (qp ((EL im (dX t s now b).1 (dX t s now b).2 now b').e.ef (EL im (dX t s now b).1 (dX t s now b).2 now b').d))) (yt im (EL im (dX t s now b).1 (dX t s now b).2 now b').t (EL im (dX t s now b).1 (dX t s now b).2 now b').s)) :
  Sat Tryz.prog 12 [.p 0 0,.d (.int .i64 now)] (yt im t s) K:=by
 have h1:=Lx t now;have hle:=CB now t.sc;unfold Af at h1;unfold dX at h hk;cases hs:t.sc[gQ now t.sc]? with
 |none=>
  have hlt:¬gQ now t.sc<t.sc.length:=λhlt=>by rw [aB hlt] at hs;cases hs
  rw [if_neg hlt] at h1;rw [hs] at h hk;have h2:=λ{K:Out→H→Prop}=>Ly (K:=K) im t s now (h none);refine s12.go (keep:=false) rfl ?_
  repeat' ((conv=>whnf);first | exact zf | refine (dp (dp ?_)) | refine zm ?_ | refine zc h1 ?_ | refine (gr (by decide) ?_) | refine (.inr ?_:(∃_,_)∨_) | refine (h2 (λb=>?_)) | refine And.intro ?_ ?_ | intro _)
  all_goals exact hk none _
 |some sc=>
  have hlt:=(aA.1 hs).1;rw [if_pos hlt] at h1;rw [hs] at h hk;have hm:=hsc sc (aH hs);have h3:=KC t (gQ now t.sc) sc hs hc hm.l hn hst;rw [hm.nm] at h3;have h4:=λ{K:Out→H→Prop}=>Ap (K:=K) s (Md sc) (sL t (gQ now t.sc) sc) ⟨hm.g,hgs,hm.l,(show (3:Int)≤3 by decide),(show (3:Int)≤7 by decide),(show (0:Nat)<_ by decide)⟩;have h2:=λ{K:Out→H→Prop} (b:Option Nat)=>Ly (K:=K) im (v_ t (gQ now t.sc) sc) (kZ s (Md sc) (sL t (gQ now t.sc) sc) b) now (h b);have hge:decide ((0:Int)≤(gQ now t.sc:Int))=true:=by simp
  generalize gQ now t.sc=d at h1 h3 h4 h2 hge hk ⊢;refine s12.go (keep:=false) rfl ?_
  repeat' ((conv=>whnf);first | exact zf | refine (dp (dp ?_)) | refine zm ?_ | refine zc h1 ?_ | refine (gZ hge ?_) | refine zc h3 ?_ | refine (.inr ?_:(∃_,_)∨_) | refine (h4 (λb n=>?_)) | refine (h2 _ (λb'=>?_)) | refine And.intro ?_ ?_ | intro _)
  all_goals exact hk _ _
end Go.Proofs.YtjpgfgajkjhonaaGreatDoor
