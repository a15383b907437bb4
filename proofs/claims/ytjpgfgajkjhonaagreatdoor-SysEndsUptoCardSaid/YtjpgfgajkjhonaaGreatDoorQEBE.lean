/- What is added where the label may be none of the program's, or with something told already; a thread that is begun. Conditions: as told. -/
import Derived.Test.YtjpgfgajkjhonaaGreatDoorQEBD
import Derived.Test.YtjpgfgajkjhonaaGreatDoorQEAZ
import Derived.Test.YtjpgfgajkjhonaaGreatDoorQEBC
import Derived.Test.YtjpgfgajkjhonaaGreatDoorQEAV
namespace Go.Proofs.YtjpgfgajkjhonaaGreatDoor
open Go.Vx
set_option maxRecDepth 100000
def ij (s:bq) (kp:List Nat) (o:Ob) (b:Option Nat):bq:=bif jv o.l&&(bN (cr kp) s.th).isNone then qZ s kp o b else s
structure Tq (s:bq) (kp:List Nat) (o:Ob):Prop where
  n:gK kp
  gs:lW s
  l:cL o.l
  k3:3≤o.k
  k7:o.k≤7
  q:o.va.q.length<100000000
theorem wG {K:Out→H→Prop} (s:bq) (kp:List Nat) (o:Ob) (h:Tq s kp o) (hk:∀b n,K (.ret (.d (.int .i64 n))) (jn (ij s kp o b))):Sat Tryz.prog 14 [.p 0 0,.d (.str (cr kp)),fz o] (jn s) K:=by
 unfold ij at hk;cases hl:jv o.l with
 |true=>
  rw [hl] at hk;cases hf:bN (cr kp) s.th with
  |none=>
   rw [hf] at hk;exact Gh s kp o h.n h.gs h.l h.k3 h.k7 hl h.q hf λb=>hk b 0
  |some p=>
   rw [hf] at hk;exact DY s kp o p.2 p.1 h.n h.l h.k3 h.k7 hl hf (hk none 12)
 |false=>
  rw [hl] at hk;exact Bp s kp o h.n h.l (.inr hl) (hk none 1)
theorem E8 {K:Out→H→Prop} (c:Ca) (s:bq) (v:Va) (e:Fx) (hl:c.t.c.st.length<1000000000) (hk:K (.ret (.tu [])) (KN (lF c v) e false s)):Sat Tryz.prog 241 [.p 0 0,jT v] (KN c e false s) K:=by
 have h1:=rQ c.t.c v hl;cases e
 all_goals
  refine s241.go (keep:=false) rfl ?_
  repeat' ((conv=>whnf);first | exact zf | refine zm ?_ | refine zc h1 ?_ | intro _)
  exact hk
theorem Bt {K:Out→H→Prop} (c:Ca) (s:bq) (kp:List Nat) (o:Ob) (e:Fx) (h:Tq s kp o) (hst:c.t.c.st.length<1000000000) (hk:∀b,K (.ret (.tu [])) (KN (sj c (cr kp) o) e false (ij s kp o b))) :
  Sat Tryz.prog 252 [.p 0 0,.d (.str (cr kp)),fz o] (KN c e false s) K:=by
 have h1:=λ{K:Out→H→Prop}=>wG (K:=K) s kp o h;have h2:=λ{K:Out→H→Prop} (b:Option Nat)=>E8 (K:=K) c (ij s kp o b) ⟨o.k,0,cr kp,o.l.s,o.l.i⟩ e hst;cases e
 all_goals
  refine s252.go (keep:=false) rfl ?_
  repeat' ((conv=>whnf);first | exact zf | refine zm ?_ | refine (.inr ?_:(∃_,_)∨_) | refine (h1 (λb n=>?_)) | refine (h2 _ ?_) | intro _)
  exact hk _
structure C2 (c:Ca) (s:bq) (o:Ob):Prop where
  n:Kw c.t
  g:iv c.t.g
  l:cL o.l
  gs:lW s
  k3:3≤o.k
  k7:o.k≤7
  q:o.va.q.length<100000000
  st:c.t.c.st.length<1000000000
def jI (c:Ca) (s:bq) (o:Ob):OR:=
 bif bR c.t.g o.l==0 then (bif decide (c.t.ro<1) then .ex (-5) c s else .ok .no λb=>(sj { c with t:=j4 c.t } (cr (l4 c.t)) o,ij s (l4 c.t) o b)) else .ex (bR c.t.g o.l) c s
set_option maxHeartbeats 2000000 in
theorem oZ {K:Out→H→Prop} (c:Ca) (s:bq) (o:Ob) (h:C2 c s o) (hk:(jI c s o).K K):Sat Tryz.prog 237 [.p 0 0,fz o] (eM c s) K:=by
 unfold jI at hk;have h1:=fL c.t.g o.l h.g h.l
 by_cases hw:bR c.t.g o.l=0
 ·rw [hw] at hk h1
  by_cases hr:c.t.ro<1
  ·rw [decide_eq_true hr] at hk
   replace hk:K (.fW (nD (-5))) (eM c s):=hk
   have h2:=λ{K:Out→H→Prop}=>Az (K:=K) c s hr;refine s237.go (keep:=false) rfl ?_
   repeat' ((conv=>whnf);first | exact zf | refine zm ?_ | refine zc h1 ?_ | intro _)
   conv=>whnf
   refine gT ?_
   repeat' ((conv=>whnf);first | exact zf | refine (dp (vo ?_)) | refine zm ?_ | refine (.inr ?_:(∃_,_)∨_) | refine (h2 ?_) | refine And.intro ?_ ?_ | intro _)
   all_goals exact hk
  ·rw [decide_eq_false hr] at hk
   replace hk:∀b,K (.ret (.tu [])) (eM (sj { c with t:=j4 c.t } (cr (l4 c.t)) o) (ij s (l4 c.t) o b)):=hk
   have hm:c.t.ma=(c.t.ma.toNat:Nat):=by have:=h.n.m0;omega
   have h2:=λ{K:Out→H→Prop}=>vQ (K:=K) c s (jt c.t.pa 0) c.t.ma.toNat h.n.pa hm h.n.ne h.n.le h.n.sm (by have:=h.n.m1;omega) (by omega) h.n.r2;have h4:=λ{K:Out→H→Prop}=>Bt (K:=K) { c with t:=j4 c.t } s (l4 c.t) o .no ⟨h.n.o9,h.gs,h.l,h.k3,h.k7,h.q⟩ h.st;refine s237.go (keep:=false) rfl ?_
   repeat' ((conv=>whnf);first | exact zf | refine zm ?_ | refine zc h1 ?_ | intro _)
   conv=>whnf
   refine gT ?_
   repeat' ((conv=>whnf);first | exact zf | refine (dp (dp ?_)) | refine zm ?_ | refine (.inr ?_:(∃_,_)∨_) | refine (h2 ?_) | refine (h4 (λb=>?_)) | refine And.intro ?_ ?_ | intro _)
   all_goals exact hk _
 ·have hb:(bR c.t.g o.l==0)=false:=by simp [hw]
  rw [hb] at hk
  replace hk:K (.fW (nD (bR c.t.g o.l))) (eM c s):=hk
  refine s237.go (keep:=false) rfl ?_
  repeat' ((conv=>whnf);first | exact zf | refine zm ?_ | refine zc h1 ?_ | refine (j5 _ hw ?_) | intro _)
  exact hk
def x8 (c:Ca) (a:Va) (l:Lb) (ro:Int):Th:=xK (cr (l4 c.t)) ⟨c.t.g.cur,gI l⟩ (ft c00 c.o.a (gF c.im c.o.a) [a] c.ma) ro
def x9 (c:Ca) (ro:Int):Ca:={ c with t:={ j4 c.t with ro:=c.t.ro - 1 - ro } }
def jb (c:Ca) (l:Lb) (ro:Int):Int:=bif bR c.t.g l==0 then (bif decide (ro<0)||(decide (999<ro)||decide (c.t.ro≤ro)) then -5 else 0) else bR c.t.g l
def BR (c:Ca) (s:bq):OR:=bif bz [0,1,2] c.ar then
  (bif jb c (bB (c.ar[2]?.getD dR)) (c.ar[1]?.getD dR).n == 0 then .ok (.fork (x8 c (c.ar[0]?.getD dR) (bB (c.ar[2]?.getD dR)) (c.ar[1]?.getD dR).n)) fun b => (sj (x9 c (c.ar[1]?.getD dR).n) (cr (l4 c.t)) { fG with k := 6, l := bB (c.ar[2]?.getD dR) }, ij s (l4 c.t) { fG with k := 6, l := bB (c.ar[2]?.getD dR) } b)
   else .ex (jb c (bB (c.ar[2]?.getD dR)) (c.ar[1]?.getD dR).n) c s) else .ex (-1) c s
structure Sj (c:Ca) (s:bq) (l:Lb):Prop where
  n:Kw c.t
  g:iv c.t.g
  l:cL l
  gs:lW s
  st:c.t.c.st.length<1000000000
theorem Jk {K:Out→H→Prop} (c:Ca) (s:bq) (a r m:Va) (har:c.ar = [a,r,m]) (h:Sj c s (bB m)) (hk:(BR c s).K K):Sat Tryz.prog 182 [.p 0 0] (eM c s) K:=by
  obtain ⟨im,now,t,tr,o,ar,ma⟩:=c
  subst har
  have hw:=fL t.g (bB m) h.g h.l
  unfold BR at hk
  cases hb:bz [0,1,2] [a,r,m] with
  |true=>
    have h1:=λ{K:Out→H→Prop}=>dX (K:=K) ⟨im,now,t,tr,o,[a,r,m],ma⟩ s [0,1,2] (aQ _) hb
    dsimp only at hk
    rw [hb,cond_true] at hk
    by_cases h0:bR t.g (bB m)=0
    · rw [h0] at hw
      have e0:(bR t.g (bB m)==0)=true:=by simp [h0]
      by_cases hr:r.n<0∨999<r.n∨t.ro≤r.n
      · have e1:jb ⟨im,now,t,tr,o,[a,r,m],ma⟩ (bB m) r.n = -5:=by
          unfold jb
          dsimp only
          rw [e0,cond_true]
          have:(decide (r.n<0)||(decide (999<r.n)||decide (t.ro≤r.n)))=true:=by simpa using hr
          rw [this,cond_true]
        replace hk:OR.K (bif jb ⟨im,now,t,tr,o,[a,r,m],ma⟩ (bB m) r.n==0 then .ok (.fork (x8 ⟨im,now,t,tr,o,[a,r,m],ma⟩ a (bB m) r.n)) λb=>(sj (x9 ⟨im,now,t,tr,o,[a,r,m],ma⟩ r.n) (cr (l4 t)) { fG with k:=6,l:=bB m },ij s (l4 t) { fG with k:=6,l:=bB m } b) else .ex (jb ⟨im,now,t,tr,o,[a,r,m],ma⟩ (bB m) r.n) ⟨im,now,t,tr,o,[a,r,m],ma⟩ s) K:=hk
        rw [e1] at hk
        replace hk:K (.fW (nD (-5))) (eM ⟨im,now,t,tr,o,[a,r,m],ma⟩ s):=hk
        have hr':r.n<0∨(¬r.n<0∧999<r.n)∨(¬r.n<0∧¬999<r.n∧t.ro≤r.n):=by omega
        clear hr
        rcases hr' with hr | hr | hr
        all_goals
          refine s182.go (keep:=false) rfl ?_
          repeat' ((conv=>whnf);first | exact zf | refine zm ?_ | refine (.inr ?_:(∃_,_)∨_) | refine (h1 ?_) | refine ⟨_,⟨by omega,rfl,rfl⟩,?_⟩ | refine zc hw ?_ | refine (gT ?_) | refine (jW _ ?_) | refine zt ?_ | refine zu ?_ | intro _)
          all_goals exact hk
      · have hr0:¬r.n<0∧¬999<r.n∧¬t.ro≤r.n:=by omega
        clear hr
        have e1:jb ⟨im,now,t,tr,o,[a,r,m],ma⟩ (bB m) r.n=0:=by
          unfold jb
          dsimp only
          rw [e0,cond_true]
          have:(decide (r.n<0)||(decide (999<r.n)||decide (t.ro≤r.n)))=false:=by simp;omega
          rw [this,cond_false]
        replace hk:OR.K (bif jb ⟨im,now,t,tr,o,[a,r,m],ma⟩ (bB m) r.n==0 then .ok (.fork (x8 ⟨im,now,t,tr,o,[a,r,m],ma⟩ a (bB m) r.n)) λb=>(sj (x9 ⟨im,now,t,tr,o,[a,r,m],ma⟩ r.n) (cr (l4 t)) { fG with k:=6,l:=bB m },ij s (l4 t) { fG with k:=6,l:=bB m } b) else .ex (jb ⟨im,now,t,tr,o,[a,r,m],ma⟩ (bB m) r.n) ⟨im,now,t,tr,o,[a,r,m],ma⟩ s) K:=hk
        rw [e1] at hk
        have hm:t.ma=(t.ma.toNat:Nat):=by have:=h.n.m0;dsimp only at this;omega
        have hm1:t.ma.toNat<100:=by have:=h.n.m1;have:=h.n.m0;dsimp only at *;omega
        have hr2:=h.n.r2
        dsimp only at hr2
        have h2:=λ{K:Out→H→Prop}=>vQ (K:=K) ⟨im,now,t,tr,o,[a,r,m],ma⟩ s (jt t.pa 0) t.ma.toNat h.n.pa hm h.n.ne h.n.le h.n.sm hm1 (by dsimp only;omega) hr2
        have h4:=ue (K:=λout hh=>out = .ret (.d (.int .i64 (gF im o.a)))∧hh=eM ⟨im,now,j4 t,tr,o,[a,r,m],ma⟩ s) ⟨im,now,j4 t,tr,o,[a,r,m],ma⟩ s o.a ⟨rfl,rfl⟩
        have h5:bJ Tryz.prog 20 [gN c00,.d (.int .i64 o.a),.d (.int .i64 (gF im o.a)),.d (.sl 5 ([a].map cE)),.d (.int .u8 ma)] (.tu [gN (ft c00 o.a (gF im o.a) [a] ma),.d (.bool true)]):=kB c00 o.a (gF im o.a) [a] ma (by decide) (show 1<_ by decide)
        have h6:=j3 (bB m) h.l
        have h7:=FC (cr (l4 t)) ⟨t.g.cur,gI (bB m)⟩ (ft c00 o.a (gF im o.a) [a] ma) r.n
        have h8:=λ{K:Out→H→Prop}=>Bt (K:=K) (x9 ⟨im,now,t,tr,o,[a,r,m],ma⟩ r.n) s (l4 t) { fG with k:=6,l:=bB m } (.fork (x8 ⟨im,now,t,tr,o,[a,r,m],ma⟩ a (bB m) r.n)) ⟨h.n.o9,h.gs,h.l,(show (3:Int)≤6 by decide),(show (6:Int)≤7 by decide),(show (0:Nat)<_ by decide)⟩ h.st
        have hin:eN .i64 (t.ro - 1 - r.n):=by unfold eN;omega
        refine s182.go (keep:=false) rfl ?_
        repeat' ((conv=>whnf);first | exact zf | refine (bp (bw ?_):eQ _ (eQ (kG _ _ _ _ 251 _ _ _ _ _ _ _) _)) | refine zm ?_ | refine (.inr ?_:(∃_,_)∨_) | refine (.inl ⟨hin,?_⟩) | refine (h1 ?_) | refine ⟨_,⟨by omega,rfl,rfl⟩,?_⟩ | refine zc hw ?_ | refine (gT ?_) | refine (h2 ?_) | refine ⟨_,_,h4,?_⟩ | refine zc h5 ?_ | refine zc h6 ?_ | refine zc h7 ?_ | refine (h8 (λb=>?_)) | refine zt ?_ | refine zu ?_ | intro _)
        conv=>whnf
        exact hk _
    · have e0:(bR t.g (bB m)==0)=false:=by simp [h0]
      have e1:jb ⟨im,now,t,tr,o,[a,r,m],ma⟩ (bB m) r.n=bR t.g (bB m):=by
        unfold jb
        dsimp only
        rw [e0,cond_false]
      replace hk:OR.K (bif jb ⟨im,now,t,tr,o,[a,r,m],ma⟩ (bB m) r.n==0 then .ok (.fork (x8 ⟨im,now,t,tr,o,[a,r,m],ma⟩ a (bB m) r.n)) λb=>(sj (x9 ⟨im,now,t,tr,o,[a,r,m],ma⟩ r.n) (cr (l4 t)) { fG with k:=6,l:=bB m },ij s (l4 t) { fG with k:=6,l:=bB m } b) else .ex (jb ⟨im,now,t,tr,o,[a,r,m],ma⟩ (bB m) r.n) ⟨im,now,t,tr,o,[a,r,m],ma⟩ s) K:=hk
      rw [e1,e0,cond_false] at hk
      refine s182.go (keep:=false) rfl ?_
      repeat' ((conv=>whnf);first | exact zf | refine zm ?_ | refine (.inr ?_:(∃_,_)∨_) | refine (h1 ?_) | refine ⟨_,⟨by omega,rfl,rfl⟩,?_⟩ | refine zc hw ?_ | refine (j5 _ h0 ?_) | refine zt ?_ | refine zu ?_ | intro _)
      exact hk
  |false=>
    have h1:=λ{K:Out→H→Prop}=>dY (K:=K) ⟨im,now,t,tr,o,[a,r,m],ma⟩ s [0,1,2] (aQ _) hb
    dsimp only at hk
    rw [hb,cond_false] at hk
    refine s182.go (keep:=false) rfl ?_
    repeat' ((conv=>whnf);first | exact zf | refine zm ?_ | refine (.inr ?_:(∃_,_)∨_) | refine (h1 ?_) | intro _)
    exact hk
end Go.Proofs.YtjpgfgajkjhonaaGreatDoor
namespace Go.Proofs.YtjpgfgajkjhonaaGreatDoor
open Go.Vx
set_option maxRecDepth 100000
def gM (c:Ca) (l:Lb):Ca:={ c with t:={ c.t with g:=sX c.t.g l } }
def pM (c:Ca) (s:bq):OR:=bif bz [5] c.ar then
  (bif bR c.t.g (bB (c.ar[0]?.getD dR)) == 0 then (match dE s (c.ar[0]?.getD dR) with
    |none=>.ok .no λ_=>(kD (gM c (bB (c.ar[0]?.getD dR))) (c.ar[0]?.getD dR).nm,s)
    |some (i,o)=>bif (ep o.va c.t.id).2.2.1 then .ok (lg (ep o.va c.t.id).2.2.2 []) λ_=>(lF (gM c (bB (c.ar[0]?.getD dR))) (ep o.va c.t.id).2.1,kF s i (c.ar[0]?.getD dR).nm { o with va:=(ep o.va c.t.id).1 })
      else .ok .no λ_=>(kD (gM c (bB (c.ar[0]?.getD dR))) (c.ar[0]?.getD dR).nm,kF s i (c.ar[0]?.getD dR).nm { o with va:=(ep o.va c.t.id).1 }))
   else .ex (bR c.t.g (bB (c.ar[0]?.getD dR))) c s) else .ex (-1) c s
def uD (c:Ca) (s:bq):OR:=bif bz [5,0] c.ar then
  (bif bR c.t.g (bB (c.ar[0]?.getD dR)) == 0 then (match dE s (c.ar[0]?.getD dR) with
    |none=>.ok .no λ_=>(kD (gM c (bB (c.ar[0]?.getD dR))) (c.ar[0]?.getD dR).nm,s)
    |some (i,o)=>bif (j1 o.va c.t.id (c.ar[1]?.getD dR)).2.1 then .ok (lg (j1 o.va c.t.id (c.ar[1]?.getD dR)).2.2 [c.ar[1]?.getD dR]) λ_=>(gM c (bB (c.ar[0]?.getD dR)),kF s i (c.ar[0]?.getD dR).nm { o with va:=(j1 o.va c.t.id (c.ar[1]?.getD dR)).1 })
      else .ok .no λ_=>(kD (gM c (bB (c.ar[0]?.getD dR))) (c.ar[0]?.getD dR).nm,kF s i (c.ar[0]?.getD dR).nm { o with va:=(j1 o.va c.t.id (c.ar[1]?.getD dR)).1 }))
   else .ex (bR c.t.g (bB (c.ar[0]?.getD dR))) c s) else .ex (-1) c s
theorem uX {q:List Wt} {i:Nat}:(qH q i).length≤q.length:=by
 unfold qH;rw [aK,ah,b_];omega
theorem tq {x:Vr} {id:List UInt8}:(ep x id).1.q.length≤x.q.length+1:=by
 unfold ep;cases x.full with
 |false=>simp
 |true=>
  cases x.q[qu true x.q]? with
  |none=>exact cK _
  |some w=>exact dV uX
theorem w_ {x:Vr} {id:List UInt8} {v:Va}:(j1 x id v).1.q.length≤x.q.length+1:=by
 unfold j1;cases x.full with
 |true=>simp
 |false=>
  cases x.q[qu false x.q]? with
  |none=>exact cK _
  |some w=>exact dV uX
def Fu (s:bq) (nm:List UInt8):Prop:=∀i o,bN nm s.th=some (i,o)→o.va.q.length<90000000
theorem Fu.sm {s:bq} {nm:List UInt8} (h:Fu s nm):uv s nm:=λi o ho=>by have:=h i o ho;omega
theorem yZ {K:Out→H→Prop} (c:Ca) (s:bq) (h:Va) (har:c.ar = [h]) (hs:iv c.t.g) (hl:cL (bB h)) (hst:c.t.c.st.length<1000000000) (hqa:Fu s h.nm) (hk:(pM c s).K K):Sat Tryz.prog 180 [.p 0 0] (eM c s) K:=by
 obtain ⟨im,now,t,tr,op,ar,ma⟩:=c;subst har;unfold pM at hk;cases hb:bz [5] [h] with
 |true=>
  have h1:=λ{K:Out→H→Prop}=>dX (K:=K) ⟨im,now,t,tr,op,[h],ma⟩ s [5] (aQ _) hb;dsimp only at hk;rw [hb,cond_true] at hk
  by_cases hw:bR t.g (bB h)=0
  ·have h2:=λ{K:Out→H→Prop}=>B9 (K:=K) ⟨im,now,t,tr,op,[h],ma⟩ s (bB h) hs hl hw;have h4:=λ{K:Out→H→Prop}=>j0 (K:=K) (gM ⟨im,now,t,tr,op,[h],ma⟩ (bB h)) s h hqa.sm
   replace hk:OR.K (match dE s h with
    |none=>.ok .no λ_=>(kD (gM ⟨im,now,t,tr,op,[h],ma⟩ (bB h)) h.nm,s)
    |some (i,o)=>bif (ep o.va t.id).2.2.1 then .ok (lg (ep o.va t.id).2.2.2 []) λ_=>(lF (gM ⟨im,now,t,tr,op,[h],ma⟩ (bB h)) (ep o.va t.id).2.1,kF s i h.nm { o with va:=(ep o.va t.id).1 })
     else .ok .no λ_=>(kD (gM ⟨im,now,t,tr,op,[h],ma⟩ (bB h)) h.nm,kF s i h.nm { o with va:=(ep o.va t.id).1 })) K:=by
    have e0:(bR t.g (bB h)==0)=true:=by simp [hw]
    have:=hk;rw [show (bR t.g (bB ([h][0]?.getD dR))==0)=true from e0,cond_true] at this;exact this
   unfold ky at h4;cases ht:dE s h with
   |none=>
    rw [ht] at h4 hk;have h5:=λ{K:Out→H→Prop}=>lh (K:=K) (gM ⟨im,now,t,tr,op,[h],ma⟩ (bB h)) s h.nm;refine s180.go (keep:=false) rfl ?_
    repeat' ((conv=>whnf);first | exact zf | refine zm ?_ | refine (.inr ?_:(∃_,_)∨_) | refine (h1 ?_) | refine (h2 ?_) | refine (h4 ?_) | refine (h5 ?_) | refine ⟨_,⟨by omega,rfl,rfl⟩,?_⟩ | refine zt ?_ | refine zu ?_ | intro _)
    exact hk none
   |some p=>
    obtain ⟨i,o⟩:=p;rw [ht] at h4 hk;dsimp only at hk;have hlk:=lp ht;have hq:=hqa i o hlk;have h5:=H6 o.va t.id (by omega);have hql:=tq (x:=o.va) (id:=t.id);generalize ep o.va t.id=r at h5 hql hk;obtain ⟨y,v,b,w⟩:=r;have h6:=λ{K:Out→H→Prop}=>lB (K:=K) s h.nm i { o with va:=y } o hlk rfl rfl (by dsimp only at hql ⊢;omega);cases b with
    |true=>
     have h7:=λ{K:Out→H→Prop}=>jO (K:=K) (gM ⟨im,now,t,tr,op,[h],ma⟩ (bB h)) (kF s i h.nm { o with va:=y }) v hst;have h8:=λ{K:Out→H→Prop}=>AZ (K:=K) (lF (gM ⟨im,now,t,tr,op,[h],ma⟩ (bB h)) v) (kF s i h.nm { o with va:=y }) w [];unfold lg at h8 hk;cases he:w == []
     all_goals
      rw [he] at h8 hk;refine s180.go (keep:=false) rfl ?_
      repeat' ((conv=>whnf);first | exact zf | refine zm ?_ | refine (.inr ?_:(∃_,_)∨_) | refine (h1 ?_) | refine (h2 ?_) | refine (h4 ?_) | refine zc h5 ?_ | refine (h6 ?_) | refine (h7 ?_) | refine (h8 ?_) | refine ⟨_,⟨by omega,rfl,rfl⟩,?_⟩ | refine zt ?_ | refine zu ?_ | intro _)
      exact hk none
    |false=>
     have h7:=λ{K:Out→H→Prop}=>lh (K:=K) (gM ⟨im,now,t,tr,op,[h],ma⟩ (bB h)) (kF s i h.nm { o with va:=y }) h.nm;refine s180.go (keep:=false) rfl ?_
     repeat' ((conv=>whnf);first | exact zf | refine zm ?_ | refine (.inr ?_:(∃_,_)∨_) | refine (h1 ?_) | refine (h2 ?_) | refine (h4 ?_) | refine zc h5 ?_ | refine (h6 ?_) | refine (h7 ?_) | refine ⟨_,⟨by omega,rfl,rfl⟩,?_⟩ | refine zt ?_ | refine zu ?_ | intro _)
     exact hk none
  ·have h2:=λ{K:Out→H→Prop}=>Ba (K:=K) ⟨im,now,t,tr,op,[h],ma⟩ s (bB h) hs hl hw;have e0:(bR t.g (bB h)==0)=false:=by simp [hw]
   rw [show (bR t.g (bB ([h][0]?.getD dR))==0)=false from e0,cond_false] at hk;refine s180.go (keep:=false) rfl ?_
   repeat' ((conv=>whnf);first | exact zf | refine zm ?_ | refine (.inr ?_:(∃_,_)∨_) | refine (h1 ?_) | refine (h2 ?_) | refine ⟨_,⟨by omega,rfl,rfl⟩,?_⟩ | refine zt ?_ | refine zu ?_ | intro _)
   exact hk
 |false=>
  have h1:=λ{K:Out→H→Prop}=>dY (K:=K) ⟨im,now,t,tr,op,[h],ma⟩ s [5] (aQ _) hb;dsimp only at hk;rw [hb,cond_false] at hk;refine s180.go (keep:=false) rfl ?_
  repeat' ((conv=>whnf);first | exact zf | refine zm ?_ | refine (.inr ?_:(∃_,_)∨_) | refine (h1 ?_) | intro _)
  exact hk
theorem CY {K:Out→H→Prop} (c:Ca) (s:bq) (h v:Va) (har:c.ar = [h,v]) (hs:iv c.t.g) (hl:cL (bB h)) (hqa:Fu s h.nm) (hk:(uD c s).K K):Sat Tryz.prog 181 [.p 0 0] (eM c s) K:=by
 obtain ⟨im,now,t,tr,op,ar,ma⟩:=c;subst har;unfold uD at hk;cases hb:bz [5,0] [h,v] with
 |true=>
  have h1:=λ{K:Out→H→Prop}=>dX (K:=K) ⟨im,now,t,tr,op,[h,v],ma⟩ s [5,0] (aQ _) hb;dsimp only at hk;rw [hb,cond_true] at hk
  by_cases hw:bR t.g (bB h)=0
  ·have h2:=λ{K:Out→H→Prop}=>B9 (K:=K) ⟨im,now,t,tr,op,[h,v],ma⟩ s (bB h) hs hl hw;have h4:=λ{K:Out→H→Prop}=>j0 (K:=K) (gM ⟨im,now,t,tr,op,[h,v],ma⟩ (bB h)) s h hqa.sm
   replace hk:OR.K (match dE s h with
    |none=>.ok .no λ_=>(kD (gM ⟨im,now,t,tr,op,[h,v],ma⟩ (bB h)) h.nm,s)
    |some (i,o)=>bif (j1 o.va t.id v).2.1 then .ok (lg (j1 o.va t.id v).2.2 [v]) λ_=>(gM ⟨im,now,t,tr,op,[h,v],ma⟩ (bB h),kF s i h.nm { o with va:=(j1 o.va t.id v).1 })
     else .ok .no λ_=>(kD (gM ⟨im,now,t,tr,op,[h,v],ma⟩ (bB h)) h.nm,kF s i h.nm { o with va:=(j1 o.va t.id v).1 })) K:=by
    have e0:(bR t.g (bB h)==0)=true:=by simp [hw]
    have:=hk;rw [show (bR t.g (bB ([h,v][0]?.getD dR))==0)=true from e0,cond_true] at this;exact this
   unfold ky at h4;cases ht:dE s h with
   |none=>
    rw [ht] at h4 hk;have h5:=λ{K:Out→H→Prop}=>lh (K:=K) (gM ⟨im,now,t,tr,op,[h,v],ma⟩ (bB h)) s h.nm;refine s181.go (keep:=false) rfl ?_
    repeat' ((conv=>whnf);first | exact zf | refine zm ?_ | refine (.inr ?_:(∃_,_)∨_) | refine (h1 ?_) | refine (h2 ?_) | refine (h4 ?_) | refine (h5 ?_) | refine ⟨_,⟨by omega,rfl,rfl⟩,?_⟩ | refine zt ?_ | refine zu ?_ | intro _)
    exact hk none
   |some p=>
    obtain ⟨i,o⟩:=p;rw [ht] at h4 hk;dsimp only at hk;have hlk:=lp ht;have hq:=hqa i o hlk;have h5:=MP o.va t.id v (by omega);have hql:=w_ (x:=o.va) (id:=t.id) (v:=v);generalize j1 o.va t.id v=r at h5 hql hk;obtain ⟨y,b,w⟩:=r;have h6:=λ{K:Out→H→Prop}=>lB (K:=K) s h.nm i { o with va:=y } o hlk rfl rfl (by dsimp only at hql ⊢;omega);cases b with
    |true=>
     have h8:=λ{K:Out→H→Prop}=>AZ (K:=K) (gM ⟨im,now,t,tr,op,[h,v],ma⟩ (bB h)) (kF s i h.nm { o with va:=y }) w [v];unfold lg at h8 hk;cases he:w == []
     all_goals
      rw [he] at h8 hk;refine s181.go (keep:=false) rfl ?_
      repeat' ((conv=>whnf);first | exact zf | refine zm ?_ | refine (.inr ?_:(∃_,_)∨_) | refine (h1 ?_) | refine (h2 ?_) | refine (h4 ?_) | refine zc h5 ?_ | refine (h6 ?_) | refine (h8 ?_) | refine ⟨_,⟨by omega,rfl,rfl⟩,?_⟩ | refine zt ?_ | refine zu ?_ | intro _)
      exact hk none
    |false=>
     have h7:=λ{K:Out→H→Prop}=>lh (K:=K) (gM ⟨im,now,t,tr,op,[h,v],ma⟩ (bB h)) (kF s i h.nm { o with va:=y }) h.nm;refine s181.go (keep:=false) rfl ?_
     repeat' ((conv=>whnf);first | exact zf | refine zm ?_ | refine (.inr ?_:(∃_,_)∨_) | refine (h1 ?_) | refine (h2 ?_) | refine (h4 ?_) | refine zc h5 ?_ | refine (h6 ?_) | refine (h7 ?_) | refine ⟨_,⟨by omega,rfl,rfl⟩,?_⟩ | refine zt ?_ | refine zu ?_ | intro _)
     exact hk none
  ·have h2:=λ{K:Out→H→Prop}=>Ba (K:=K) ⟨im,now,t,tr,op,[h,v],ma⟩ s (bB h) hs hl hw;have e0:(bR t.g (bB h)==0)=false:=by simp [hw]
   rw [show (bR t.g (bB ([h,v][0]?.getD dR))==0)=false from e0,cond_false] at hk;refine s181.go (keep:=false) rfl ?_
   repeat' ((conv=>whnf);first | exact zf | refine zm ?_ | refine (.inr ?_:(∃_,_)∨_) | refine (h1 ?_) | refine (h2 ?_) | refine ⟨_,⟨by omega,rfl,rfl⟩,?_⟩ | refine zt ?_ | refine zu ?_ | intro _)
   exact hk
 |false=>
  have h1:=λ{K:Out→H→Prop}=>dY (K:=K) ⟨im,now,t,tr,op,[h,v],ma⟩ s [5,0] (aQ _) hb;dsimp only at hk;rw [hb,cond_false] at hk;refine s181.go (keep:=false) rfl ?_
  repeat' ((conv=>whnf);first | exact zf | refine zm ?_ | refine (.inr ?_:(∃_,_)∨_) | refine (h1 ?_) | intro _)
  exact hk
end Go.Proofs.YtjpgfgajkjhonaaGreatDoor
namespace Go.Proofs.YtjpgfgajkjhonaaGreatDoor
open Go.Vx
set_option maxRecDepth 100000
def rV (k:Int) (c:Ca) (s:bq):OR:=bif bz [0,2] c.ar then jI c s { fG with k:=k,l:=bB (c.ar[1]?.getD dR),v:=c.ar[0]?.getD dR } else .ex (-1) c s
theorem zM {K:Out→H→Prop} (c:Ca) (s:bq) (a m:Va) (har:c.ar = [a,m]) (h:C2 c s { fG with k:=3,l:=bB m,v:=a }) (hk:(rV 3 c s).K K):Sat Tryz.prog 174 [.p 0 0] (eM c s) K:=by
 obtain ⟨im,now,t,tr,o,ar,ma⟩:=c;subst har;have h2:=λ{K:Out→H→Prop}=>oZ (K:=K) ⟨im,now,t,tr,o,[a,m],ma⟩ s _ h;unfold rV at hk;cases hb:bz [0,2] [a,m] with
 |true=>
  have h1:=λ{K:Out→H→Prop}=>dX (K:=K) ⟨im,now,t,tr,o,[a,m],ma⟩ s [0,2] (aQ _) hb;dsimp only at hk;rw [hb,cond_true] at hk
  replace hk:(jI ⟨im,now,t,tr,o,[a,m],ma⟩ s { fG with k:=3,l:=bB m,v:=a }).K K:=hk
  generalize hR:jI ⟨im,now,t,tr,o,[a,m],ma⟩ s { fG with k:=3,l:=bB m,v:=a }=R at h2 hk;cases R with
  |ok e f=>
   cases e
   all_goals
    refine s174.go (keep:=false) rfl ?_
    repeat' ((conv=>whnf);first | exact zf | refine zm ?_ | refine (.inr ?_:(∃_,_)∨_) | refine (h1 ?_) | refine (h2 (λb=>?_)) | refine ⟨_,⟨by omega,rfl,rfl⟩,?_⟩ | intro _)
    exact hk _
  |ex n c' s'=>
   have h3:=λ{K:Out→H→Prop} (g:K (.fW (nD n)) (eM c' s'))=>h2 (K:=K) g;refine s174.go (keep:=false) rfl ?_
   repeat' ((conv=>whnf);first | exact zf | refine zm ?_ | refine (.inr ?_:(∃_,_)∨_) | refine (h1 ?_) | refine (h3 ?_) | refine ⟨_,⟨by omega,rfl,rfl⟩,?_⟩ | intro _)
   exact hk
 |false=>
  have h1:=λ{K:Out→H→Prop}=>dY (K:=K) ⟨im,now,t,tr,o,[a,m],ma⟩ s [0,2] (aQ _) hb;dsimp only at hk;rw [hb,cond_false] at hk;refine s174.go (keep:=false) rfl ?_
  repeat' ((conv=>whnf);first | exact zf | refine zm ?_ | refine (.inr ?_:(∃_,_)∨_) | refine (h1 ?_) | intro _)
  exact hk
theorem zK {K:Out→H→Prop} (c:Ca) (s:bq) (a m:Va) (har:c.ar = [a,m]) (h:C2 c s { fG with k:=4,l:=bB m,v:=a }) (hk:(rV 4 c s).K K):Sat Tryz.prog 176 [.p 0 0] (eM c s) K:=by
 obtain ⟨im,now,t,tr,o,ar,ma⟩:=c;subst har;have h2:=λ{K:Out→H→Prop}=>oZ (K:=K) ⟨im,now,t,tr,o,[a,m],ma⟩ s _ h;unfold rV at hk;cases hb:bz [0,2] [a,m] with
 |true=>
  have h1:=λ{K:Out→H→Prop}=>dX (K:=K) ⟨im,now,t,tr,o,[a,m],ma⟩ s [0,2] (aQ _) hb;dsimp only at hk;rw [hb,cond_true] at hk
  replace hk:(jI ⟨im,now,t,tr,o,[a,m],ma⟩ s { fG with k:=4,l:=bB m,v:=a }).K K:=hk
  generalize hR:jI ⟨im,now,t,tr,o,[a,m],ma⟩ s { fG with k:=4,l:=bB m,v:=a }=R at h2 hk;cases R with
  |ok e f=>
   cases e
   all_goals
    refine s176.go (keep:=false) rfl ?_
    repeat' ((conv=>whnf);first | exact zf | refine zm ?_ | refine (.inr ?_:(∃_,_)∨_) | refine (h1 ?_) | refine (h2 (λb=>?_)) | refine ⟨_,⟨by omega,rfl,rfl⟩,?_⟩ | intro _)
    exact hk _
  |ex n c' s'=>
   have h3:=λ{K:Out→H→Prop} (g:K (.fW (nD n)) (eM c' s'))=>h2 (K:=K) g;refine s176.go (keep:=false) rfl ?_
   repeat' ((conv=>whnf);first | exact zf | refine zm ?_ | refine (.inr ?_:(∃_,_)∨_) | refine (h1 ?_) | refine (h3 ?_) | refine ⟨_,⟨by omega,rfl,rfl⟩,?_⟩ | intro _)
   exact hk
 |false=>
  have h1:=λ{K:Out→H→Prop}=>dY (K:=K) ⟨im,now,t,tr,o,[a,m],ma⟩ s [0,2] (aQ _) hb;dsimp only at hk;rw [hb,cond_false] at hk;refine s176.go (keep:=false) rfl ?_
  repeat' ((conv=>whnf);first | exact zf | refine zm ?_ | refine (.inr ?_:(∃_,_)∨_) | refine (h1 ?_) | intro _)
  exact hk
def vO (c:Ca) (s:bq):OR:=bif bz [2] c.ar then jI c s { fG with k:=5,l:=bB (c.ar[0]?.getD dR) } else .ex (-1) c s
theorem zJ {K:Out→H→Prop} (c:Ca) (s:bq) (m:Va) (har:c.ar = [m]) (h:C2 c s { fG with k:=5,l:=bB m }) (hk:(vO c s).K K):Sat Tryz.prog 179 [.p 0 0] (eM c s) K:=by
 obtain ⟨im,now,t,tr,o,ar,ma⟩:=c;subst har;have h2:=λ{K:Out→H→Prop}=>oZ (K:=K) ⟨im,now,t,tr,o,[m],ma⟩ s _ h;unfold vO at hk;cases hb:bz [2] [m] with
 |true=>
  have h1:=λ{K:Out→H→Prop}=>dX (K:=K) ⟨im,now,t,tr,o,[m],ma⟩ s [2] (aQ _) hb;dsimp only at hk;rw [hb,cond_true] at hk
  replace hk:(jI ⟨im,now,t,tr,o,[m],ma⟩ s { fG with k:=5,l:=bB m }).K K:=hk
  generalize hR:jI ⟨im,now,t,tr,o,[m],ma⟩ s { fG with k:=5,l:=bB m }=R at h2 hk;cases R with
  |ok e f=>
   cases e
   all_goals
    refine s179.go (keep:=false) rfl ?_
    repeat' ((conv=>whnf);first | exact zf | refine zm ?_ | refine (.inr ?_:(∃_,_)∨_) | refine (h1 ?_) | refine (h2 (λb=>?_)) | refine ⟨_,⟨by omega,rfl,rfl⟩,?_⟩ | intro _)
    exact hk _
  |ex n c' s'=>
   have h3:=λ{K:Out→H→Prop} (g:K (.fW (nD n)) (eM c' s'))=>h2 (K:=K) g;refine s179.go (keep:=false) rfl ?_
   repeat' ((conv=>whnf);first | exact zf | refine zm ?_ | refine (.inr ?_:(∃_,_)∨_) | refine (h1 ?_) | refine (h3 ?_) | refine ⟨_,⟨by omega,rfl,rfl⟩,?_⟩ | intro _)
   exact hk
 |false=>
  have h1:=λ{K:Out→H→Prop}=>dY (K:=K) ⟨im,now,t,tr,o,[m],ma⟩ s [2] (aQ _) hb;dsimp only at hk;rw [hb,cond_false] at hk;refine s179.go (keep:=false) rfl ?_
  repeat' ((conv=>whnf);first | exact zf | refine zm ?_ | refine (.inr ?_:(∃_,_)∨_) | refine (h1 ?_) | intro _)
  exact hk
def vP (c:Ca) (s:bq):OR:=bif bz [2] c.ar then jI c s { fG with k:=7,l:=bB (c.ar[0]?.getD dR),fu:=c.o.a,ma:=c.ma } else .ex (-1) c s
theorem xL {K:Out→H→Prop} (c:Ca) (s:bq) (m:Va) (har:c.ar = [m]) (h:C2 c s { fG with k:=7,l:=bB m,fu:=c.o.a,ma:=c.ma }) (hk:(vP c s).K K):Sat Tryz.prog 188 [.p 0 0] (eM c s) K:=by
 obtain ⟨im,now,t,tr,o,ar,ma⟩:=c;subst har;have h2:=λ{K:Out→H→Prop}=>oZ (K:=K) ⟨im,now,t,tr,o,[m],ma⟩ s _ h;unfold vP at hk;cases hb:bz [2] [m] with
 |true=>
  have h1:=λ{K:Out→H→Prop}=>dX (K:=K) ⟨im,now,t,tr,o,[m],ma⟩ s [2] (aQ _) hb;dsimp only at hk;rw [hb,cond_true] at hk
  replace hk:(jI ⟨im,now,t,tr,o,[m],ma⟩ s { fG with k:=7,l:=bB m,fu:=o.a,ma:=ma }).K K:=hk
  generalize hR:jI ⟨im,now,t,tr,o,[m],ma⟩ s { fG with k:=7,l:=bB m,fu:=o.a,ma:=ma }=R at h2 hk;cases R with
  |ok e f=>
   cases e
   all_goals
    refine s188.go (keep:=false) rfl ?_
    repeat' ((conv=>whnf);first | exact zf | refine zm ?_ | refine (.inr ?_:(∃_,_)∨_) | refine (h1 ?_) | refine (h2 (λb=>?_)) | refine ⟨_,⟨by omega,rfl,rfl⟩,?_⟩ | intro _)
    exact hk _
  |ex n c' s'=>
   have h3:=λ{K:Out→H→Prop} (g:K (.fW (nD n)) (eM c' s'))=>h2 (K:=K) g;refine s188.go (keep:=false) rfl ?_
   repeat' ((conv=>whnf);first | exact zf | refine zm ?_ | refine (.inr ?_:(∃_,_)∨_) | refine (h1 ?_) | refine (h3 ?_) | refine ⟨_,⟨by omega,rfl,rfl⟩,?_⟩ | intro _)
   exact hk
 |false=>
  have h1:=λ{K:Out→H→Prop}=>dY (K:=K) ⟨im,now,t,tr,o,[m],ma⟩ s [2] (aQ _) hb;dsimp only at hk;rw [hb,cond_false] at hk;refine s188.go (keep:=false) rfl ?_
  repeat' ((conv=>whnf);first | exact zf | refine zm ?_ | refine (.inr ?_:(∃_,_)∨_) | refine (h1 ?_) | intro _)
  exact hk
def j2 (c:Ca) (s:bq):OR:=
 bif c.o.c==25 then NQ c s else bif c.o.c==26 then NV c s else bif c.o.c==27 then n6 c s else bif c.o.c==28 then vU c s else
 bif c.o.c==29 then rV 3 c s else bif c.o.c==30 then rT c s else bif c.o.c==32 then rV 4 c s else bif c.o.c==33 then oP c s else
 bif c.o.c==34 then pJ c s else bif c.o.c==35 then vO c s else bif c.o.c==36 then pM c s else bif c.o.c==37 then uD c s else
 bif c.o.c==38 then BR c s else bif c.o.c==39 then A0 c s else bif c.o.c==40 then vA c s else bif c.o.c==41 then yy c s else
 bif c.o.c==42 then B0 c s else bif c.o.c==43 then BK c s else bif c.o.c==45 then vP c s else bif c.o.c==46 then qn c s else .ex 0 c s
def codeF:List (Int×Nat×Int):=[(25,170,0),(26,171,0),(27,172,1),(28,173,1),(29,174,2),(30,175,1),(32,176,2),(33,177,1),(34,178,2),(35,179,1),(36,180,1),(37,181,2),(38,182,3),(39,183,1),(40,184,4),(41,185,2),(42,186,1),(43,187,1),(45,188,1),(46,189,2)]
structure C1 (c:Ca) (s:bq):Prop where
  n:Kw c.t
  g:iv c.t.g
  ar:∀v∈c.ar,cL (bB v)
  gs:lW s
  st:c.t.c.st.length<800000000
  fr:c.t.c.fr.length<900000000
  sc:c.t.sc.length<900000000
  w:0≤c.now∧c.now<1000000000
  q:∀p∈s.th,p.2.va.q.length<90000000
theorem j7 {key:List UInt8}:∀{l:List (List UInt8×Ob)} {i:Nat} {o:Ob},bN key l=some (i,o)→∃p∈l,p.2=o
 |[],_,_,h=>nomatch h
 |p :: r,i,o,h=>by
  unfold bN at h
  by_cases hb:key=p.1
  ·rw [if_pos hb] at h;cases h;exact ⟨p,bY ..,rfl⟩
  ·rw [if_neg hb] at h;cases hr:bN key r with
   |none=>rw [hr] at h;cases h
   |some q=>
    rw [hr] at h;obtain ⟨p',hp,he⟩:=j7 (i:=q.1) (o:=q.2) (by rw [hr]);cases h;exact ⟨p',cM _ hp,he⟩
theorem C1.NF {c:Ca} {s:bq} (h:C1 c s) (nm:List UInt8):Fu s nm:=λi o ho=>by
 obtain ⟨p,hp,he⟩:=j7 ho;rw [←he];exact h.q p hp
theorem C1.Ro {c:Ca} {s:bq} (h:C1 c s) (o:Ob) (hl:cL o.l) (h3:3≤o.k) (h7:o.k≤7) (hq:o.va.q.length<100000000):C2 c s o:=⟨h.n,h.g,hl,h.gs,h3,h7,hq,by have:=h.st;omega⟩
theorem EC (a b:Lb):cL (dU a b):=⟨fk _,fk _⟩
theorem JG {K:Out→H→Prop} (c:Ca) (s:bq) (F:Nat) (po:Int) (hF:(c.o.c,F,po)∈codeF) (hl:(c.ar.length:Int)=po) (h:C1 c s) (hk:(j2 c s).K K):Sat Tryz.prog F [.p 0 0] (eM c s) K:=by
 have hst:c.t.c.st.length<1000000000:=by have:=h.st;omega
 have hfr:c.t.c.fr.length<1000000000:=by have:=h.fr;omega
 unfold j2 at hk;have a1:c.ar.length=1→∃m,c.ar = [m]:=λe=>eA.1 e;have a2:c.ar.length=2→∃a b,c.ar = [a,b]:=λe=>by
  match har:c.ar,e with
  |[a,b],_=>exact ⟨a,b,rfl⟩
 simp only [codeF,ae,ck,cT,or_false] at hF;rcases hF with ⟨hc,rfl,rfl⟩ | ⟨hc,rfl,rfl⟩ | ⟨hc,rfl,rfl⟩ | ⟨hc,rfl,rfl⟩ | ⟨hc,rfl,rfl⟩ | ⟨hc,rfl,rfl⟩ | ⟨hc,rfl,rfl⟩ | ⟨hc,rfl,rfl⟩ | ⟨hc,rfl,rfl⟩ | ⟨hc,rfl,rfl⟩ | ⟨hc,rfl,rfl⟩ | ⟨hc,rfl,rfl⟩ | ⟨hc,rfl,rfl⟩ | ⟨hc,rfl,rfl⟩ | ⟨hc,rfl,rfl⟩ | ⟨hc,rfl,rfl⟩ | ⟨hc,rfl,rfl⟩ | ⟨hc,rfl,rfl⟩ | ⟨hc,rfl,rfl⟩ | ⟨hc,rfl,rfl⟩<;>rw [hc] at hk
 ·exact NR c s hst hk
 ·exact NW c s hst hk
 ·obtain ⟨m,e⟩:=a1 (by omega);have hm:=h.ar m (by rw [e];exact bY ..);exact E4 c s m e h.g hm (EC _ _) hk
 ·obtain ⟨m,e⟩:=a1 (by omega);have hm:=h.ar m (by rw [e];exact bY ..);exact FJ c s m e h.g hm hk
 ·obtain ⟨a,m,e⟩:=a2 (by omega);have hm:=h.ar m (by rw [e];exact cM _ (bY ..));exact zM c s a m e (h.Ro _ hm (show (3:Int)≤3 by decide) (show (3:Int)≤7 by decide) (show (0:Nat)<_ by decide)) hk
 ·obtain ⟨m,e⟩:=a1 (by omega);have hm:=h.ar m (by rw [e];exact bY ..);exact Aq c s m e hst h.g hm (EC _ _) (h.NF _).sm hk
 ·obtain ⟨a,m,e⟩:=a2 (by omega);have hm:=h.ar m (by rw [e];exact cM _ (bY ..));exact zK c s a m e (h.Ro _ hm (show (3:Int)≤4 by decide) (show (4:Int)≤7 by decide) (show (0:Nat)<_ by decide)) hk
 ·obtain ⟨m,e⟩:=a1 (by omega);have hm:=h.ar m (by rw [e];exact bY ..);exact yu c s m e hst h.g hm (EC _ _) (h.NF _).sm hk
 ·obtain ⟨a,v,e⟩:=a2 (by omega);have hm:=h.ar a (by rw [e];exact bY ..);exact wR c s a v e h.g hm (h.NF _).sm hk
 ·obtain ⟨m,e⟩:=a1 (by omega);have hm:=h.ar m (by rw [e];exact bY ..);exact zJ c s m e (h.Ro _ hm (show (3:Int)≤5 by decide) (show (5:Int)≤7 by decide) (show (0:Nat)<_ by decide)) hk
 ·obtain ⟨m,e⟩:=a1 (by omega);have hm:=h.ar m (by rw [e];exact bY ..);exact yZ c s m e h.g hm hst (h.NF _) hk
 ·obtain ⟨a,v,e⟩:=a2 (by omega);have hm:=h.ar a (by rw [e];exact bY ..);exact CY c s a v e h.g hm (h.NF _) hk
 ·obtain ⟨a,r,m,e⟩:∃a r m,c.ar = [a,r,m]:=by
   match har:c.ar,hl with
   |[a,r,m],_=>exact ⟨a,r,m,rfl⟩
  have hm:=h.ar m (by rw [e];simp);exact Jk c s a r m e ⟨h.n,h.g,hm,h.gs,hst⟩ hk
 ·obtain ⟨m,e⟩:=a1 (by omega);have hm:=h.ar m (by rw [e];exact bY ..);exact HQ c s m e hst h.g hm (EC _ _) (h.NF _).sm hk
 ·obtain ⟨a,r,k,m,e⟩:∃a r k m,c.ar = [a,r,k,m]:=by
   match har:c.ar,hl with
   |[a,r,k,m],_=>exact ⟨a,r,k,m,rfl⟩
  have hm:=h.ar m (by rw [e];simp);exact EG c s a r k m e ⟨h.n,h.g,hm,hfr,by have:=h.sc;omega,h.w⟩ hk
 ·obtain ⟨a,m,e⟩:=a2 (by omega);have hm:=h.ar m (by rw [e];exact cM _ (bY ..));exact Eg c s a m e h.g hm hk
 ·obtain ⟨m,e⟩:=a1 (by omega);have hm:=h.ar m (by rw [e];exact bY ..);exact Jr c s m e h.g hm hk
 ·obtain ⟨m,e⟩:=a1 (by omega);have hm:=h.ar m (by rw [e];exact bY ..);exact JX c s m e h.g hm hk
 ·obtain ⟨m,e⟩:=a1 (by omega);have hm:=h.ar m (by rw [e];exact bY ..);exact xL c s m e (h.Ro _ hm (show (3:Int)≤7 by decide) (show (7:Int)≤7 by decide) (show (0:Nat)<_ by decide)) hk
 ·obtain ⟨a,m,e⟩:=a2 (by omega);have hm:=h.ar m (by rw [e];exact cM _ (bY ..));exact GB c s a m e hfr hst h.g hm (EC _ _) (h.NF _).sm hk
end Go.Proofs.YtjpgfgajkjhonaaGreatDoor
namespace Go.Proofs.YtjpgfgajkjhonaaGreatDoor
open Go.Vx
set_option maxRecDepth 100000
theorem Ht {K:H→Prop} (a b:D) (hk:K [.cells [.d a],.cells [.d b]]):AP Tryz.prog 169 [.p 0 0,.p 1 0] [.cells [.d a],.cells [.d b]] none K:=by
 refine s169 rfl ?_
 repeat' ((conv=>whnf);first | exact zf | refine zm ?_ | intro _)
 exact hk
theorem Hr {K:H→Prop} (a b:D) (n:Int) (hk:K [.cells [.d (.int .i64 n)],.cells [.d (.bool true)]]):AP Tryz.prog 169 [.p 0 0,.p 1 0] [.cells [.d a],.cells [.d b]] (some (nD n)) K:=by
 refine s169 rfl ?_
 repeat' ((conv=>whnf);first | exact zf | refine zm ?_ | intro _)
 exact hk
def OR.L (r:OR) (K:Out→H→Prop):Prop:=match r with
 |.ok e f=>∀b,K (.ret (.tu [.ag [.d (.int .i64 0)],.d (.bool false)])) (KN (f b).1 e false (f b).2)
 |.ex n c s=>K (.ret (.tu [.ag [.d (.int .i64 n)],.d (.bool true)])) (eM c s)
theorem JZ {K:Out→H→Prop} (F:Nat) (hlt:Nat.blt F 5000000=true) (R:OR) (c:Ca) (s:bq) (hF:∀{K:Out→H→Prop},R.K K→Sat Tryz.prog F [.p 0 0] (eM c s) K) (hk:R.L K):Sat Tryz.prog 115 [.p 0 0,.d (.fn F)] (eM c s) K:=by
 cases R with
 |ok e f=>
  cases e
  all_goals
   refine s115 (keep:=false) rfl ?_;unfold RA
   repeat' ((conv=>whnf);first | exact zf | refine zm ?_ | intro _)
   conv=>whnf
   rw [hlt]
   repeat' ((conv=>whnf);first | exact zf | refine zm ?_ | refine (.inr ?_:(∃_,_)∨_) | refine (hF (λb=>?_)) | refine (Ht _ _ ?_) | intro _)
   exact hk _
 |ex n c' s'=>
  have hF':=λ{K:Out→H→Prop} (h:K (.fW (nD n)) (eM c' s'))=>hF (K:=K) h;refine s115 (keep:=false) rfl ?_;unfold RA
  repeat' ((conv=>whnf);first | exact zf | refine zm ?_ | intro _)
  conv=>whnf
  rw [hlt]
  repeat' ((conv=>whnf);first | exact zf | refine zm ?_ | refine (.inr ?_:(∃_,_)∨_) | refine (hF' ?_) | refine (Hr _ _ _ ?_) | intro _)
  exact hk
def T3:List (Int×Nat):=[(25,170),(26,171),(27,172),(28,173),(29,174),(30,175),(32,176),(33,177),(34,178),(35,179),(36,180),(37,181),(38,182),(39,183),(40,184),(41,185),(42,186),(43,187),(45,188),(46,189)]
def R1:List (V×V):=T3.map λp=>(.d (.int .i64 p.1),.d (.fn p.2))
def Bk (c:Int) (F:Nat):Prop:=∃j,pI [0,3] [.d (.int .i64 c)] R1 0=some (some (j,.d (.fn F)))
theorem Gd {K:Out→H→Prop} (hk:K (.ret (.mp 0)) [.mp R1]):Sat Tryz.prog 116 [] [] K:=by
 refine s116.go (keep:=true) rfl ?_
 repeat' ((conv=>whnf);first | exact zf | refine zm ?_ | refine ⟨_,rfl,?_⟩ | intro _)
 exact hk
def kr (im:Im) (t:Th) (now:Int):Ca:=⟨im,now,t,(bP t).tr,o0,[],0⟩
def pv (c:Ca) (k:Co):Ca:={ c with t:={ c.t with c:=k } }
def iU (c:Ca) (o:Op) (f:Fr) (po:Int):Ca:={ c with o:=o,ma:=f.ma,ar:=kK c.t.c po,t:={ c.t with c:={ qP c.t.c po with fr:=bU c.t.c.fr f } } }
structure Rs where
  t:Th
  e:Fx
  d:Bool
  s:bq
def Gu (p:Ca×Bool×bq):Rs:=⟨p.1.t,.no,p.2.1,p.2.2⟩
def OR.A (r:OR) (gA:Co) (K:Out→H→Prop):Prop:=match r with
 |.ok e f=>∀b,K (.ret (.tu [])) (KN (f b).1 e false (f b).2)
 |.ex n c s=>K (.ret (.tu [])) (RU (kJ c s gA n))
def OR.fin (r:OR) (gA:Co) (b:Option Nat):Rs:=match r with
 |.ok e f=>⟨(f b).1.t,e,false,(f b).2⟩
 |.ex n c s=>Gu (kJ c s gA n)
def D4 (c:Ca) (s:bq):OR:=
 bif c.o.c==27 then n6 c s else
 bif c.o.c==29 then C9 3 c s else
 bif c.o.c==30 then rT c s else
 bif c.o.c==32 then C9 4 c s else
 bif c.o.c==35 then FB c s else
 bif c.o.c==41 then yy c s else .ex 0 c s
def R0 (c:Ca) (s:bq) (o:Op) (b:Option Nat):Rs:=
 match c.t.c.fr.getLast?,inf o.c with
 |some f,some i=>(D4 (iU c o f i.po) s).fin c.t.c b
 |_,_=>⟨c.t,.no,false,s⟩
def DH (im:Im) (t:Th) (s:bq) (now:Int) (b:Option Nat):Rs:=
 bif t.st != 0 then ⟨t,.no,false,s⟩ else
 bif (dw im t.c (bP t).fr (bP t).tr).2.k==1 then Gu (nN (pv (kr im t now) (dw im t.c (bP t).fr (bP t).tr).1) s (dw im t.c (bP t).fr (bP t).tr).2.v false) else
 bif (dw im t.c (bP t).fr (bP t).tr).2.k==2 then Gu (nN (pv (kr im t now) (dw im t.c (bP t).fr (bP t).tr).1) s (dw im t.c (bP t).fr (bP t).tr).2.v true) else
 bif (dw im t.c (bP t).fr (bP t).tr).2.k==3 then R0 (kr im t now) s (dw im t.c (bP t).fr (bP t).tr).2.o b else
 ⟨{ t with c:=(dw im t.c (bP t).fr (bP t).tr).1 },.no,false,s⟩
set_option maxHeartbeats 4000000 in
theorem LV {K:Out→H→Prop} (c:Ca) (s:bq) (o:Op) (f:Fr) (i:Info) (F:Nat) (R:OR) (hi:inf o.c=some i) (hf:c.t.c.fr.getLast? = some f) (hlf:c.t.c.fr.length<900000000) (hls:c.t.c.st.length<800000000) (hp:et c.t.c i.po=true) (hpc:0≤f.pc∧f.pc<1000000000) (hF:Bk o.c F) (hlt:Nat.blt F 5000000=true)
  (hR:∀{K:Out→H→Prop},R.K K→Sat Tryz.prog F [.p 0 0] (eM (iU c o f i.po) s) K) (hx:∀n c' s',R = .ex n c' s'→uv s' c'.t.id)
  (hk:R.A c.t.c K):Sat Tryz.prog 73 [.p 0 0,AO o] (UF c s) K:=by
 have h1:=nJ hi;have h2:=xB c.t.c i.po (by omega);rw [kT hp] at h2;have hpos:0<c.t.c.fr.length:=by
  cases h:c.t.c.fr with
  |nil=>rw [h] at hf;cases hf
  |cons=>simp
 have hfl:c.t.c.fr[c.t.c.fr.length - 1]? = some f:=by rw [←dQ];exact hf
 have hrow:=mJ hpos hfl;have hml:(c.t.c.fr.map bQ).length=c.t.c.fr.length:=aL _;obtain ⟨ai,hA⟩:=hF;have er:(bU c.t.c.fr f).map bQ=(c.t.c.fr.map bQ).set (((c.t.c.fr.map bQ).length:Int) - 1).toNat [.int .i64 f.fu,.int .i64 (f.pc+1),.int .i64 f.ba,.int .u8 f.ma,.sl 5 (f.vars.map cE)]:=by
  unfold bU;rw [fQ,aL];congr 1;omega
 have h4:=λ{K:Out→H→Prop}=>JZ (K:=K) F hlt R (iU c o f i.po) s hR;dsimp only [eM,kC,gR,iU] at h4;rw [er] at h4;refine s73.go (keep:=false) rfl ?_
 repeat' ((conv=>whnf);first | exact zf | refine zm ?_ | refine zc h1 ?_ | refine ⟨bQ f,⟨by omega,hrow,rfl⟩,?_⟩ | refine zc h2 ?_ | refine (qq (c.t.c.fr.map bQ) (by omega) ?_) | intro _)
 conv=>whnf
 refine ⟨bQ f,hrow,?_⟩
 repeat' ((conv=>whnf);first | exact zf | refine zm ?_ | intro _)
 conv=>whnf
 refine ⟨bQ f,hrow,⟨rfl,rfl,rfl⟩,?_⟩
 repeat' ((conv=>whnf);first | exact zf | refine (dp (dp (iW [7] ?_))) | refine zm ?_ | refine (.inr ?_:(∃_,_)∨_) | refine (Gd ?_) | refine ⟨_,hA,?_⟩ | refine (h4 ?_) | refine And.intro ?_ ?_ | intro _)
 all_goals
  clear h4 er h1 h2 hR;cases R with
  |ok e g=>
   cases e
   all_goals
    refine λb=>?_
    repeat' ((conv=>whnf);first | exact zf | refine zm ?_ | refine (gY rfl ?_) | intro _)
    exact hk _
  |ex n c' s'=>
   have h5:=λ{K:Out→H→Prop}=>Hv (K:=K) c' s' c.t.c n (by omega) (by omega) (hx n c' s' rfl)
   conv=>whnf
   repeat' ((conv=>whnf);first | exact zf | refine zm ?_ | refine (gG rfl ?_) | refine (.inr ?_:(∃_,_)∨_) | refine (h5 ?_) | intro _)
   exact hk
end Go.Proofs.YtjpgfgajkjhonaaGreatDoor
namespace Go.Proofs.YtjpgfgajkjhonaaGreatDoor
open Go.Vx
set_option maxRecDepth 100000
theorem jN {c:Co} {n kp:Int}:(raise c n kp).2.k≠3:=by
 unfold raise;cases ll c n kp
 ·exact (show (2:Int)≠3 by decide)
 ·exact (show (0:Int)≠3 by decide)
theorem nR {b:Bool} {x y:Co×Ou} (hx:x.2.k≠3) (hy:y.2.k≠3):(bif b then x else y).2.k≠3:=by cases b<;>assumption
theorem kZ {im:Im} {c:Co} {o:Op} {f:Fr} {l:List Va}:(ev im c o f l).2.k≠3:=(show (0:Int)≠3 by decide)
theorem fB {b:Bool} {x y:Co×Ou} {P:Prop} (hx:x.2.k≠3) (hy:b=false→y.2.k=3→P) (h:(bif b then x else y).2.k=3):P:=by
 cases b with
 |true=>exact absurd h hx
 |false=>exact hy rfl h
def F4 (c:Int):Prop:=c≠1∧c≠2∧c≠3∧c≠4∧c≠5∧c≠6∧¬(7≤c∧c≤13)∧c≠14∧c≠15∧c≠16∧c≠17∧c≠18∧c≠19∧c≠20∧c≠21∧c≠22∧c≠23∧c≠44∧c≠47
theorem fg {a b:Int} (h:(a==b)=false):a≠b:=by simpa using h
theorem JF {im:Im} {c:Co} {fr tr:Int} {o:Op} {f:Fr} {P:Prop} (hp:mE im c fr tr o f=(c,⟨3,zeroV,o⟩)→o.c≠1→o.c≠2→o.c≠4→o.c≠5→o.c≠6→o.c≠12→¬(7≤o.c∧o.c≤13)→o.c≠14→o.c≠15→o.c≠16→o.c≠17→o.c≠18→o.c≠19→o.c≠20→o.c≠21→o.c≠44→o.c≠47→P)
  (h:(mE im c fr tr o f).2.k=3):P:=by
 have hp:=hp;unfold mE at h hp
 revert h
 have z0:∀{x:Co},(x,cD).2.k≠3:=λ{x}=>(show (0:Int)≠3 by decide)
 refine fB (kZ) λh1=>?_;refine fB (kZ) λh2=>?_;refine fB (kZ) λh4=>?_;refine fB (kZ) λh5=>?_;refine fB (kZ) λh6=>?_;refine fB (kZ) λh12=>?_;refine fB (nR (by split<;>first | exact kZ | exact jN) (jN)) λh7=>?_;refine fB (nR (kZ) (jN)) λh14=>?_;refine fB z0 λh15=>?_;refine fB (nR (nR (kZ) z0) (jN)) λh16=>?_;refine fB (nR z0 (jN)) λh17=>?_;refine fB (nR (show (1:Int)≠3 by decide) z0) λh18=>?_;refine fB (nR (jN) (jN)) λh19=>?_;refine fB z0 λh20=>?_;refine fB (nR z0 (kZ)) λh21=>?_;refine fB z0 λh44=>?_;refine fB (kZ) λh47=>?_;intro _;have h7':¬(7≤o.c∧o.c≤13):=by simpa using h7
 refine hp ?_ (fg h1) (fg h2) (fg h4) (fg h5) (fg h6) (fg h12) h7' (fg h14) (fg h15) (fg h16) (fg h17) (fg h18) (fg h19) (fg h20) (fg h21) (fg h44) (fg h47);simp only [h1,h2,h4,h5,h6,h12,h7,h14,h15,h16,h17,h18,h19,h20,h21,h44,h47,cond_false]
theorem JE {im:Im} {c:Co} {fr tr:Int} {o:Op} {f:Fr} (h:(Ar im c fr tr o f).2.k=3):Ar im c fr tr o f=(c,⟨3,zeroV,o⟩)∧F4 o.c:=by
 have z0:∀{x:Co},(x,cD).2.k≠3:=λ{x}=>(show (0:Int)≠3 by decide)
 have h0:=h;unfold Ar at h ⊢
 revert h
 refine fB z0 λh3=>?_;refine fB (nR (kZ) (jN)) λh22=>?_;refine fB (nR (kZ) (jN)) λh23=>?_;refine JF λhe a1 a2 a4 a5 a6 a12 a7 a14 a15 a16 a17 a18 a19 a20 a21 a44 a47=>?_;refine ⟨?_,a1,a2,fg h3,a4,a5,a6,a7,a14,a15,a16,a17,a18,a19,a20,a21,fg h22,fg h23,a44,a47⟩;simp only [h3,h22,h23,cond_false];exact he
theorem GZ {c:Int} (h1:1≤c) (h2:c≤47) (ha:F4 c) (h24:c≠24) (h31:c≠31):∃F po,(c,F,po)∈codeF:=by
 unfold F4 at ha;have:c=25∨c=26∨c=27∨c=28∨c=29∨c=30∨c=32∨c=33∨c=34∨c=35∨c=36∨c=37∨c=38∨c=39∨c=40∨c=41∨c=42∨c=43∨c=45∨c=46:=by omega
 rcases this with rfl | rfl | rfl | rfl | rfl | rfl | rfl | rfl | rfl | rfl | rfl | rfl | rfl | rfl | rfl | rfl | rfl | rfl | rfl | rfl
 ·exact ⟨170,0,by decide⟩
 ·exact ⟨171,0,by decide⟩
 ·exact ⟨172,1,by decide⟩
 ·exact ⟨173,1,by decide⟩
 ·exact ⟨174,2,by decide⟩
 ·exact ⟨175,1,by decide⟩
 ·exact ⟨176,2,by decide⟩
 ·exact ⟨177,1,by decide⟩
 ·exact ⟨178,2,by decide⟩
 ·exact ⟨179,1,by decide⟩
 ·exact ⟨180,1,by decide⟩
 ·exact ⟨181,2,by decide⟩
 ·exact ⟨182,3,by decide⟩
 ·exact ⟨183,1,by decide⟩
 ·exact ⟨184,4,by decide⟩
 ·exact ⟨185,2,by decide⟩
 ·exact ⟨186,1,by decide⟩
 ·exact ⟨187,1,by decide⟩
 ·exact ⟨188,1,by decide⟩
 ·exact ⟨189,2,by decide⟩
theorem vp {c:Int} {F:Nat} {po:Int} (h:(c,F,po)∈codeF):(∃i,inf c=some i∧i.po=po)∧Bk c F∧Nat.blt F 5000000=true∧c≠17:=by
 simp only [codeF,ae,ck,cT,or_false] at h;rcases h with ⟨rfl,rfl,rfl⟩ | ⟨rfl,rfl,rfl⟩ | ⟨rfl,rfl,rfl⟩ | ⟨rfl,rfl,rfl⟩ | ⟨rfl,rfl,rfl⟩ | ⟨rfl,rfl,rfl⟩ | ⟨rfl,rfl,rfl⟩ | ⟨rfl,rfl,rfl⟩ | ⟨rfl,rfl,rfl⟩ | ⟨rfl,rfl,rfl⟩ | ⟨rfl,rfl,rfl⟩ | ⟨rfl,rfl,rfl⟩ | ⟨rfl,rfl,rfl⟩ | ⟨rfl,rfl,rfl⟩ | ⟨rfl,rfl,rfl⟩ | ⟨rfl,rfl,rfl⟩ | ⟨rfl,rfl,rfl⟩ | ⟨rfl,rfl,rfl⟩ | ⟨rfl,rfl,rfl⟩ | ⟨rfl,rfl,rfl⟩ <;>
  exact ⟨⟨_,rfl,rfl⟩,⟨_,rfl⟩,rfl,by decide⟩
def N5 (c:Ca) (s:bq) (o:Op) (b:Option Nat):Rs:=
 match c.t.c.fr.getLast?,inf o.c with
 |some f,some i=>(j2 (iU c o f i.po) s).fin c.t.c b
 |_,_=>⟨c.t,.no,false,s⟩
def D6 (im:Im) (t:Th) (s:bq) (now:Int) (b:Option Nat):Rs:=
 bif t.st != 0 then ⟨t,.no,false,s⟩ else
 bif (dw im t.c (bP t).fr (bP t).tr).2.k==1 then Gu (nN (pv (kr im t now) (dw im t.c (bP t).fr (bP t).tr).1) s (dw im t.c (bP t).fr (bP t).tr).2.v false) else
 bif (dw im t.c (bP t).fr (bP t).tr).2.k==2 then Gu (nN (pv (kr im t now) (dw im t.c (bP t).fr (bP t).tr).1) s (dw im t.c (bP t).fr (bP t).tr).2.v true) else
 bif (dw im t.c (bP t).fr (bP t).tr).2.k==3 then N5 (kr im t now) s (dw im t.c (bP t).fr (bP t).tr).2.o b else
 ⟨{ t with c:=(dw im t.c (bP t).fr (bP t).tr).1 },.no,false,s⟩
structure Ny (im:Im) (t:Th) (s:bq) (now:Int):Prop where
  x:Nx im t.c
  n:Kw t
  g:iv t.g
  gs:lW s
  sc:t.sc.length<900000000
  w:0≤now∧now<1000000000
  q:∀p∈s.th,p.2.va.q.length<90000000
theorem Ny.UP {im:Im} {t:Th} {s:bq} {now:Int} (h:Ny im t s now) (nm:List UInt8):uv s nm:=λi o ho=>by
 obtain ⟨p,hp,he⟩:=j7 ho;rw [←he];have:=h.q p hp;omega
theorem tt {im:Im} {c:Co} {fr tr:Int} (h:Nx im c) (hk:(dw im c fr tr).2.k=3):∃o f F po,dw im c fr tr=(c,⟨3,zeroV,o⟩)∧c.fr.getLast? = some f∧(o.c,F,po)∈codeF∧et c po=true∧(0≤f.pc∧f.pc<1000000000):=by
 unfold dw at hk ⊢;cases hf:fit im c with
 |none=>rw [hf] at hk;exact absurd hk (show ¬(2:Int)=3 by decide)
 |some o=>
  rw [hf] at hk;obtain ⟨f,fn,hl,w1,hfn,w2,ho,hr,hop,hpo⟩:=mO hf;simp only [hl] at hk ⊢;obtain ⟨e,ha⟩:=JE hk;obtain ⟨i,hi⟩:∃i,inf o.c=some i:=by
   unfold iy at hr;cases hi:inf o.c with
   |none=>rw [hi] at hr;cases hr
   |some i=>exact ⟨i,rfl⟩
  obtain ⟨b1,b2,_⟩:=sA hi;obtain ⟨d1,d2⟩:=h.dm o hf;obtain ⟨F,po,hF⟩:=GZ b1 b2 ha d1 d2;obtain ⟨⟨i',hi',hpi⟩,_,_,h17⟩:=vp hF;have ht:fH im o=po:=by
   unfold fH;rw [hi'];rw [show (o.c==17)=false by simp [h17]];exact hpi
  rw [ht] at hpo;obtain ⟨p1,p2⟩:=within_iff.1 w2;have hcd:=h.cd _ _ hfn;exact ⟨o,f,F,po,e,rfl,hF,hpo,p1,by omega⟩
theorem Bj {im:Im} {t:Th} {now:Int} {o:Op} {f:Fr} {po:Int} (hp:et t.c po=true):((iU (kr im t now) o f po).ar.length:Int)=po:=by
 have h:=(mC hp).1;have h0:0≤po:=by simp [et] at hp;omega
 show ((kK t.c po).length:Int)=po;rw [h];omega
theorem N4 {im:Im} {t:Th} {s:bq} {now:Int} {o:Op} {f:Fr} {po:Int} (h:Ny im t s now) (hp:et t.c po=true):C1 (iU (kr im t now) o f po) s where
 n:=⟨h.n.pa,h.n.ne,h.n.le,h.n.sm,h.n.m0,h.n.m1,h.n.r2⟩
 g:=h.g
 ar:=λv hv=>h.x.sm v (dr hv)
 gs:=h.gs
 st:=by
  have h1:=(mC hp).2;have h2:=h.x.ls;show (qP t.c po).st.length<800000000;omega
 fr:=by
  show (bU t.c.fr f).length<900000000;unfold bU;rw [gQ];exact h.x.lf
 sc:=h.sc
 w:=h.w
 q:=h.q
def OR.keeps (r:OR) (s:bq):Prop:=match r with
 |.ok _ _=>True
 |.ex _ _ s'=>s'=s
theorem bI {b:Bool} {x y:OR} {s:bq} (hx:x.keeps s) (hy:y.keeps s):(bif b then x else y).keeps s:=by cases b<;>assumption
theorem dJ {e:Fx} {f:Option Nat→Ca×bq} {s:bq}:(OR.ok e f).keeps s:=trivial
theorem cN {n:Int} {c:Ca} {s:bq}:(OR.ex n c s).keeps s:=rfl
theorem my {c:Ca} {s:bq} {o:Ob}:(jI c s o).keeps s:=bI (bI cN dJ) cN
theorem zZ {c:Ca} {s:bq} {l:Lb}:(lv c s l).keeps s:=bI dJ cN
theorem Cm {c:Ca} {s:bq} {o:Ob}:(lV c s o).keeps s:=bI cN dJ
theorem Cn {c:Ca} {s:bq} {h:Va}:(oQ c s h lV).keeps s:=by
 unfold oQ;refine bI ?_ cN;cases dE s h with
 |none=>exact dJ
 |some p=>exact Cm
theorem nk {c:Ca} {s:bq} {h:Va} {go:Ca→bq→Ob→RQ} (hg:∀c o,(go c s o).or.keeps s):(gn c s h go).or.keeps s:=by
 unfold gn;cases dM c.t.g (bB h)==0 with
 |false=>exact cN
 |true=>
  cases dE s h with
  |none=>exact dJ
  |some p=>exact hg _ _
theorem Cl {c:Ca} {s:bq} {o:Ob}:(lj c s o).or.keeps s:=by
 unfold lj;cases o.dn
 ·exact dJ
 ·cases o.ex
  ·exact dJ
  ·exact cN
theorem z6 {c:Ca} {s:bq} {o:Ob}:(jd c s o).or.keeps s:=by
 unfold jd;cases dZ c.t.c
 ·exact cN
 ·exact dJ
theorem F0 {c:Ca} {s:bq}:(pM c s).keeps s:=by
 unfold pM;refine bI (bI ?_ cN) cN;cases dE s (c.ar[0]?.getD dR) with
 |none=>exact dJ
 |some p=>exact bI dJ dJ
theorem F1 {c:Ca} {s:bq}:(uD c s).keeps s:=by
 unfold uD;refine bI (bI ?_ cN) cN;cases dE s (c.ar[0]?.getD dR) with
 |none=>exact dJ
 |some p=>exact bI dJ dJ
theorem zY {c:Ca} {s:bq}:(pJ c s).keeps s:=by
 unfold pJ;refine bI (bI ?_ cN) cN;cases dE s (c.ar[0]?.getD dR) with
 |none=>exact dJ
 |some p=>exact dJ
theorem xG (c:Ca) (s:bq):(j2 c s).keeps s:=by
 unfold j2;refine bI dJ (bI dJ (bI (bI zZ cN) (bI (bI (bI dJ cN) cN) (bI (bI my cN) (bI (bI Cn cN) (bI (bI my cN) (bI (bI (nk λ_ _=>dJ) cN)
  (bI zY (bI (bI my cN) (bI F0 (bI F1 (bI (bI (bI dJ cN) cN) (bI (bI (nk λ_ _=>Cl) cN) (bI (bI (bI dJ cN) cN) (bI (bI (bI dJ cN) cN)
  (bI (bI (bI dJ cN) cN) (bI (bI (bI dJ cN) cN) (bI (bI my cN) (bI (bI (nk λ_ _=>z6) cN) cN)))))))))))))))))))
theorem Es {c c':Ca} {s s':bq} {n:Int} (h:j2 c s = .ex n c' s') (hq:∀p∈s.th,p.2.va.q.length<90000000):uv s' c'.t.id:=by
 have:=xG c s;rw [h] at this;have e:s'=s:=this;intro i o ho;obtain ⟨p,hp,he⟩:=j7 ho;rw [←he];rw [e] at hp;have:=hq p hp;omega
set_option maxHeartbeats 4000000 in
theorem LQ {K:Out→H→Prop} (im:Im) (t:Th) (s:bq) (now:Int) (h:t.st=0→Ny im t s now) (hk:∀b,K (.ret (.tu [eX (D6 im t s now b).t,qY ((D6 im t s now b).e.ef (D6 im t s now b).d)])) (jn (D6 im t s now b).s)) :
    Sat Tryz.prog 34 [wF im,eX t,.p 0 0,.d (.int .i64 now)] (jn s) K:=by
  unfold D6 at hk
  by_cases h0:t.st=0
  · have hz:(t.st != 0)=false:=by simp [h0]
    rw [hz] at hk
    have hd:=h h0
    have h1:=vh t
    have h2:=H9 (fr:=(bP t).fr) (tr:=(bP t).tr) hd.x
    have hq:=hd.UP t.id
    have hask:=tt (fr:=(bP t).fr) (tr:=(bP t).tr) hd.x
    unfold St at h2
    generalize hr:dw im t.c (bP t).fr (bP t).tr=r at h2 hk hask
    obtain ⟨k,u⟩:=r
    by_cases k1:u.k=1
    · rw [show (u.k==1)=true by simp [k1]] at hk
      have h3:=λ{K:Out→H→Prop}=>nC (K:=K) (pv (kr im t now) k) s u.v false hq
      refine s34.go (keep:=false) rfl ?_
      repeat' ((conv=>whnf);first | exact zf | refine zm ?_ | refine zc h1 ?_ | refine zc h2 ?_ | refine (.inr ?_:(∃_,_)∨_) | refine (h3 ?_) | refine zt ?_ | refine zu ?_ | intro _)
      exact hk none
    · by_cases k2:u.k=2
      · rw [show (u.k==1)=false by simp [k1],show (u.k==2)=true by simp [k2]] at hk
        have h3:=λ{K:Out→H→Prop}=>nC (K:=K) (pv (kr im t now) k) s u.v true hq
        refine s34.go (keep:=false) rfl ?_
        repeat' ((conv=>whnf);first | exact zf | refine zm ?_ | refine zc h1 ?_ | refine zc h2 ?_ | refine (.inr ?_:(∃_,_)∨_) | refine (h3 ?_) | refine zt ?_ | refine zu ?_ | intro _)
        exact hk none
      · by_cases k3:u.k=3
        · rw [show (u.k == 1) = false by simp [k1], show (u.k == 2) = false by simp [k2], show (u.k == 3) = true by simp [k3]] at hk
          obtain ⟨o,f,F,po,e,hf,hcf,hp,hpc⟩:=hask k3
          cases e
          obtain ⟨⟨i,hi,hpi⟩,hF,hlt,_⟩:=vp hcf
          subst hpi
          have hR:=λ{K:Out→H→Prop}=>JG (K:=K) (iU (kr im t now) o f i.po) s F i.po hcf (Bj hp) (N4 hd hp)
          have hx:=λn c' s' (h:j2 (iU (kr im t now) o f i.po) s = .ex n c' s')=>Es h hd.q
          have h3:=λ{K:Out→H→Prop}=>LV (K:=K) (kr im t now) s o f i F _ hi hf hd.x.lf hd.x.ls hp hpc hF hlt hR hx
          replace hk:∀b,K (.ret (.tu [eX ((j2 (iU (kr im t now) o f i.po) s).fin t.c b).t,qY (((j2 (iU (kr im t now) o f i.po) s).fin t.c b).e.ef ((j2 (iU (kr im t now) o f i.po) s).fin t.c b).d)])) (jn ((j2 (iU (kr im t now) o f i.po) s).fin t.c b).s):=λb=>by
            have:=hk b
            unfold N5 at this
            rw [show (kr im t now).t.c.fr.getLast? = some f from hf,hi] at this
            exact this
          generalize j2 (iU (kr im t now) o f i.po) s=R at h3 hk
          cases R with
          |ok e g=>
            cases e
            all_goals
              refine s34.go (keep:=false) rfl ?_
              repeat' ((conv=>whnf);first | exact zf | refine zm ?_ | refine zc h1 ?_ | refine zc h2 ?_ | refine (.inr ?_:(∃_,_)∨_) | refine (h3 (λb=>?_)) | refine zt ?_ | refine zu ?_ | intro _)
              exact hk _
          |ex n c' s'=>
            have h4:=λ{K:Out→H→Prop} (g:K (.ret (.tu [])) (RU (kJ c' s' t.c n)))=>h3 (K:=K) g
            refine s34.go (keep:=false) rfl ?_
            repeat' ((conv=>whnf);first | exact zf | refine zm ?_ | refine zc h1 ?_ | refine zc h2 ?_ | refine (.inr ?_:(∃_,_)∨_) | refine (h4 ?_) | refine zt ?_ | refine zu ?_ | intro _)
            exact hk none
        · rw [show (u.k==1)=false by simp [k1],show (u.k==2)=false by simp [k2],show (u.k==3)=false by simp [k3]] at hk
          refine s34.go (keep:=false) rfl ?_
          repeat' ((conv=>whnf);first | exact zf | refine zm ?_ | refine zc h1 ?_ | refine zc h2 ?_ | refine zt ?_ | refine zu ?_ | intro _)
          exact hk none
  · have hz:(t.st != 0)=true:=by simp [h0]
    rw [hz] at hk
    refine s34.go (keep:=false) rfl ?_
    repeat' ((conv=>whnf);first | exact zf | refine zm ?_ | refine zt ?_ | refine zu ?_ | intro _)
    exact hk none
end Go.Proofs.YtjpgfgajkjhonaaGreatDoor
namespace Go.Proofs.YtjpgfgajkjhonaaGreatDoor
open Go.Vx
set_option maxRecDepth 100000
def yQ (im:Im) (t:Th) (s:bq):H:=[.cells ([.d (.sl 5 (im.cs.map cE)),.d (.sl 3 (im.fs.map da)),.p 1 0]++(gR t).map .d),.cells [.mp 2,.mp 3],.dm (q8 s.th),.ms 1 (qA s.nm) none none]
def Lv (s:Sc):List Nat:=jt s.nm 0
structure Kv (s:Sc):Prop where
  nm:s.nm=cr (Lv s)
  g:gK (Lv s)
  l:cL s.l
def dk (t:Th) (s:bq) (now:Int) (b:Option Nat):Th×bq:=match t.sc[jE now t.sc]? with
 |some sc=>(pU t (jE now t.sc) sc,ij s (Lv sc) (ri t (jE now t.sc) sc) b)
 |none=>(t,s)
set_option maxHeartbeats 4000000 in
theorem Hc {K:Out→H→Prop} (im:Im) (t:Th) (s:bq) (now:Int) (hc:cL t.g.cur) (hn:t.sc.length<1000000000) (hst:t.c.st.length<1000000000) (hsc:∀sc∈t.sc,Kv sc) (hgs:lW s)
  (h:∀b,(dk t s now b).1.st=0→Ny im (dk t s now b).1 (dk t s now b).2 now)
  (hk:∀b b',K (.ret (qY ((D6 im (dk t s now b).1 (dk t s now b).2 now b').e.ef (D6 im (dk t s now b).1 (dk t s now b).2 now b').d))) (yQ im (D6 im (dk t s now b).1 (dk t s now b).2 now b').t (D6 im (dk t s now b).1 (dk t s now b).2 now b').s)) :
  Sat Tryz.prog 12 [.p 0 0,.d (.int .i64 now)] (yQ im t s) K:=by
 have h1:=RM t now;have hle:=BZ now t.sc;unfold DG at h1;unfold dk at h hk;cases hs:t.sc[jE now t.sc]? with
 |none=>
  have hlt:¬jE now t.sc<t.sc.length:=λhlt=>by rw [aB hlt] at hs;cases hs
  rw [if_neg hlt] at h1;rw [hs] at h hk;have h2:=λ{K:Out→H→Prop}=>LQ (K:=K) im t s now (h none);refine s12.go (keep:=false) rfl ?_
  repeat' ((conv=>whnf);first | exact zf | refine (dp (dp ?_)) | refine zm ?_ | refine zc h1 ?_ | refine (gY (by decide) ?_) | refine (.inr ?_:(∃_,_)∨_) | refine (h2 (λb=>?_)) | refine And.intro ?_ ?_ | intro _)
  all_goals exact hk none _
 |some sc=>
  have hlt:=(aA.1 hs).1;rw [if_pos hlt] at h1;rw [hs] at h hk;have hm:=hsc sc (aH hs);have h3:=J0 t (jE now t.sc) sc hs hc hm.l hn hst;rw [hm.nm] at h3;have h4:=λ{K:Out→H→Prop}=>wG (K:=K) s (Lv sc) (ri t (jE now t.sc) sc) ⟨hm.g,hgs,hm.l,(show (3:Int)≤3 by decide),(show (3:Int)≤7 by decide),(show (0:Nat)<_ by decide)⟩;have h2:=λ{K:Out→H→Prop} (b:Option Nat)=>LQ (K:=K) im (pU t (jE now t.sc) sc) (ij s (Lv sc) (ri t (jE now t.sc) sc) b) now (h b);have hge:decide ((0:Int)≤(jE now t.sc:Int))=true:=by simp
  generalize jE now t.sc=d at h1 h3 h4 h2 hge hk ⊢;refine s12.go (keep:=false) rfl ?_
  repeat' ((conv=>whnf);first | exact zf | refine (dp (dp ?_)) | refine zm ?_ | refine zc h1 ?_ | refine (gG hge ?_) | refine zc h3 ?_ | refine (.inr ?_:(∃_,_)∨_) | refine (h4 (λb n=>?_)) | refine (h2 _ (λb'=>?_)) | refine And.intro ?_ ?_ | intro _)
  all_goals exact hk _ _
end Go.Proofs.YtjpgfgajkjhonaaGreatDoor
namespace Go.Proofs.YtjpgfgajkjhonaaGreatDoor
open Go.Vx
set_option maxRecDepth 100000
theorem oI (l m:Lb):cL (dU l m):=by
 simp only [cL,dU,pb,Kn];exact And.intro (fk _) (fk _)
theorem Hg (l m:Lb):cL (mH l m):=by
 simp only [cL,mH,pb,Kn];exact And.intro (fk _) (fk _)
theorem k_ (l:Lb):cL (gI l):=by
 unfold cL gI;exact And.intro (fk _) (fk _)
end Go.Proofs.YtjpgfgajkjhonaaGreatDoor
