/- What a call of the kernel is, and its small functions. Conditions: as told. -/
import Derived.Test.YtjpgfgajkjhonaaGreatDoorQFAT
import Derived.Test.YtjpgfgajkjhonaaGreatDoorQFBA
import Derived.Test.YtjpgfgajkjhonaaGreatDoorQFAY
namespace Go.Proofs.YtjpgfgajkjhonaaGreatDoor
open Go.Vx
set_option maxRecDepth 100000
structure Ev where
  l:Lb
  v:Va
def Lw (e:Ev):List D:=[.str e.l.s,.str e.l.i,.int .i64 e.v.k,.int .i64 e.v.n,.str e.v.nm,.str e.v.ls,.str e.v.li]
structure En where
  o:Int
  fr:Lb
  to:Lb
  ma:Int
def By (e:En):List D:=[.int .i64 e.o,.str e.fr.s,.str e.fr.i,.str e.to.s,.str e.to.i,.int .u8 e.ma]
structure Wo where
  id:List UInt8
  l:List Va
def Lv (w:Wo):List D:=[.str w.id,.sl 5 (w.l.map cE)]
structure Ef where
  fork:List Th
  out:List Ev
  log:List En
  MQ:List Wo
  dn:Bool
def Kp (e:Ef):List D:=[.sl 20 (e.fork.map gX),.sl 7 (e.out.map Lw),.sl 6 (e.log.map By),.sl 2 (e.MQ.map Lv),.bool e.dn]
def qp (e:Ef):V:=.ag ((Kp e).map .d)
inductive Fx where
  |no
  |out (x:Ev)
  |log (x:En)
  |MQ (x:Wo)
  |fork (x:Th)
def Fx.ef:Fx→Bool→Ef
 |.no,d=>⟨[],[],[],[],d⟩
 |.out x,d=>⟨[],[x],[],[],d⟩
 |.log x,d=>⟨[],[],[x],[],d⟩
 |.MQ x,d=>⟨[],[],[],[x],d⟩
 |.fork x,d=>⟨[x],[],[],[],d⟩
def Fx.vs:Fx→Bool→List V
 |.no,d=>[.nl 20,.nl 7,.nl 6,.nl 2,.d (.bool d)]
 |.out x,d=>[.nl 20,.d (.sl 7 [Lw x]),.nl 6,.nl 2,.d (.bool d)]
 |.log x,d=>[.nl 20,.nl 7,.d (.sl 6 [By x]),.nl 2,.d (.bool d)]
 |.MQ x,d=>[.nl 20,.nl 7,.nl 6,.d (.sl 2 [Lv x]),.d (.bool d)]
 |.fork x,d=>[.d (.sl 20 [gX x]),.nl 7,.nl 6,.nl 2,.d (.bool d)]
structure Ca where
  im:Im
  now:Int
  t:Th
  tr:Int
  o:Op
  ar:List Va
  ma:Int
def kO (c:Ca) (e:List V) (a:V) (s:Nat):List V:=
 [.d (.sl 5 (c.im.cs.map cE)),.d (.sl 3 (c.im.fs.map db)),.p s 0,.d (.int .i64 c.now)]++(gX c.t).map .d ++ [.d (.int .i64 c.tr)]++e ++ [.d (.int .i64 c.o.c),.d (.int .i64 c.o.a),a,.d (.int .u8 c.ma)]
def eN (c:Ca) (s:bq):H:=.cells (kO c [.nl 20,.nl 7,.nl 6,.nl 2,.d (.bool false)] (.d (.sl 5 (c.ar.map cE))) 1) :: [.cells [.mp 2,.mp 3],.dm (qw s.th),.ms 1 (qT s.nm) none none]
def VW (c:Ca) (d:Bool) (s:bq):H:=.cells (kO c [.nl 20,.nl 7,.nl 6,.nl 2,.d (.bool d)] (.d (.sl 5 (c.ar.map cE))) 1) :: [.cells [.mp 2,.mp 3],.dm (qw s.th),.ms 1 (qT s.nm) none none]
def Ks (c:Ca) (e:Fx) (d:Bool) (s:bq):H:=.cells (kO c (e.vs d) (.d (.sl 5 (c.ar.map cE))) 1) :: [.cells [.mp 2,.mp 3],.dm (qw s.th),.ms 1 (qT s.nm) none none]
def SA (p:Ca×Bool×bq):H:=VW p.1 p.2.1 p.2.2
def Uj (c:Ca) (s:bq):H:=.cells (kO c [.nl 20,.nl 7,.nl 6,.nl 2,.d (.bool false)] (.nl 5) 1) :: [.cells [.mp 2,.mp 3],.dm (qw s.th),.ms 1 (qT s.nm) none none]
def VV (p:Ca×Bool×bq):H:=.cells (kO p.1 [.nl 20,.nl 7,.nl 6,.nl 2,.d (.bool p.2.1)] (.nl 5) 1) :: [.cells [.mp 2,.mp 3],.dm (qw p.2.2.th),.ms 1 (qT p.2.2.nm) none none]
theorem j1 {K:Out→H→Prop} (c:Ca) (s:bq) (v:Va) (hl:c.t.c.st.length<1000000000) (hk:K (.ret (.tu [])) (eN { c with t:={ c.t with c:=jS c.t.c v } } s)):Sat Tryz.prog 241 [.p 0 0,j5 v] (eN c s) K:=by
 have h1:=rz c.t.c v hl;refine s241.go (keep:=false) rfl ?_
 repeat' ((conv=>whnf);first | exact zf | refine zm ?_ | refine zc h1 ?_ | intro _)
 exact hk
theorem Bi {K:Out→H→Prop} (c:Ca) (s:bq) (l:Lb) (hl:c.t.c.st.length<1000000000) (hk:K (.ret (.tu [])) (eN { c with t:={ c.t with c:=jS c.t.c ⟨2,0,[],l.s,l.i⟩ } } s)):Sat Tryz.prog 232 [.p 0 0,jU l] (eN c s) K:=by
 have h1:=λ{K:Out→H→Prop}=>j1 (K:=K) c s ⟨2,0,[],l.s,l.i⟩ hl;refine s232.go (keep:=false) rfl ?_
 repeat' ((conv=>whnf);first | exact zf | refine zm ?_ | refine (.inr ?_:(∃_,_)∨_) | refine (h1 ?_) | intro _)
 exact hk
def nZ (c:Ca) (s:bq) (v:Va) (ex:Bool):Ca×Bool×bq:=
 let t:=eX c.t v ex
 if t.st≠3∧t.st≠4 then ({ c with t:=t },false,s) else
 match cD t.id s.th with
 |some (i,o)=>if o.k=6 then ({ c with t:=t },true,kS s i t.id { o with v:=v,ex:=ex,dn:=true }) else ({ c with t:=t },true,s)
 |none=>({ c with t:=t },true,s)
theorem Gb {K:Out→H→Prop} (c:Ca) (s:bq) (v:Va) (ex:Bool) (hqa:∀i o,cD c.t.id s.th=some (i,o)→o.va.q.length<100000000) (hk:K (.ret (.tu [])) (SA (nZ c s v ex))):Sat Tryz.prog 72 [.p 0 0,j5 v,.d (.bool ex)] (eN c s) K:=by
 have h1:=qA c.t v ex;have hid:(eX c.t v ex).id=c.t.id:=rfl;unfold nZ at hk;generalize eX c.t v ex=t at h1 hid hk;rw [←hid] at hqa;have hq:(iR s t.id).va.q.length<100000000:=by
  unfold iR;cases hlk:cD t.id s.th with
  |none=>simp [fO,zw]
  |some p=>exact hqa p.1 p.2 hlk
 by_cases h30:t.st=3
 ·have hnot:¬(t.st≠3∧t.st≠4):=λh=>h.1 h30;simp only [hnot,if_false] at hk;have hg:=qZ (K:=λout h=>out = .ret (.tu [gH (iR s t.id),.d (.bool (mA s t.id))])∧h=kH s) s t.id hq ⟨rfl,rfl⟩;unfold iR mA at hg;cases hlk:cD t.id s.th with
  |none=>
   rw [hlk] at hg hk;refine s72.go (keep:=false) rfl ?_
   repeat' ((conv=>whnf);first | exact zf | refine (bo (bu ?_):eQ _ (eQ (kT _ _ _ _ 16 _ _ _ _ _ _ _) _)) | refine zm ?_ | refine zc h1 ?_ | refine ⟨_,_,hg,?_⟩ | refine zt ?_ | refine zu ?_ | intro _)
   exact hk
  |some p=>
   obtain ⟨i,o⟩:=p;rw [hlk] at hg hk
   by_cases h6:o.k=6
   ·have hset:=λ{K:Out→H→Prop}=>lN (K:=K) s t.id i { o with v:=v,ex:=ex,dn:=true } o hlk rfl rfl (hqa i o hlk);dsimp only at hk;rw [if_pos h6] at hk;refine s72.go (keep:=false) rfl ?_
    repeat' ((conv=>whnf);first | exact zf | refine (bo (bu ?_):eQ _ (eQ (kT _ _ _ _ 16 _ _ _ _ _ _ _) _)) | refine zm ?_ | refine zc h1 ?_ | refine ⟨_,_,hg,?_⟩ | refine (.inr ?_:(∃_,_)∨_) | refine (hset ?_) | refine zt ?_ | refine zu ?_ | intro _)
    exact hk
   ·simp only [h6,if_false] at hk;refine s72.go (keep:=false) rfl ?_
    repeat' ((conv=>whnf);first | exact zf | refine (bo (bu ?_):eQ _ (eQ (kT _ _ _ _ 16 _ _ _ _ _ _ _) _)) | refine zm ?_ | refine zc h1 ?_ | refine ⟨_,_,hg,?_⟩ | refine zt ?_ | refine zu ?_ | intro _)
    exact hk
 ·by_cases h3:t.st=4
  ·have hnot:¬(t.st≠3∧t.st≠4):=λh=>h.2 h3;simp only [hnot,if_false] at hk;have hg:=qZ (K:=λout h=>out = .ret (.tu [gH (iR s t.id),.d (.bool (mA s t.id))])∧h=kH s) s t.id hq ⟨rfl,rfl⟩;unfold iR mA at hg;cases hlk:cD t.id s.th with
   |none=>
    rw [hlk] at hg hk;refine s72.go (keep:=false) rfl ?_
    repeat' ((conv=>whnf);first | exact zf | refine (bo (bu ?_):eQ _ (eQ (kT _ _ _ _ 16 _ _ _ _ _ _ _) _)) | refine zm ?_ | refine zc h1 ?_ | refine ⟨_,_,hg,?_⟩ | refine zt ?_ | refine zu ?_ | intro _)
    exact hk
   |some p=>
    obtain ⟨i,o⟩:=p;rw [hlk] at hg hk
    by_cases h6:o.k=6
    ·have hset:=λ{K:Out→H→Prop}=>lN (K:=K) s t.id i { o with v:=v,ex:=ex,dn:=true } o hlk rfl rfl (hqa i o hlk);dsimp only at hk;rw [if_pos h6] at hk;refine s72.go (keep:=false) rfl ?_
     repeat' ((conv=>whnf);first | exact zf | refine (bo (bu ?_):eQ _ (eQ (kT _ _ _ _ 16 _ _ _ _ _ _ _) _)) | refine zm ?_ | refine zc h1 ?_ | refine ⟨_,_,hg,?_⟩ | refine (.inr ?_:(∃_,_)∨_) | refine (hset ?_) | refine zt ?_ | refine zu ?_ | intro _)
     exact hk
    ·simp only [h6,if_false] at hk;refine s72.go (keep:=false) rfl ?_
     repeat' ((conv=>whnf);first | exact zf | refine (bo (bu ?_):eQ _ (eQ (kT _ _ _ _ 16 _ _ _ _ _ _ _) _)) | refine zm ?_ | refine zc h1 ?_ | refine ⟨_,_,hg,?_⟩ | refine zt ?_ | refine zu ?_ | intro _)
     exact hk
  ·have hyes:t.st≠3∧t.st≠4:=⟨h30,h3⟩
   rw [if_pos hyes] at hk;refine s72.go (keep:=false) rfl ?_
   repeat' ((conv=>whnf);first | exact zf | refine zm ?_ | refine zc h1 ?_ | refine zt ?_ | refine zu ?_ | intro _)
   exact hk
theorem nP {K:Out→H→Prop} (c:Ca) (s:bq) (v:Va) (ex:Bool) (hqa:∀i o,cD c.t.id s.th=some (i,o)→o.va.q.length<100000000) (hk:K (.ret (.tu [])) (VV (nZ c s v ex))):Sat Tryz.prog 72 [.p 0 0,j5 v,.d (.bool ex)] (Uj c s) K:=by
 have h1:=qA c.t v ex;have hid:(eX c.t v ex).id=c.t.id:=rfl;unfold nZ at hk;generalize eX c.t v ex=t at h1 hid hk;rw [←hid] at hqa;have hq:(iR s t.id).va.q.length<100000000:=by
  unfold iR;cases hlk:cD t.id s.th with
  |none=>simp [fO,zw]
  |some p=>exact hqa p.1 p.2 hlk
 by_cases h30:t.st=3
 ·have hnot:¬(t.st≠3∧t.st≠4):=λh=>h.1 h30;simp only [hnot,if_false] at hk;have hg:=qZ (K:=λout h=>out = .ret (.tu [gH (iR s t.id),.d (.bool (mA s t.id))])∧h=kH s) s t.id hq ⟨rfl,rfl⟩;unfold iR mA at hg;cases hlk:cD t.id s.th with
  |none=>
   rw [hlk] at hg hk;refine s72.go (keep:=false) rfl ?_
   repeat' ((conv=>whnf);first | exact zf | refine (bo (bu ?_):eQ _ (eQ (kT _ _ _ _ 16 _ _ _ _ _ _ _) _)) | refine zm ?_ | refine zc h1 ?_ | refine ⟨_,_,hg,?_⟩ | refine zt ?_ | refine zu ?_ | intro _)
   exact hk
  |some p=>
   obtain ⟨i,o⟩:=p;rw [hlk] at hg hk
   by_cases h6:o.k=6
   ·have hset:=λ{K:Out→H→Prop}=>lN (K:=K) s t.id i { o with v:=v,ex:=ex,dn:=true } o hlk rfl rfl (hqa i o hlk);dsimp only at hk;rw [if_pos h6] at hk;refine s72.go (keep:=false) rfl ?_
    repeat' ((conv=>whnf);first | exact zf | refine (bo (bu ?_):eQ _ (eQ (kT _ _ _ _ 16 _ _ _ _ _ _ _) _)) | refine zm ?_ | refine zc h1 ?_ | refine ⟨_,_,hg,?_⟩ | refine (.inr ?_:(∃_,_)∨_) | refine (hset ?_) | refine zt ?_ | refine zu ?_ | intro _)
    exact hk
   ·simp only [h6,if_false] at hk;refine s72.go (keep:=false) rfl ?_
    repeat' ((conv=>whnf);first | exact zf | refine (bo (bu ?_):eQ _ (eQ (kT _ _ _ _ 16 _ _ _ _ _ _ _) _)) | refine zm ?_ | refine zc h1 ?_ | refine ⟨_,_,hg,?_⟩ | refine zt ?_ | refine zu ?_ | intro _)
    exact hk
 ·by_cases h3:t.st=4
  ·have hnot:¬(t.st≠3∧t.st≠4):=λh=>h.2 h3;simp only [hnot,if_false] at hk;have hg:=qZ (K:=λout h=>out = .ret (.tu [gH (iR s t.id),.d (.bool (mA s t.id))])∧h=kH s) s t.id hq ⟨rfl,rfl⟩;unfold iR mA at hg;cases hlk:cD t.id s.th with
   |none=>
    rw [hlk] at hg hk;refine s72.go (keep:=false) rfl ?_
    repeat' ((conv=>whnf);first | exact zf | refine (bo (bu ?_):eQ _ (eQ (kT _ _ _ _ 16 _ _ _ _ _ _ _) _)) | refine zm ?_ | refine zc h1 ?_ | refine ⟨_,_,hg,?_⟩ | refine zt ?_ | refine zu ?_ | intro _)
    exact hk
   |some p=>
    obtain ⟨i,o⟩:=p;rw [hlk] at hg hk
    by_cases h6:o.k=6
    ·have hset:=λ{K:Out→H→Prop}=>lN (K:=K) s t.id i { o with v:=v,ex:=ex,dn:=true } o hlk rfl rfl (hqa i o hlk);dsimp only at hk;rw [if_pos h6] at hk;refine s72.go (keep:=false) rfl ?_
     repeat' ((conv=>whnf);first | exact zf | refine (bo (bu ?_):eQ _ (eQ (kT _ _ _ _ 16 _ _ _ _ _ _ _) _)) | refine zm ?_ | refine zc h1 ?_ | refine ⟨_,_,hg,?_⟩ | refine (.inr ?_:(∃_,_)∨_) | refine (hset ?_) | refine zt ?_ | refine zu ?_ | intro _)
     exact hk
    ·simp only [h6,if_false] at hk;refine s72.go (keep:=false) rfl ?_
     repeat' ((conv=>whnf);first | exact zf | refine (bo (bu ?_):eQ _ (eQ (kT _ _ _ _ 16 _ _ _ _ _ _ _) _)) | refine zm ?_ | refine zc h1 ?_ | refine ⟨_,_,hg,?_⟩ | refine zt ?_ | refine zu ?_ | intro _)
     exact hk
  ·have hyes:t.st≠3∧t.st≠4:=⟨h30,h3⟩
   rw [if_pos hyes] at hk;refine s72.go (keep:=false) rfl ?_
   repeat' ((conv=>whnf);first | exact zf | refine zm ?_ | refine zc h1 ?_ | refine zt ?_ | refine zu ?_ | intro _)
   exact hk
def kW (c:Ca) (s:bq) (k:Co) (code:Int):Ca×Bool×bq:=
 let r:=raise k code c.tr
 let c':Ca:={ c with t:={ c.t with c:=r.1 } }
 bif r.2.k==2 then nZ c' s r.2.v true else (c',false,s)
theorem J6 {K:Out→H→Prop} (c:Ca) (s:bq) (k:Co) (code:Int) (hf:k.fr.length<1000000000) (hst:k.st.length<1000000000) (hqa:∀i o,cD c.t.id s.th=some (i,o)→o.va.q.length<100000000) (hk:K (.ret (.tu [])) (SA (kW c s k code))) :
  Sat Tryz.prog 75 [.p 0 0,gT k,.d (.int .i64 code)] (eN c s) K:=by
 have h1:=rB k code c.tr hf hst;unfold kW at hk;generalize raise k code c.tr=r at h1 hk;have h2:=λ{K:Out→H→Prop}=>Gb (K:=K) { c with t:={ c.t with c:=r.1 } } s r.2.v true hqa;cases hb:r.2.k==2 with
 |true=>
  simp only [hb,cond_true] at hk;refine s75.go (keep:=false) rfl ?_
  repeat' ((conv=>whnf);first | exact zf | refine zm ?_ | refine zc h1 ?_ | refine (.inr ?_:(∃_,_)∨_) | refine (h2 ?_) | refine zt ?_ | refine zu ?_ | intro _)
  exact hk
 |false=>
  simp only [hb,cond_false] at hk;refine s75.go (keep:=false) rfl ?_
  repeat' ((conv=>whnf);first | exact zf | refine zm ?_ | refine zc h1 ?_ | refine zt ?_ | refine zu ?_ | intro _)
  exact hk
def nQ (n:Int):V:=.fc 2000239 [.d (.int .i64 n)]
theorem j8 {K:Out→H→Prop} (n:Int) (hk:K (.ff (nQ n)) []):Sat Tryz.prog 249 [.d (.int .i64 n)] [] K:=by
 refine s249.go (keep:=false) rfl ?_
 repeat' ((conv=>whnf);first | exact zf | refine zm ?_ | intro _)
 exact hk
theorem gf {K:Out→H→Prop} (hk:K (.ret (.tu [])) []):Sat Tryz.prog 236 [.d (.int .i64 0)] [] K:=by
 refine s236.go (keep:=false) rfl ?_
 repeat' ((conv=>whnf);first | exact zf | refine zm ?_ | refine zt ?_ | refine zu ?_ | intro _)
 exact hk
theorem ji {K:Out→H→Prop} (n:Int) (hn:n≠0) (hk:K (.ff (nQ n)) []):Sat Tryz.prog 236 [.d (.int .i64 n)] [] K:=by
 refine s236.go (keep:=false) rfl ?_
 repeat' ((conv=>whnf);first | exact zf | refine zm ?_ | refine (j8 n ?_) | refine zt ?_ | refine zu ?_ | intro _)
 exact hk
theorem mK {K:Out→H→Prop} (c:Ca) (s:bq) (l:Lb) (hs:jH c.t.g) (hl:cO l) (hj:cO (dR c.t.g.cur l)) (he:dN c.t.g l=0) (hk:K (.ret (.tu [])) (eN { c with t:={ c.t with g:=cu c.t.g l } } s)):Sat Tryz.prog 234 [.p 0 0,jU l] (eN c s) K:=by
 have h1:=xI c.t.g l hs hl hj;rw [he] at h1;refine s234.go (keep:=false) rfl ?_
 repeat' ((conv=>whnf);first | exact zf | refine zm ?_ | refine zc h1 ?_ | refine (gf ?_) | intro _)
 exact hk
theorem mL {K:Out→H→Prop} (c:Ca) (s:bq) (l:Lb) (hs:jH c.t.g) (hl:cO l) (hj:cO (dR c.t.g.cur l)) (he:dN c.t.g l≠0) (hk:K (.ff (nQ (dN c.t.g l))) (eN c s)):Sat Tryz.prog 234 [.p 0 0,jU l] (eN c s) K:=by
 have h1:=xI c.t.g l hs hl hj;refine s234.go (keep:=false) rfl ?_
 repeat' ((conv=>whnf);first | exact zf | refine zm ?_ | refine zc h1 ?_ | refine (ji _ he ?_) | intro _)
 exact hk
theorem CL {K:Out→H→Prop} (c:Ca) (s:bq) (l:Lb) (hs:jH c.t.g) (hl:cO l) (he:bS c.t.g l=0) (hk:K (.ret (.tu [])) (eN { c with t:={ c.t with g:=tE c.t.g l } } s)):Sat Tryz.prog 244 [.p 0 0,jU l] (eN c s) K:=by
 have h1:=CN c.t.g l hs hl;rw [he] at h1;refine s244.go (keep:=false) rfl ?_
 repeat' ((conv=>whnf);first | exact zf | refine zm ?_ | refine zc h1 ?_ | refine (gf ?_) | intro _)
 exact hk
theorem CM {K:Out→H→Prop} (c:Ca) (s:bq) (l:Lb) (hs:jH c.t.g) (hl:cO l) (he:bS c.t.g l≠0) (hk:K (.ff (nQ (bS c.t.g l))) (eN c s)):Sat Tryz.prog 244 [.p 0 0,jU l] (eN c s) K:=by
 have h1:=CN c.t.g l hs hl;refine s244.go (keep:=false) rfl ?_
 repeat' ((conv=>whnf);first | exact zf | refine zm ?_ | refine zc h1 ?_ | refine (ji _ he ?_) | intro _)
 exact hk
theorem vp {K:Out→H→Prop} (c:Ca) (s:bq) (p:List Nat) (n:Nat) (hp:c.t.pa=cr p) (hm:c.t.ma=n) (h0:p≠[]) (hl:p.length<24) (hs:∀n∈p,n<100) (hn:n<100) (hr:1≤c.t.ro) (hr2:c.t.ro<1000000000) (hk:K (.ret (.d (.str (cr (p ++ [n]))))) (eN { c with t:=jh c.t } s)) :
  Sat Tryz.prog 250 [.p 0 0] (eN c s) K:=by
 have h1:=rF c.t p n hp hm h0 hl hs hn hr hr2;refine s250.go (keep:=false) rfl ?_
 repeat' ((conv=>whnf);first | exact zf | refine zm ?_ | refine zc h1 ?_ | refine zt ?_ | refine zu ?_ | intro _)
 exact hk
theorem Bb {K:Out→H→Prop} (c:Ca) (s:bq) (hr:c.t.ro<1) (hk:K (.ff (nQ (-5))) (eN c s)):Sat Tryz.prog 250 [.p 0 0] (eN c s) K:=by
 have h1:=xh c.t hr;refine s250.go (keep:=false) rfl ?_
 repeat' ((conv=>whnf);first | exact zf | refine zm ?_ | refine zc h1 ?_ | refine (j8 _ ?_) | refine zt ?_ | refine zu ?_ | intro _)
 exact hk
def tO (c:Ca) (nm:List UInt8) (o:Ob):Ca:={ c with t:={ c.t with c:=jS c.t.c ⟨o.k,0,nm,o.l.s,o.l.i⟩ } }
theorem PW {K:Out→H→Prop} (c:Ca) (s:bq) (kp:List Nat) (o:Ob) (hkp:gP kp) (hs:lu s) (hl:cO o.l) (h3:3≤o.k) (h7:o.k≤7) (hr:kq o.l=true) (hq:o.va.q.length<100000000) (hf:cD (cr kp) s.th=none) (hst:c.t.c.st.length<1000000000)
  (hk:∀b,K (.ret (.tu [])) (eN (tO c (cr kp) o) (qq s kp o b))):Sat Tryz.prog 252 [.p 0 0,.d (.str (cr kp)),gH o] (eN c s) K:=by
 have h1:=λ{K:Out→H→Prop}=>H3 (K:=K) s kp o hkp hs hl h3 h7 hr hq hf;have h2:=λ{K:Out→H→Prop} (b:Option Nat)=>j1 (K:=K) c (qq s kp o b) ⟨o.k,0,cr kp,o.l.s,o.l.i⟩ hst;refine s252.go (keep:=false) rfl ?_
 repeat' ((conv=>whnf);first | exact zf | refine zm ?_ | refine (.inr ?_:(∃_,_)∨_) | refine (h1 (λb=>?_)) | refine (h2 _ ?_) | intro _)
 exact hk _
theorem Ju {K:Out→H→Prop} (c:Ca) (s:bq) (p:List Nat) (n:Nat) (o:Ob) (hg:jH c.t.g) (hw:bS c.t.g o.l=0) (hp:c.t.pa=cr p) (hm:c.t.ma=n) (h0:p≠[]) (hl:p.length<24) (hps:∀n∈p,n<100) (hn:n<100) (hr:1≤c.t.ro) (hr2:c.t.ro<1000000000)
  (hkp:gP (p ++ [n])) (hs:lu s) (hol:cO o.l) (h3:3≤o.k) (h7:o.k≤7) (hro:kq o.l=true) (hq:o.va.q.length<100000000) (hf:cD (cr (p ++ [n])) s.th=none) (hst:c.t.c.st.length<1000000000)
  (hk:∀b,K (.ret (.tu [])) (eN (tO { c with t:=jh c.t } (cr (p ++ [n])) o) (qq s (p ++ [n]) o b))):Sat Tryz.prog 237 [.p 0 0,gH o] (eN c s) K:=by
 have h1:=fR c.t.g o.l hg hol;rw [hw] at h1;have h2:=λ{K:Out→H→Prop}=>vp (K:=K) c s p n hp hm h0 hl hps hn hr hr2;have h4:=λ{K:Out→H→Prop}=>PW (K:=K) { c with t:=jh c.t } s (p ++ [n]) o hkp hs hol h3 h7 hro hq hf hst;refine s237.go (keep:=false) rfl ?_
 repeat' ((conv=>whnf);first | exact zf | refine zm ?_ | refine zc h1 ?_ | intro _)
 conv=>whnf
 refine gf ?_
 repeat' ((conv=>whnf);first | exact zf | refine (dp ?_) | refine zm ?_ | refine (.inr ?_:(∃_,_)∨_) | refine (h2 ?_) | refine (h4 (λb=>?_)) | refine And.intro ?_ ?_ | intro _)
 all_goals exact hk _
end Go.Proofs.YtjpgfgajkjhonaaGreatDoor
namespace Go.Proofs.YtjpgfgajkjhonaaGreatDoor
open Go.Vx
set_option maxRecDepth 100000
def tU (f:Nat) (m:Mh) (st st':List Va) (ts:List Tr) (tk:List Va) (bY:List Fr):Prop:=
 ∀K:Out→H→Prop,K (.ret (.tu [])) [.cells (iO m (.d (.sl 5 (bY.map bR))) st' ts (gp tk) cC false 0),.no] →
  Sat Tryz.prog f [.p 0 0] [.cells (iO m (.os 1) st ts (gp tk) cC false 0),.rows 5 (bY.map bR)] K
def jE (f:Nat) (m:Mh) (st:List Va) (ts ts':List Tr) (tk:List Va) (bY frs':List Fr) (wr:Bool) (cd:Int):Prop:=
 ∀K:Out→H→Prop,K (.ret (.tu [])) [.cells (iO m (.os 1) st ts' (gp tk) cC wr cd),.rows 5 (frs'.map bR)] →
  Sat Tryz.prog f [.p 0 0] [.cells (iO m (.os 1) st ts (gp tk) cC false 0),.rows 5 (bY.map bR)] K
theorem Mz (m:Mh) (st:List Va) (ts:List Tr) (tk:List Va) (bY:List Fr) (v:Va) (hs:st.length<1000000000) (h0:0≤m.o.a) (hv:m.im.cs[m.o.a.toNat]? = some v):tU 145 m st (st ++ [v]) ts tk bY:=by
 intro K hk;refine s145.go (keep:=false) rfl ?_;have hrow:(m.im.cs.map cE)[m.o.a.toNat]? = some (cE v):=by simp [hv]
 repeat' ((conv=>whnf);first | exact zf | refine zm ?_ | intro _)
 refine ⟨cE v,⟨h0,hrow,rfl⟩,?_⟩
 repeat' ((conv=>whnf);first | exact zf | refine zm ?_ | refine (.inr ?_:(∃_,_)∨_) | refine lX m st ts tk cC false 0 bY v hs ?_ | intro _)
 exact hk
theorem N7 (m:Mh) (st:List Va) (ts:List Tr) (tk:List Va) (bY:List Fr) (f:Fr) (v:Va) (hs:st.length<1000000000) (hl:0<bY.length) (hlf:bY.length<1000000000) (hf:bY[bY.length - 1]? = some f) (h0:0≤m.o.a) (hv:f.vars[m.o.a.toNat]? = some v):tU 146 m st (st ++ [v]) ts tk bY:=by
 intro K hk;refine s146.go (keep:=false) rfl ?_;have hrow:(bY.map bR)[(((bY.map bR).length:Int) - 1).toNat]? = some (bR f):=by
  rw [aC,aK];have e:((bY.length:Int) - 1).toNat=bY.length - 1:=by omega
  rw [e,hf];rfl
 have hrow2:(f.vars.map cE)[m.o.a.toNat]? = some (cE v):=by simp [hv]
 repeat' ((conv=>whnf);first | exact zf | refine (bo (bu ?_):eQ _ (eQ (kT _ _ _ _ 167 _ _ _ _ _ _ _) _)) | refine zm ?_ | refine ⟨_,_,uO m st ts tk cC false 0 _ (by simp;omega) (by simp;omega) (And.intro rfl rfl),?_⟩ | intro _)
 refine ⟨bR f,hrow,?_⟩
 repeat' ((conv=>whnf);first | exact zf | refine zm ?_ | intro _)
 refine ⟨cE v,⟨h0,hrow2,rfl⟩,?_⟩
 repeat' ((conv=>whnf);first | exact zf | refine zm ?_ | refine (.inr ?_:(∃_,_)∨_) | refine lX m st ts tk cC false 0 bY v hs ?_ | intro _)
 exact hk
theorem Q5 (m:Mh) (st:List Va) (ts:List Tr) (tk:List Va) (bY:List Fr):jE 148 m st ts ts tk bY bY false 0:=by
 intro K hk;refine s148.go (keep:=false) rfl ?_
 repeat' ((conv=>whnf);first | exact zf | refine zm ?_ | intro _)
 exact hk
theorem Rt (m:Mh) (st:List Va) (ts:List Tr) (a:Va) (bY:List Fr) (hs:st.length<900000000):tU 149 m st ((st ++ [a]) ++ [a]) ts [a] bY:=by
 intro K hk;refine s149.go (keep:=false) rfl ?_
 repeat' ((conv=>whnf);first | exact zf | refine zm ?_ | refine (.inr ?_:(∃_,_)∨_) | refine lX m st ts [a] cC false 0 bY a (by omega) ?_ | refine AI m (st ++ [a]) ts [a] cC false 0 bY a (by simp;omega) ?_ | refine ⟨_,⟨by decide,rfl,rfl⟩,?_⟩ | refine ⟨_,rfl,?_⟩ | intro _)
 exact hk
theorem MZ (m:Mh) (st:List Va) (ts:List Tr) (a b:Va) (bY:List Fr) (hs:st.length<900000000):tU 150 m st ((st ++ [b]) ++ [a]) ts [a,b] bY:=by
 intro K hk;refine s150.go (keep:=false) rfl ?_
 repeat' ((conv=>whnf);first | exact zf | refine zm ?_ | refine (.inr ?_:(∃_,_)∨_) | refine lX m st ts [a,b] cC false 0 bY b (by omega) ?_ | refine AI m (st ++ [b]) ts [a,b] cC false 0 bY a (by simp;omega) ?_ | refine ⟨_,⟨by decide,rfl,rfl⟩,?_⟩ | refine ⟨_,rfl,?_⟩ | intro _)
 exact hk
theorem Td (m:Mh) (st:List Va) (ts:List Tr) (a b:Va) (bY:List Fr) (hs:st.length<900000000):tU 152 m st (st ++ [iV (Nq a b)]) ts [a,b] bY:=by
 intro K hk;refine s152.go (keep:=false) rfl ?_
 repeat' ((conv=>whnf);first | exact zf | refine zm ?_ | refine zc (BC (Nq a b)) ?_ | refine (.inr ?_:(∃_,_)∨_) | refine lX m st ts [a,b] cC false 0 bY (iV (Nq a b)) (by omega) ?_ | refine ⟨_,⟨by decide,rfl,rfl⟩,?_⟩ | refine ⟨_,rfl,?_⟩ | intro _)
 exact hk
theorem NS (m:Mh) (st:List Va) (ts:List Tr) (a b:Va) (bY:List Fr) (n:Int) (hs:st.length<1000000000) (hc:7≤m.o.c∧m.o.c≤13) (hn:pD m.o.c a.n b.n=lT n):EC 216 [j5 a,j5 b] m st (st ++ [num n]) ts [a,b] bY:=by
 intro K hk;have h:=Rv m.o.c a.n b.n hc;rw [hn] at h;refine s216.go (keep:=false) rfl ?_
 repeat' ((conv=>whnf);first | exact zf | refine zm ?_ | refine zc h ?_ | refine zc (nC n) ?_ | refine (.inr ?_:(∃_,_)∨_) | refine lX m st ts [a,b] cC false 0 bY (num n) hs ?_ | intro _)
 exact hk
theorem NR (m:Mh) (st:List Va) (ts:List Tr) (a b:Va) (bY:List Fr) (hc:7≤m.o.c∧m.o.c≤13) (hn:pD m.o.c a.n b.n=pv):vC 216 [j5 a,j5 b] m st ts [a,b] bY bY true (-2):=by
 intro K hk;have h:=Rv m.o.c a.n b.n hc;rw [hn] at h;refine s216.go (keep:=false) rfl ?_
 repeat' ((conv=>whnf);first | exact zf | refine zm ?_ | refine zc h ?_ | refine (.inr ?_:(∃_,_)∨_) | refine mo m st ts [a,b] cC false 0 (bY.map bR) (-2) ?_ | intro _)
 exact hk
theorem DM (m:Mh) (st:List Va) (ts:List Tr) (a b:Va) (bY:List Fr) (n:Int) (hs:st.length<1000000000) (hc:7≤m.o.c∧m.o.c≤13) (ha:a.k=1) (hb:b.k=1) (hn:pD m.o.c a.n b.n=lT n):tU 151 m st (st ++ [num n]) ts [a,b] bY:=by
 intro K hk;refine s151.go (keep:=false) rfl ?_
 repeat' ((conv=>whnf);first | exact zf | refine zm ?_ | refine (.inr ?_:(∃_,_)∨_) | refine yz 216 rfl m st (st ++ [num n]) ts a b 1 bY ha hb (NS m st ts a b bY n hs hc hn) ?_ | intro _)
 exact hk
theorem DL (m:Mh) (st:List Va) (ts:List Tr) (a b:Va) (bY:List Fr) (hc:7≤m.o.c∧m.o.c≤13) (ha:a.k=1) (hb:b.k=1) (hn:pD m.o.c a.n b.n=pv):jE 151 m st ts ts [a,b] bY bY true (-2):=by
 intro K hk;refine s151.go (keep:=false) rfl ?_
 repeat' ((conv=>whnf);first | exact zf | refine zm ?_ | refine (.inr ?_:(∃_,_)∨_) | refine MW 216 rfl m st ts a b 1 bY bY true (-2) ha hb (NR m st ts a b bY hc hn) ?_ | intro _)
 exact hk
theorem DK (m:Mh) (st:List Va) (ts:List Tr) (a b:Va) (bY:List Fr) (hab:¬(a.k=1∧b.k=1)):jE 151 m st ts ts [a,b] bY bY true (-1):=by
 intro K hk;refine s151.go (keep:=false) rfl ?_
 repeat' ((conv=>whnf);first | exact zf | refine zm ?_ | refine (.inr ?_:(∃_,_)∨_) | refine yy 216 m st ts a b 1 bY hab ?_ | intro _)
 exact hk
theorem E9 (m:Mh) (st:List Va) (ts:List Tr) (a:Va) (bY:List Fr):vC 224 [j5 a] m st ts [a] bY bY true a.n:=by
 intro K hk;refine s224.go (keep:=false) rfl ?_
 repeat' ((conv=>whnf);first | exact zf | refine zm ?_ | refine (.inr ?_:(∃_,_)∨_) | refine mo m st ts [a] cC false 0 (bY.map bR) a.n ?_ | intro _)
 exact hk
theorem E8 (m:Mh) (st:List Va) (ts:List Tr) (a:Va) (bY:List Fr) (ha:a.k=1):jE 158 m st ts ts [a] bY bY true a.n:=by
 intro K hk;refine s158.go (keep:=false) rfl ?_
 repeat' ((conv=>whnf);first | exact zf | refine zm ?_ | refine (.inr ?_:(∃_,_)∨_) | refine zn 224 rfl m st ts a 1 bY bY true a.n ha (E9 m st ts a bY) ?_ | intro _)
 exact hk
theorem E7 (m:Mh) (st:List Va) (ts:List Tr) (a:Va) (bY:List Fr) (ha:¬a.k=1):jE 158 m st ts ts [a] bY bY true (-1):=by
 intro K hk;refine s158.go (keep:=false) rfl ?_
 repeat' ((conv=>whnf);first | exact zf | refine zm ?_ | refine (.inr ?_:(∃_,_)∨_) | refine zk 224 m st ts a 1 bY ha ?_ | intro _)
 exact hk
end Go.Proofs.YtjpgfgajkjhonaaGreatDoor
namespace Go.Proofs.YtjpgfgajkjhonaaGreatDoor
open Go.Vx
theorem vK {K:Out→H→Prop} (m:Mh) (st:List Va) (ts:List Tr) (tk:List Va) (u:Ou) (wr:Bool) (cd:Int) (bY:List Fr) (f:Fr) (hl:0<bY.length) (hlf:bY.length<1000000000) (hf:bY[bY.length - 1]? = some f)
  (hk:K (.ret (.e (bR f) 0)) [.cells (iO m (.d (.sl 5 (bY.map bR))) st ts (gp tk) u wr cd)]) :
  Sat Tryz.prog 167 [.p 0 0] [.cells (iO m (.d (.sl 5 (bY.map bR))) st ts (gp tk) u wr cd)] K:=by
 have hrow:(bY.map bR)[(((bY.map bR).length:Int) - 1).toNat]? = some (bR f):=by
  rw [aC,aK];have e:((bY.length:Int) - 1).toNat=bY.length - 1:=by omega
  rw [e,hf];rfl
 refine s167.go (keep:=false) rfl ?_
 repeat' ((conv=>whnf);first | exact zf | refine zm ?_ | intro _)
 refine ⟨bR f,⟨by simp;omega,hrow,rfl⟩,?_⟩
 repeat' ((conv=>whnf);first | exact zf | refine zm ?_ | intro _)
 exact hk
theorem Dh {K:Out→H→Prop} (m:Mh) (st:List Va) (ts:List Tr) (tk:List Va) (u:Ou) (wr:Bool) (cd:Int) (rows:List (List D)) (n:Int)
  (hk:K (.ret (.tu [])) [.cells (iO m (.d (.sl 5 rows)) st ts (gp tk) u true n)]) :
  Sat Tryz.prog 218 [.p 0 0,.d (.int .i64 n)] [.cells (iO m (.d (.sl 5 rows)) st ts (gp tk) u wr cd)] K:=by
 refine s218.go (keep:=false) rfl ?_
 repeat' ((conv=>whnf);first | exact zf | refine zm ?_ | intro _)
 exact hk
def ei (bY:List Fr) (f:Fr):List Fr:=bY.set (bY.length - 1) f
theorem mX {bY:List Fr} (hl:0<bY.length) (f:Fr):(bY.map bR).set (((bY.map bR).length:Int) - 1).toNat (bR f)=(ei bY f).map bR:=by
 rw [ei,fW,aK];congr 1;omega
theorem mW {bY:List Fr} {f:Fr} (hl:0<bY.length) (hf:bY[bY.length - 1]? = some f):(bY.map bR)[(((bY.map bR).length:Int) - 1).toNat]? = some (bR f):=by
 rw [aC,aK];have e:((bY.length:Int) - 1).toNat=bY.length - 1:=by omega
 rw [e,hf];rfl
theorem GK (m:Mh) (st:List Va) (ts:List Tr) (tk:List Va) (bY:List Fr) (f:Fr) (hl:0<bY.length) (hlf:bY.length<1000000000) (hf:bY[bY.length - 1]? = some f) :
  jE 154 m st ts ts tk bY (ei bY { f with pc:=m.o.a }) false 0:=by
 intro K hk;have hrow:=mW hl hf;rw [←mX hl] at hk;refine s154.go (keep:=false) rfl ?_
 repeat' ((conv=>whnf);first | exact zf | refine (bo (bu ?_):eQ _ (eQ (kT _ _ _ _ 167 _ _ _ _ _ _ _) _)) | refine zm ?_ | refine ⟨_,_,uO m st ts tk cC false 0 _ (by simp;omega) (by simp;omega) (And.intro rfl rfl),?_⟩ | intro _)
 refine ⟨bR f,hrow,⟨rfl,rfl,rfl⟩,?_⟩
 repeat' ((conv=>whnf);first | exact zf | refine zm ?_ | intro _)
 exact hk
def xo (a:Int) (ma:Int):Int:=ir .and .u8 ma (IntKind.u8.wrap (ir .and .i64 a 255))
theorem N9 (m:Mh) (st:List Va) (ts:List Tr) (tk:List Va) (bY:List Fr) (f:Fr) (hl:0<bY.length) (hlf:bY.length<1000000000) (hf:bY[bY.length - 1]? = some f) :
  jE 165 m st ts ts tk bY (ei bY { f with ma:=xo m.o.a f.ma }) false 0:=by
 intro K hk;have hrow:=mW hl hf;rw [←mX hl] at hk;refine s165.go (keep:=false) rfl ?_
 repeat' ((conv=>whnf);first | exact zf | refine (bo (bu ?_):eQ _ (eQ (kT _ _ _ _ 167 _ _ _ _ _ _ _) _)) | refine zm ?_ | refine ⟨_,_,uO m st ts tk cC false 0 _ (by simp;omega) (by simp;omega) (And.intro rfl rfl),?_⟩ | intro _)
 refine ⟨bR f,hrow,?_⟩
 repeat' ((conv=>whnf);first | exact zf | refine zm ?_ | refine .inr ?_ | intro _)
 refine ⟨bR f,hrow,⟨rfl,rfl,rfl⟩,?_⟩
 repeat' ((conv=>whnf);first | exact zf | refine zm ?_ | intro _)
 exact hk
theorem Q8 (m:Mh) (st:List Va) (ts:List Tr) (tk:List Va) (bY:List Fr) (f:Fr) (hs:st.length<1000000000) (hl:0<bY.length) (hlf:bY.length<1000000000) (hf:bY[bY.length - 1]? = some f) (hma:0≤f.ma∧f.ma≤255) :
  tU 166 m st (st ++ [num f.ma]) ts tk bY:=by
 intro K hk;have hrow:=mW hl hf;refine s166.go (keep:=false) rfl ?_
 repeat' ((conv=>whnf);first | exact zf | refine zm ?_ | refine (.inr ?_:(∃_,_)∨_) | refine uO m st ts tk cC false 0 _ (by simp;omega) (by simp;omega) ?_ | intro _)
 refine ⟨bR f,hrow,?_⟩
 repeat' ((conv=>whnf);first | exact zf | refine zm ?_ | refine zc (nC f.ma) ?_ | refine (.inr ?_:(∃_,_)∨_) | refine lX m st ts tk cC false 0 bY (num f.ma) hs ?_ | intro _)
 exact hk
theorem AT (m:Mh) (st:List Va) (ts:List Tr) (a:Va) (bY:List Fr) (f:Fr) (hl:0<bY.length) (hlf:bY.length<1000000000) (hf:bY[bY.length - 1]? = some f) (hn:a.n≠0) :
  vC 222 [j5 a] m st ts [a] bY (ei bY { f with pc:=m.o.a }) false 0:=by
 intro K hk;refine s222.go (keep:=false) rfl ?_
 repeat' ((conv=>whnf);first | exact zf | refine zm ?_ | intro _)
 refine aX (λ_=>?_) (λh=>absurd (by simpa using h) hn)
 repeat' ((conv=>whnf);first | exact zf | refine zm ?_ | refine (.inr ?_:(∃_,_)∨_) | refine GK m st ts [a] bY f hl hlf hf _ ?_ | intro _)
 exact hk
theorem AS (m:Mh) (st:List Va) (ts:List Tr) (a:Va) (bY:List Fr) (hn:a.n=0) :
  vC 222 [j5 a] m st ts [a] bY bY false 0:=by
 intro K hk;refine s222.go (keep:=false) rfl ?_
 repeat' ((conv=>whnf);first | exact zf | refine zm ?_ | intro _)
 refine aX (λh=>absurd hn (by simpa using h)) (λ_=>?_)
 repeat' ((conv=>whnf);first | exact zf | refine zm ?_ | intro _)
 exact hk
theorem D5 (m:Mh) (st:List Va) (ts:List Tr) (a:Va) (bY:List Fr) (f:Fr) (hl:0<bY.length) (hlf:bY.length<1000000000) (hf:bY[bY.length - 1]? = some f) (ha:a.k=1) (hn:a.n≠0) :
  jE 155 m st ts ts [a] bY (ei bY { f with pc:=m.o.a }) false 0:=by
 intro K hk;refine s155.go (keep:=false) rfl ?_
 repeat' ((conv=>whnf);first | exact zf | refine zm ?_ | refine (.inr ?_:(∃_,_)∨_) | refine zn 222 rfl m st ts a 1 bY _ false 0 ha (AT m st ts a bY f hl hlf hf hn) ?_ | intro _)
 exact hk
theorem D4 (m:Mh) (st:List Va) (ts:List Tr) (a:Va) (bY:List Fr) (ha:a.k=1) (hn:a.n=0) :
  jE 155 m st ts ts [a] bY bY false 0:=by
 intro K hk;refine s155.go (keep:=false) rfl ?_
 repeat' ((conv=>whnf);first | exact zf | refine zm ?_ | refine (.inr ?_:(∃_,_)∨_) | refine zn 222 rfl m st ts a 1 bY bY false 0 ha (AS m st ts a bY hn) ?_ | intro _)
 exact hk
theorem D3 (m:Mh) (st:List Va) (ts:List Tr) (a:Va) (bY:List Fr) (ha:¬a.k=1):jE 155 m st ts ts [a] bY bY true (-1):=by
 intro K hk;refine s155.go (keep:=false) rfl ?_
 repeat' ((conv=>whnf);first | exact zf | refine zm ?_ | refine (.inr ?_:(∃_,_)∨_) | refine zk 222 m st ts a 1 bY ha ?_ | intro _)
 exact hk
theorem NX (m:Mh) (st:List Va) (ts:List Tr) (a:Va) (bY:List Fr) (hs:st.length<1000000000):EC 221 [j5 a] m st (st ++ [iV (a.n==0)]) ts [a] bY:=by
 intro K hk;refine s221.go (keep:=false) rfl ?_
 repeat' ((conv=>whnf);first | exact zf | refine zm ?_ | refine zc (BC (a.n==0)) ?_ | refine (.inr ?_:(∃_,_)∨_) | refine lX m st ts [a] cC false 0 bY (iV (a.n==0)) hs ?_ | intro _)
 exact hk
theorem NW (m:Mh) (st:List Va) (ts:List Tr) (a:Va) (bY:List Fr) (hs:st.length<1000000000) (ha:a.k=1):tU 153 m st (st ++ [iV (a.n==0)]) ts [a] bY:=by
 intro K hk;refine s153.go (keep:=false) rfl ?_
 repeat' ((conv=>whnf);first | exact zf | refine zm ?_ | refine (.inr ?_:(∃_,_)∨_) | refine NK 221 rfl m st _ ts a 1 bY ha (NX m st ts a bY hs) ?_ | intro _)
 exact hk
theorem NV (m:Mh) (st:List Va) (ts:List Tr) (a:Va) (bY:List Fr) (ha:¬a.k=1):jE 153 m st ts ts [a] bY bY true (-1):=by
 intro K hk;refine s153.go (keep:=false) rfl ?_
 repeat' ((conv=>whnf);first | exact zf | refine zm ?_ | refine (.inr ?_:(∃_,_)∨_) | refine zk 221 m st ts a 1 bY ha ?_ | intro _)
 exact hk
theorem CI (l:List (List D)):bJ Tryz.prog 225 [.d (.sl 3 l)] (.cl 3 l):=by
 refine s225.go (keep:=false) rfl ?_
 repeat' ((conv=>whnf);first | exact zf | refine zm ?_ | intro _)
 exact cR (congrArg (V.cl 3) (by simp))
theorem QE (m:Mh) (st:List Va) (ts:List Tr) (tk:List Va) (bY:List Fr) (ht:ts.length<1000000000) :
  jE 159 m st ts (ts ++ [⟨bY.length,st.length,m.o.a⟩]) tk bY bY false 0:=by
 intro K hk;refine s159.go (keep:=false) rfl ?_;have ht':(ts.map eE).length<1000000000:=by simpa using ht
 repeat' ((conv=>whnf);first | exact zf | refine zm ?_ | refine zc (CI (ts.map eE)) ?_ | intro _)
 have e:(ts ++ [(⟨bY.length,st.length,m.o.a⟩:Tr)]).map eE=ts.map eE ++ [[.int .i64 ((bY.map bR).length:Int),.int .i64 ((st.map cE).length:Int),.int .i64 m.o.a]]:=by simp [eE]
 unfold iO at hk;rw [e] at hk;exact hk
def R7 (m:Mh) (c0:V) (st:List Va) (c2:V) (tk:V) (u:Ou) (wr:Bool) (cd:Int):List V:=
  [.d (.sl 5 (m.im.cs.map cE)), .d (.sl 3 (m.im.fs.map db)), .d (.sl 5 (m.gE.fr.map bR)), .d (.sl 5 (m.gE.st.map cE)), .d (.sl 3 (m.gE.tr.map eE)),
   c0,.d (.sl 5 (st.map cE)),c2,.d (.int .i64 m.o.c),.d (.int .i64 m.o.a),tk,.d (.int .i64 m.fr),.d (.int .i64 m.tr),
   .d (.int .i64 u.k),.d (.int .i64 u.v.k),.d (.int .i64 u.v.n),.d (.str u.v.nm),.d (.str u.v.ls),.d (.str u.v.li),.d (.int .i64 u.o.c),.d (.int .i64 u.o.a),.d (.bool wr),.d (.int .i64 cd)]
theorem Ns {K:Out→H→Prop} (m:Mh) (st:List Va) (ts:List Tr) (tk:List Va) (bY:List Fr) (hn:m.tr<ts.length) (h0:0≤m.tr)
  (hk:K (.ret (.tu [])) [.cells (R7 m (.os 1) st (.cl 3 ((ts.take (ts.length - 1)).map eE)) (gp tk) cC false 0),.rows 5 (bY.map bR)]) :
  Sat Tryz.prog 160 [.p 0 0] [.cells (iO m (.os 1) st ts (gp tk) cC false 0),.rows 5 (bY.map bR)] K:=by
 refine s160.go (keep:=false) rfl ?_
 repeat' ((conv=>whnf);first | exact zf | refine zm ?_ | intro _)
 refine aX (λ_=>?_) (λh=>absurd h (by simp;omega));have e:((ts.map eE).take (((ts.map eE).length:Int) - 1).toNat).drop (0:Int).toNat=(ts.take (ts.length - 1)).map eE:=by
  rw [aK,←fg];show List.map eE _=_;congr 2;omega
 rw [←e] at hk
 repeat' ((conv=>whnf);first | exact zf | refine zm ?_ | refine zc (CI _) ?_ | intro _)
 exact hk
theorem Nr {K:Out→H→Prop} (m:Mh) (st:List Va) (ts:List Tr) (tk:List Va) (bY:List Fr) (hn:¬m.tr<ts.length)
  (hk:K (.ret (.tu [])) [.cells (iO m (.os 1) st ts (gp tk) cC false 0),.rows 5 (bY.map bR)]) :
  Sat Tryz.prog 160 [.p 0 0] [.cells (iO m (.os 1) st ts (gp tk) cC false 0),.rows 5 (bY.map bR)] K:=by
 refine s160.go (keep:=false) rfl ?_
 repeat' ((conv=>whnf);first | exact zf | refine zm ?_ | intro _)
 refine aX (λh=>absurd h (by simp;omega)) (λ_=>?_)
 repeat' ((conv=>whnf);first | exact zf | refine zm ?_ | intro _)
 exact hk
theorem Kr {K:Out→H→Prop} (m:Mh) (st:List Va) (ts:List Tr) (tk:List Va) (bY:List Fr) (f:Fr) (g:Fn) (hl:0<bY.length) (hlf:bY.length<1000000000) (htk:tk.length<1000000000) (hf:bY[bY.length - 1]? = some f) (h0:0≤m.o.a) (hg:m.im.fs[m.o.a.toNat]? = some g) (hy:da ⟨bY,st,ts⟩=true)
  (hk:K (.ret (.tu [])) [.cells (iO m (.d (.sl 5 ((f_ ⟨bY,st,ts⟩ m.o.a g.vars tk f.ma).fr.map bR))) st ts (gp tk) cC false 0),.no]) :
  Sat Tryz.prog 156 [.p 0 0] [.cells (iO m (.os 1) st ts (gp tk) cC false 0),.rows 5 (bY.map bR)] K:=by
 have he:=kN ⟨bY,st,ts⟩ m.o.a g.vars tk f.ma hlf htk;simp only [l8,hy,cond_true] at he;have hrow:(m.im.fs.map db)[m.o.a.toNat]? = some (db g):=by simp [hg]
 refine s156.go (keep:=false) rfl ?_
 repeat' ((conv=>whnf);first | exact zf | refine iw [1] ?_ | refine (bo (bu ?_):eQ _ (eQ (kT _ _ _ _ 167 _ _ _ _ _ _ _) _)) | refine zm ?_ | refine zc he ?_ | refine ⟨_,_,vK m st ts tk cC false 0 bY f hl hlf hf (And.intro rfl rfl),?_⟩ | intro _)
 refine ⟨db g,⟨h0,hrow,rfl⟩,?_⟩
 repeat' ((conv=>whnf);first | exact zf | refine (bo (bu ?_):eQ _ (eQ (kT _ _ _ _ 167 _ _ _ _ _ _ _) _)) | refine zm ?_ | refine zc he ?_ | refine ⟨_,_,vK m st ts tk cC false 0 bY f hl hlf hf (And.intro rfl rfl),?_⟩ | intro _)
 exact hk
theorem Kq {K:Out→H→Prop} (m:Mh) (st:List Va) (ts:List Tr) (tk:List Va) (bY:List Fr) (f:Fr) (g:Fn) (hl:0<bY.length) (hlf:bY.length<1000000000) (htk:tk.length<1000000000) (hf:bY[bY.length - 1]? = some f) (h0:0≤m.o.a) (hg:m.im.fs[m.o.a.toNat]? = some g) (hy:da ⟨bY,st,ts⟩=false)
  (hk:K (.ret (.tu [])) [.cells (iO m (.d (.sl 5 (bY.map bR))) st ts (gp tk) cC true (-6)),.no]) :
  Sat Tryz.prog 156 [.p 0 0] [.cells (iO m (.os 1) st ts (gp tk) cC false 0),.rows 5 (bY.map bR)] K:=by
 have he:=kN ⟨bY,st,ts⟩ m.o.a g.vars tk f.ma hlf htk;simp only [l8,hy,cond_false] at he;have hrow:(m.im.fs.map db)[m.o.a.toNat]? = some (db g):=by simp [hg]
 refine s156.go (keep:=false) rfl ?_
 repeat' ((conv=>whnf);first | exact zf | refine iw [1] ?_ | refine (bo (bu ?_):eQ _ (eQ (kT _ _ _ _ 167 _ _ _ _ _ _ _) _)) | refine zm ?_ | refine zc he ?_ | refine ⟨_,_,vK m st ts tk cC false 0 bY f hl hlf hf (And.intro rfl rfl),?_⟩ | intro _)
 refine ⟨db g,⟨h0,hrow,rfl⟩,?_⟩
 repeat' ((conv=>whnf);first | exact zf | refine (bo (bu ?_):eQ _ (eQ (kT _ _ _ _ 167 _ _ _ _ _ _ _) _)) | refine zm ?_ | refine zc he ?_ | refine ⟨_,_,vK m st ts tk cC false 0 bY f hl hlf hf (And.intro rfl rfl),?_⟩ | refine (.inr ?_:(∃_,_)∨_) | refine Dh m st ts tk cC false 0 (bY.map bR) (-6) ?_ | intro _)
 exact hk
theorem Mo {K:Out→H→Prop} (m:Mh) (st:List Va) (ts:List Tr) (tk:List Va) (bY:List Fr) (hf:m.gE.fr.length<1000000000) (hs:m.gE.st.length<1000000000) (ht:m.gE.tr.length<1000000000) (hy:n6 m.gE=true) (hn:((fw m.gE).fr.length:Int)≤m.fr)
  (hk:K (.ret (.tu [])) [.cells (iO m (.d (.sl 5 ((fw m.gE).fr.map bR))) (fw m.gE).st (fw m.gE).tr (gp tk) ⟨1,qe m.gE,o0⟩ false 0),.rows 5 (bY.map bR)]) :
  Sat Tryz.prog 157 [.p 0 0] [.cells (iO m (.os 1) st ts (gp tk) cC false 0),.rows 5 (bY.map bR)] K:=by
 have he:=FC m.gE hf hs ht;simp only [Cy,hy,cond_true] at he;refine s157.go (keep:=false) rfl ?_
 repeat' ((conv=>whnf);first | exact zf | refine zm ?_ | refine zc he ?_ | intro _)
 refine aX (λ_=>?_) (λh=>absurd h (by simp;omega))
 repeat' ((conv=>whnf);first | exact zf | refine zm ?_ | intro _)
 exact hk
theorem Mn {K:Out→H→Prop} (m:Mh) (st:List Va) (ts:List Tr) (tk:List Va) (bY:List Fr) (hf:m.gE.fr.length<1000000000) (hs:m.gE.st.length<1000000000) (ht:m.gE.tr.length<1000000000) (hs2:(fw m.gE).st.length<1000000000) (hy:n6 m.gE=true) (hn:¬((fw m.gE).fr.length:Int)≤m.fr)
  (hk:K (.ret (.tu [])) [.cells (iO m (.d (.sl 5 ((fw m.gE).fr.map bR))) ((fw m.gE).st ++ [qe m.gE]) (fw m.gE).tr (gp tk) cC false 0),.rows 5 (bY.map bR)]) :
  Sat Tryz.prog 157 [.p 0 0] [.cells (iO m (.os 1) st ts (gp tk) cC false 0),.rows 5 (bY.map bR)] K:=by
 have he:=FC m.gE hf hs ht;simp only [Cy,hy,cond_true] at he;refine s157.go (keep:=false) rfl ?_
 repeat' ((conv=>whnf);first | exact zf | refine zm ?_ | refine zc he ?_ | intro _)
 refine aX (λh=>absurd h (by simp;omega)) (λ_=>?_)
 repeat' ((conv=>whnf);first | exact zf | refine zm ?_ | refine (.inr ?_:(∃_,_)∨_) | refine AI m (fw m.gE).st (fw m.gE).tr tk cC false 0 (fw m.gE).fr (qe m.gE) hs2 ?_ | intro _)
 exact hk
end Go.Proofs.YtjpgfgajkjhonaaGreatDoor
namespace Go.Proofs.YtjpgfgajkjhonaaGreatDoor
open Go.Vx
def R_:List (Int×Nat):=[(1,1000145),(2,1000146),(3,1000147),(4,1000148),(5,1000149),(6,1000150),(7,1000151),(8,1000151),(9,1000151),(10,1000151),(11,1000151),(12,1000152),(13,1000151),(14,1000153),(15,1000154),(16,1000155),(17,1000156),(18,1000157),(19,1000158),(20,1000159),(21,1000160),(22,1000161),(23,1000162),(24,1000163),(31,1000164),(44,1000165),(47,1000166)]
def Ce (id:Nat):List (V×V):=R_.map λp=>(.d (.int .i64 p.1),.fc p.2 [.p id 0])
set_option maxRecDepth 100000 in
set_option maxHeartbeats 4000000 in
theorem lK {K:Out→H→Prop} (m:Mh) (hk:K (.ret (.mp 1)) [.cells (N4 m),.mp (Ce 0)]):Sat Tryz.prog 107 [.p 0 0] [.cells (N4 m)] K:=by
  refine s107.go (keep:=true) rfl ?_
  repeat' ((conv=>whnf);first | exact zf | refine zm ?_ | refine ⟨_,rfl,?_⟩ | intro _)
  exact hk
end Go.Proofs.YtjpgfgajkjhonaaGreatDoor
