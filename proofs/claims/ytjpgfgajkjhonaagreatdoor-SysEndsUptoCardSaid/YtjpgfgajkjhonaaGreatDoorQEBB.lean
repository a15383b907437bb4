/- What a call of the kernel is, and its small functions. Conditions: as told. -/
import Derived.Test.YtjpgfgajkjhonaaGreatDoorQEAT
import Derived.Test.YtjpgfgajkjhonaaGreatDoorQEBA
import Derived.Test.YtjpgfgajkjhonaaGreatDoorQEAY
namespace Go.Proofs.YtjpgfgajkjhonaaGreatDoor
open Go.Vx
set_option maxRecDepth 100000
structure Ev where
  l:Lb
  v:Va
def LO (e:Ev):List D:=[.str e.l.s,.str e.l.i,.int .i64 e.v.k,.int .i64 e.v.n,.str e.v.nm,.str e.v.ls,.str e.v.li]
structure En where
  o:Int
  fr:Lb
  to:Lb
  ma:Int
def LP (e:En):List D:=[.int .i64 e.o,.str e.fr.s,.str e.fr.i,.str e.to.s,.str e.to.i,.int .u8 e.ma]
structure Wo where
  id:List UInt8
  l:List Va
def LN (w:Wo):List D:=[.str w.id,.sl 5 (w.l.map cE)]
structure Ef where
  fork:List Th
  out:List Ev
  log:List En
  L9:List Wo
  dn:Bool
def KJ (e:Ef):List D:=[.sl 20 (e.fork.map gR),.sl 7 (e.out.map LO),.sl 6 (e.log.map LP),.sl 2 (e.L9.map LN),.bool e.dn]
def qY (e:Ef):V:=.ag ((KJ e).map .d)
inductive Fx where
  |no
  |out (x:Ev)
  |log (x:En)
  |L9 (x:Wo)
  |fork (x:Th)
def Fx.ef:Fx→Bool→Ef
 |.no,d=>⟨[],[],[],[],d⟩
 |.out x,d=>⟨[],[x],[],[],d⟩
 |.log x,d=>⟨[],[],[x],[],d⟩
 |.L9 x,d=>⟨[],[],[],[x],d⟩
 |.fork x,d=>⟨[x],[],[],[],d⟩
def Fx.vs:Fx→Bool→List V
 |.no,d=>[.nl 20,.nl 7,.nl 6,.nl 2,.d (.bool d)]
 |.out x,d=>[.nl 20,.d (.sl 7 [LO x]),.nl 6,.nl 2,.d (.bool d)]
 |.log x,d=>[.nl 20,.nl 7,.d (.sl 6 [LP x]),.nl 2,.d (.bool d)]
 |.L9 x,d=>[.nl 20,.nl 7,.nl 6,.d (.sl 2 [LN x]),.d (.bool d)]
 |.fork x,d=>[.d (.sl 20 [gR x]),.nl 7,.nl 6,.nl 2,.d (.bool d)]
structure Ca where
  im:Im
  now:Int
  t:Th
  tr:Int
  o:Op
  ar:List Va
  ma:Int
def kC (c:Ca) (e:List V) (a:V) (s:Nat):List V:=
 [.d (.sl 5 (c.im.cs.map cE)),.d (.sl 3 (c.im.fs.map da)),.p s 0,.d (.int .i64 c.now)]++(gR c.t).map .d ++ [.d (.int .i64 c.tr)]++e ++ [.d (.int .i64 c.o.c),.d (.int .i64 c.o.a),a,.d (.int .u8 c.ma)]
def eM (c:Ca) (s:bq):H:=.cells (kC c [.nl 20,.nl 7,.nl 6,.nl 2,.d (.bool false)] (.d (.sl 5 (c.ar.map cE))) 1) :: [.cells [.mp 2,.mp 3],.dm (q8 s.th),.ms 1 (qA s.nm) none none]
def Uk (c:Ca) (d:Bool) (s:bq):H:=.cells (kC c [.nl 20,.nl 7,.nl 6,.nl 2,.d (.bool d)] (.d (.sl 5 (c.ar.map cE))) 1) :: [.cells [.mp 2,.mp 3],.dm (q8 s.th),.ms 1 (qA s.nm) none none]
def KN (c:Ca) (e:Fx) (d:Bool) (s:bq):H:=.cells (kC c (e.vs d) (.d (.sl 5 (c.ar.map cE))) 1) :: [.cells [.mp 2,.mp 3],.dm (q8 s.th),.ms 1 (qA s.nm) none none]
def RU (p:Ca×Bool×bq):H:=Uk p.1 p.2.1 p.2.2
def UF (c:Ca) (s:bq):H:=.cells (kC c [.nl 20,.nl 7,.nl 6,.nl 2,.d (.bool false)] (.nl 5) 1) :: [.cells [.mp 2,.mp 3],.dm (q8 s.th),.ms 1 (qA s.nm) none none]
def Uj (p:Ca×Bool×bq):H:=.cells (kC p.1 [.nl 20,.nl 7,.nl 6,.nl 2,.d (.bool p.2.1)] (.nl 5) 1) :: [.cells [.mp 2,.mp 3],.dm (q8 p.2.2.th),.ms 1 (qA p.2.2.nm) none none]
theorem jO {K:Out→H→Prop} (c:Ca) (s:bq) (v:Va) (hl:c.t.c.st.length<1000000000) (hk:K (.ret (.tu [])) (eM { c with t:={ c.t with c:=jH c.t.c v } } s)):Sat Tryz.prog 241 [.p 0 0,jT v] (eM c s) K:=by
 have h1:=rQ c.t.c v hl;refine s241.go (keep:=false) rfl ?_
 repeat' ((conv=>whnf);first | exact zf | refine zm ?_ | refine zc h1 ?_ | intro _)
 exact hk
theorem BF {K:Out→H→Prop} (c:Ca) (s:bq) (l:Lb) (hl:c.t.c.st.length<1000000000) (hk:K (.ret (.tu [])) (eM { c with t:={ c.t with c:=jH c.t.c ⟨2,0,[],l.s,l.i⟩ } } s)):Sat Tryz.prog 232 [.p 0 0,jr l] (eM c s) K:=by
 have h1:=λ{K:Out→H→Prop}=>jO (K:=K) c s ⟨2,0,[],l.s,l.i⟩ hl;refine s232.go (keep:=false) rfl ?_
 repeat' ((conv=>whnf);first | exact zf | refine zm ?_ | refine (.inr ?_:(∃_,_)∨_) | refine (h1 ?_) | intro _)
 exact hk
def nN (c:Ca) (s:bq) (v:Va) (ex:Bool):Ca×Bool×bq:=
 let t:=eH c.t v ex
 if t.st≠3∧t.st≠4 then ({ c with t:=t },false,s) else
 match bN t.id s.th with
 |some (i,o)=>if o.k=6 then ({ c with t:=t },true,kF s i t.id { o with v:=v,ex:=ex,dn:=true }) else ({ c with t:=t },true,s)
 |none=>({ c with t:=t },true,s)
theorem Ft {K:Out→H→Prop} (c:Ca) (s:bq) (v:Va) (ex:Bool) (hqa:∀i o,bN c.t.id s.th=some (i,o)→o.va.q.length<100000000) (hk:K (.ret (.tu [])) (RU (nN c s v ex))):Sat Tryz.prog 72 [.p 0 0,jT v,.d (.bool ex)] (eM c s) K:=by
 have h1:=pZ c.t v ex;have hid:(eH c.t v ex).id=c.t.id:=rfl;unfold nN at hk;generalize eH c.t v ex=t at h1 hid hk;rw [←hid] at hqa;have hq:(gb s t.id).va.q.length<100000000:=by
  unfold gb;cases hlk:bN t.id s.th with
  |none=>simp [fG,zH]
  |some p=>exact hqa p.1 p.2 hlk
 by_cases h30:t.st=3
 ·have hnot:¬(t.st≠3∧t.st≠4):=λh=>h.1 h30;simp only [hnot,if_false] at hk;have hg:=oh (K:=λout h=>out = .ret (.tu [fz (gb s t.id),.d (.bool (ke s t.id))])∧h=jn s) s t.id hq ⟨rfl,rfl⟩;unfold gb ke at hg;cases hlk:bN t.id s.th with
  |none=>
   rw [hlk] at hg hk;refine s72.go (keep:=false) rfl ?_
   repeat' ((conv=>whnf);first | exact zf | refine (bp (bw ?_):eQ _ (eQ (kG _ _ _ _ 16 _ _ _ _ _ _ _) _)) | refine zm ?_ | refine zc h1 ?_ | refine ⟨_,_,hg,?_⟩ | refine zt ?_ | refine zu ?_ | intro _)
   exact hk
  |some p=>
   obtain ⟨i,o⟩:=p;rw [hlk] at hg hk
   by_cases h6:o.k=6
   ·have hset:=λ{K:Out→H→Prop}=>lB (K:=K) s t.id i { o with v:=v,ex:=ex,dn:=true } o hlk rfl rfl (hqa i o hlk);dsimp only at hk;rw [if_pos h6] at hk;refine s72.go (keep:=false) rfl ?_
    repeat' ((conv=>whnf);first | exact zf | refine (bp (bw ?_):eQ _ (eQ (kG _ _ _ _ 16 _ _ _ _ _ _ _) _)) | refine zm ?_ | refine zc h1 ?_ | refine ⟨_,_,hg,?_⟩ | refine (.inr ?_:(∃_,_)∨_) | refine (hset ?_) | refine zt ?_ | refine zu ?_ | intro _)
    exact hk
   ·simp only [h6,if_false] at hk;refine s72.go (keep:=false) rfl ?_
    repeat' ((conv=>whnf);first | exact zf | refine (bp (bw ?_):eQ _ (eQ (kG _ _ _ _ 16 _ _ _ _ _ _ _) _)) | refine zm ?_ | refine zc h1 ?_ | refine ⟨_,_,hg,?_⟩ | refine zt ?_ | refine zu ?_ | intro _)
    exact hk
 ·by_cases h3:t.st=4
  ·have hnot:¬(t.st≠3∧t.st≠4):=λh=>h.2 h3;simp only [hnot,if_false] at hk;have hg:=oh (K:=λout h=>out = .ret (.tu [fz (gb s t.id),.d (.bool (ke s t.id))])∧h=jn s) s t.id hq ⟨rfl,rfl⟩;unfold gb ke at hg;cases hlk:bN t.id s.th with
   |none=>
    rw [hlk] at hg hk;refine s72.go (keep:=false) rfl ?_
    repeat' ((conv=>whnf);first | exact zf | refine (bp (bw ?_):eQ _ (eQ (kG _ _ _ _ 16 _ _ _ _ _ _ _) _)) | refine zm ?_ | refine zc h1 ?_ | refine ⟨_,_,hg,?_⟩ | refine zt ?_ | refine zu ?_ | intro _)
    exact hk
   |some p=>
    obtain ⟨i,o⟩:=p;rw [hlk] at hg hk
    by_cases h6:o.k=6
    ·have hset:=λ{K:Out→H→Prop}=>lB (K:=K) s t.id i { o with v:=v,ex:=ex,dn:=true } o hlk rfl rfl (hqa i o hlk);dsimp only at hk;rw [if_pos h6] at hk;refine s72.go (keep:=false) rfl ?_
     repeat' ((conv=>whnf);first | exact zf | refine (bp (bw ?_):eQ _ (eQ (kG _ _ _ _ 16 _ _ _ _ _ _ _) _)) | refine zm ?_ | refine zc h1 ?_ | refine ⟨_,_,hg,?_⟩ | refine (.inr ?_:(∃_,_)∨_) | refine (hset ?_) | refine zt ?_ | refine zu ?_ | intro _)
     exact hk
    ·simp only [h6,if_false] at hk;refine s72.go (keep:=false) rfl ?_
     repeat' ((conv=>whnf);first | exact zf | refine (bp (bw ?_):eQ _ (eQ (kG _ _ _ _ 16 _ _ _ _ _ _ _) _)) | refine zm ?_ | refine zc h1 ?_ | refine ⟨_,_,hg,?_⟩ | refine zt ?_ | refine zu ?_ | intro _)
     exact hk
  ·have hyes:t.st≠3∧t.st≠4:=⟨h30,h3⟩
   rw [if_pos hyes] at hk;refine s72.go (keep:=false) rfl ?_
   repeat' ((conv=>whnf);first | exact zf | refine zm ?_ | refine zc h1 ?_ | refine zt ?_ | refine zu ?_ | intro _)
   exact hk
theorem nC {K:Out→H→Prop} (c:Ca) (s:bq) (v:Va) (ex:Bool) (hqa:∀i o,bN c.t.id s.th=some (i,o)→o.va.q.length<100000000) (hk:K (.ret (.tu [])) (Uj (nN c s v ex))):Sat Tryz.prog 72 [.p 0 0,jT v,.d (.bool ex)] (UF c s) K:=by
 have h1:=pZ c.t v ex;have hid:(eH c.t v ex).id=c.t.id:=rfl;unfold nN at hk;generalize eH c.t v ex=t at h1 hid hk;rw [←hid] at hqa;have hq:(gb s t.id).va.q.length<100000000:=by
  unfold gb;cases hlk:bN t.id s.th with
  |none=>simp [fG,zH]
  |some p=>exact hqa p.1 p.2 hlk
 by_cases h30:t.st=3
 ·have hnot:¬(t.st≠3∧t.st≠4):=λh=>h.1 h30;simp only [hnot,if_false] at hk;have hg:=oh (K:=λout h=>out = .ret (.tu [fz (gb s t.id),.d (.bool (ke s t.id))])∧h=jn s) s t.id hq ⟨rfl,rfl⟩;unfold gb ke at hg;cases hlk:bN t.id s.th with
  |none=>
   rw [hlk] at hg hk;refine s72.go (keep:=false) rfl ?_
   repeat' ((conv=>whnf);first | exact zf | refine (bp (bw ?_):eQ _ (eQ (kG _ _ _ _ 16 _ _ _ _ _ _ _) _)) | refine zm ?_ | refine zc h1 ?_ | refine ⟨_,_,hg,?_⟩ | refine zt ?_ | refine zu ?_ | intro _)
   exact hk
  |some p=>
   obtain ⟨i,o⟩:=p;rw [hlk] at hg hk
   by_cases h6:o.k=6
   ·have hset:=λ{K:Out→H→Prop}=>lB (K:=K) s t.id i { o with v:=v,ex:=ex,dn:=true } o hlk rfl rfl (hqa i o hlk);dsimp only at hk;rw [if_pos h6] at hk;refine s72.go (keep:=false) rfl ?_
    repeat' ((conv=>whnf);first | exact zf | refine (bp (bw ?_):eQ _ (eQ (kG _ _ _ _ 16 _ _ _ _ _ _ _) _)) | refine zm ?_ | refine zc h1 ?_ | refine ⟨_,_,hg,?_⟩ | refine (.inr ?_:(∃_,_)∨_) | refine (hset ?_) | refine zt ?_ | refine zu ?_ | intro _)
    exact hk
   ·simp only [h6,if_false] at hk;refine s72.go (keep:=false) rfl ?_
    repeat' ((conv=>whnf);first | exact zf | refine (bp (bw ?_):eQ _ (eQ (kG _ _ _ _ 16 _ _ _ _ _ _ _) _)) | refine zm ?_ | refine zc h1 ?_ | refine ⟨_,_,hg,?_⟩ | refine zt ?_ | refine zu ?_ | intro _)
    exact hk
 ·by_cases h3:t.st=4
  ·have hnot:¬(t.st≠3∧t.st≠4):=λh=>h.2 h3;simp only [hnot,if_false] at hk;have hg:=oh (K:=λout h=>out = .ret (.tu [fz (gb s t.id),.d (.bool (ke s t.id))])∧h=jn s) s t.id hq ⟨rfl,rfl⟩;unfold gb ke at hg;cases hlk:bN t.id s.th with
   |none=>
    rw [hlk] at hg hk;refine s72.go (keep:=false) rfl ?_
    repeat' ((conv=>whnf);first | exact zf | refine (bp (bw ?_):eQ _ (eQ (kG _ _ _ _ 16 _ _ _ _ _ _ _) _)) | refine zm ?_ | refine zc h1 ?_ | refine ⟨_,_,hg,?_⟩ | refine zt ?_ | refine zu ?_ | intro _)
    exact hk
   |some p=>
    obtain ⟨i,o⟩:=p;rw [hlk] at hg hk
    by_cases h6:o.k=6
    ·have hset:=λ{K:Out→H→Prop}=>lB (K:=K) s t.id i { o with v:=v,ex:=ex,dn:=true } o hlk rfl rfl (hqa i o hlk);dsimp only at hk;rw [if_pos h6] at hk;refine s72.go (keep:=false) rfl ?_
     repeat' ((conv=>whnf);first | exact zf | refine (bp (bw ?_):eQ _ (eQ (kG _ _ _ _ 16 _ _ _ _ _ _ _) _)) | refine zm ?_ | refine zc h1 ?_ | refine ⟨_,_,hg,?_⟩ | refine (.inr ?_:(∃_,_)∨_) | refine (hset ?_) | refine zt ?_ | refine zu ?_ | intro _)
     exact hk
    ·simp only [h6,if_false] at hk;refine s72.go (keep:=false) rfl ?_
     repeat' ((conv=>whnf);first | exact zf | refine (bp (bw ?_):eQ _ (eQ (kG _ _ _ _ 16 _ _ _ _ _ _ _) _)) | refine zm ?_ | refine zc h1 ?_ | refine ⟨_,_,hg,?_⟩ | refine zt ?_ | refine zu ?_ | intro _)
     exact hk
  ·have hyes:t.st≠3∧t.st≠4:=⟨h30,h3⟩
   rw [if_pos hyes] at hk;refine s72.go (keep:=false) rfl ?_
   repeat' ((conv=>whnf);first | exact zf | refine zm ?_ | refine zc h1 ?_ | refine zt ?_ | refine zu ?_ | intro _)
   exact hk
def kJ (c:Ca) (s:bq) (k:Co) (code:Int):Ca×Bool×bq:=
 let r:=raise k code c.tr
 let c':Ca:={ c with t:={ c.t with c:=r.1 } }
 bif r.2.k==2 then nN c' s r.2.v true else (c',false,s)
theorem Hv {K:Out→H→Prop} (c:Ca) (s:bq) (k:Co) (code:Int) (hf:k.fr.length<1000000000) (hst:k.st.length<1000000000) (hqa:∀i o,bN c.t.id s.th=some (i,o)→o.va.q.length<100000000) (hk:K (.ret (.tu [])) (RU (kJ c s k code))) :
  Sat Tryz.prog 75 [.p 0 0,gN k,.d (.int .i64 code)] (eM c s) K:=by
 have h1:=qc k code c.tr hf hst;unfold kJ at hk;generalize raise k code c.tr=r at h1 hk;have h2:=λ{K:Out→H→Prop}=>Ft (K:=K) { c with t:={ c.t with c:=r.1 } } s r.2.v true hqa;cases hb:r.2.k==2 with
 |true=>
  simp only [hb,cond_true] at hk;refine s75.go (keep:=false) rfl ?_
  repeat' ((conv=>whnf);first | exact zf | refine zm ?_ | refine zc h1 ?_ | refine (.inr ?_:(∃_,_)∨_) | refine (h2 ?_) | refine zt ?_ | refine zu ?_ | intro _)
  exact hk
 |false=>
  simp only [hb,cond_false] at hk;refine s75.go (keep:=false) rfl ?_
  repeat' ((conv=>whnf);first | exact zf | refine zm ?_ | refine zc h1 ?_ | refine zt ?_ | refine zu ?_ | intro _)
  exact hk
def nD (n:Int):V:=.fc 2000239 [.d (.int .i64 n)]
theorem jW {K:Out→H→Prop} (n:Int) (hk:K (.fW (nD n)) []):Sat Tryz.prog 249 [.d (.int .i64 n)] [] K:=by
 refine s249.go (keep:=false) rfl ?_
 repeat' ((conv=>whnf);first | exact zf | refine zm ?_ | intro _)
 exact hk
theorem gT {K:Out→H→Prop} (hk:K (.ret (.tu [])) []):Sat Tryz.prog 236 [.d (.int .i64 0)] [] K:=by
 refine s236.go (keep:=false) rfl ?_
 repeat' ((conv=>whnf);first | exact zf | refine zm ?_ | refine zt ?_ | refine zu ?_ | intro _)
 exact hk
theorem j5 {K:Out→H→Prop} (n:Int) (hn:n≠0) (hk:K (.fW (nD n)) []):Sat Tryz.prog 236 [.d (.int .i64 n)] [] K:=by
 refine s236.go (keep:=false) rfl ?_
 repeat' ((conv=>whnf);first | exact zf | refine zm ?_ | refine (jW n ?_) | refine zt ?_ | refine zu ?_ | intro _)
 exact hk
theorem lq {K:Out→H→Prop} (c:Ca) (s:bq) (l:Lb) (hs:iv c.t.g) (hl:cL l) (hj:cL (dU c.t.g.cur l)) (he:dM c.t.g l=0) (hk:K (.ret (.tu [])) (eM { c with t:={ c.t with g:=cu c.t.g l } } s)):Sat Tryz.prog 234 [.p 0 0,jr l] (eM c s) K:=by
 have h1:=w8 c.t.g l hs hl hj;rw [he] at h1;refine s234.go (keep:=false) rfl ?_
 repeat' ((conv=>whnf);first | exact zf | refine zm ?_ | refine zc h1 ?_ | refine (gT ?_) | intro _)
 exact hk
theorem lu {K:Out→H→Prop} (c:Ca) (s:bq) (l:Lb) (hs:iv c.t.g) (hl:cL l) (hj:cL (dU c.t.g.cur l)) (he:dM c.t.g l≠0) (hk:K (.fW (nD (dM c.t.g l))) (eM c s)):Sat Tryz.prog 234 [.p 0 0,jr l] (eM c s) K:=by
 have h1:=w8 c.t.g l hs hl hj;refine s234.go (keep:=false) rfl ?_
 repeat' ((conv=>whnf);first | exact zf | refine zm ?_ | refine zc h1 ?_ | refine (j5 _ he ?_) | intro _)
 exact hk
theorem B9 {K:Out→H→Prop} (c:Ca) (s:bq) (l:Lb) (hs:iv c.t.g) (hl:cL l) (he:bR c.t.g l=0) (hk:K (.ret (.tu [])) (eM { c with t:={ c.t with g:=sX c.t.g l } } s)):Sat Tryz.prog 244 [.p 0 0,jr l] (eM c s) K:=by
 have h1:=Bb c.t.g l hs hl;rw [he] at h1;refine s244.go (keep:=false) rfl ?_
 repeat' ((conv=>whnf);first | exact zf | refine zm ?_ | refine zc h1 ?_ | refine (gT ?_) | intro _)
 exact hk
theorem Ba {K:Out→H→Prop} (c:Ca) (s:bq) (l:Lb) (hs:iv c.t.g) (hl:cL l) (he:bR c.t.g l≠0) (hk:K (.fW (nD (bR c.t.g l))) (eM c s)):Sat Tryz.prog 244 [.p 0 0,jr l] (eM c s) K:=by
 have h1:=Bb c.t.g l hs hl;refine s244.go (keep:=false) rfl ?_
 repeat' ((conv=>whnf);first | exact zf | refine zm ?_ | refine zc h1 ?_ | refine (j5 _ he ?_) | intro _)
 exact hk
theorem vQ {K:Out→H→Prop} (c:Ca) (s:bq) (p:List Nat) (n:Nat) (hp:c.t.pa=cr p) (hm:c.t.ma=n) (h0:p≠[]) (hl:p.length<24) (hs:∀n∈p,n<100) (hn:n<100) (hr:1≤c.t.ro) (hr2:c.t.ro<1000000000) (hk:K (.ret (.d (.str (cr (p ++ [n]))))) (eM { c with t:=j4 c.t } s)) :
  Sat Tryz.prog 250 [.p 0 0] (eM c s) K:=by
 have h1:=qg c.t p n hp hm h0 hl hs hn hr hr2;refine s250.go (keep:=false) rfl ?_
 repeat' ((conv=>whnf);first | exact zf | refine zm ?_ | refine zc h1 ?_ | refine zt ?_ | refine zu ?_ | intro _)
 exact hk
theorem Az {K:Out→H→Prop} (c:Ca) (s:bq) (hr:c.t.ro<1) (hk:K (.fW (nD (-5))) (eM c s)):Sat Tryz.prog 250 [.p 0 0] (eM c s) K:=by
 have h1:=xN c.t hr;refine s250.go (keep:=false) rfl ?_
 repeat' ((conv=>whnf);first | exact zf | refine zm ?_ | refine zc h1 ?_ | refine (jW _ ?_) | refine zt ?_ | refine zu ?_ | intro _)
 exact hk
def sj (c:Ca) (nm:List UInt8) (o:Ob):Ca:={ c with t:={ c.t with c:=jH c.t.c ⟨o.k,0,nm,o.l.s,o.l.i⟩ } }
theorem Nb {K:Out→H→Prop} (c:Ca) (s:bq) (kp:List Nat) (o:Ob) (hkp:gK kp) (hs:lW s) (hl:cL o.l) (h3:3≤o.k) (h7:o.k≤7) (hr:jv o.l=true) (hq:o.va.q.length<100000000) (hf:bN (cr kp) s.th=none) (hst:c.t.c.st.length<1000000000)
  (hk:∀b,K (.ret (.tu [])) (eM (sj c (cr kp) o) (qZ s kp o b))):Sat Tryz.prog 252 [.p 0 0,.d (.str (cr kp)),fz o] (eM c s) K:=by
 have h1:=λ{K:Out→H→Prop}=>Gh (K:=K) s kp o hkp hs hl h3 h7 hr hq hf;have h2:=λ{K:Out→H→Prop} (b:Option Nat)=>jO (K:=K) c (qZ s kp o b) ⟨o.k,0,cr kp,o.l.s,o.l.i⟩ hst;refine s252.go (keep:=false) rfl ?_
 repeat' ((conv=>whnf);first | exact zf | refine zm ?_ | refine (.inr ?_:(∃_,_)∨_) | refine (h1 (λb=>?_)) | refine (h2 _ ?_) | intro _)
 exact hk _
theorem JT {K:Out→H→Prop} (c:Ca) (s:bq) (p:List Nat) (n:Nat) (o:Ob) (hg:iv c.t.g) (hw:bR c.t.g o.l=0) (hp:c.t.pa=cr p) (hm:c.t.ma=n) (h0:p≠[]) (hl:p.length<24) (hps:∀n∈p,n<100) (hn:n<100) (hr:1≤c.t.ro) (hr2:c.t.ro<1000000000)
  (hkp:gK (p ++ [n])) (hs:lW s) (hol:cL o.l) (h3:3≤o.k) (h7:o.k≤7) (hro:jv o.l=true) (hq:o.va.q.length<100000000) (hf:bN (cr (p ++ [n])) s.th=none) (hst:c.t.c.st.length<1000000000)
  (hk:∀b,K (.ret (.tu [])) (eM (sj { c with t:=j4 c.t } (cr (p ++ [n])) o) (qZ s (p ++ [n]) o b))):Sat Tryz.prog 237 [.p 0 0,fz o] (eM c s) K:=by
 have h1:=fL c.t.g o.l hg hol;rw [hw] at h1;have h2:=λ{K:Out→H→Prop}=>vQ (K:=K) c s p n hp hm h0 hl hps hn hr hr2;have h4:=λ{K:Out→H→Prop}=>Nb (K:=K) { c with t:=j4 c.t } s (p ++ [n]) o hkp hs hol h3 h7 hro hq hf hst;refine s237.go (keep:=false) rfl ?_
 repeat' ((conv=>whnf);first | exact zf | refine zm ?_ | refine zc h1 ?_ | intro _)
 conv=>whnf
 refine gT ?_
 repeat' ((conv=>whnf);first | exact zf | refine (dp ?_) | refine zm ?_ | refine (.inr ?_:(∃_,_)∨_) | refine (h2 ?_) | refine (h4 (λb=>?_)) | refine And.intro ?_ ?_ | intro _)
 all_goals exact hk _
end Go.Proofs.YtjpgfgajkjhonaaGreatDoor
namespace Go.Proofs.YtjpgfgajkjhonaaGreatDoor
open Go.Vx
set_option maxRecDepth 100000
def sr (f:Nat) (m:Mh) (st st':List Va) (ts:List Tr) (tk:List Va) (bW:List Fr):Prop:=
 ∀K:Out→H→Prop,K (.ret (.tu [])) [.cells (iE m (.d (.sl 5 (bW.map bQ))) st' ts (gj tk) cD false 0),.no] →
  Sat Tryz.prog f [.p 0 0] [.cells (iE m (.os 1) st ts (gj tk) cD false 0),.rows 5 (bW.map bQ)] K
def ik (f:Nat) (m:Mh) (st:List Va) (ts ts':List Tr) (tk:List Va) (bW frs':List Fr) (wr:Bool) (cd:Int):Prop:=
 ∀K:Out→H→Prop,K (.ret (.tu [])) [.cells (iE m (.os 1) st ts' (gj tk) cD wr cd),.rows 5 (frs'.map bQ)] →
  Sat Tryz.prog f [.p 0 0] [.cells (iE m (.os 1) st ts (gj tk) cD false 0),.rows 5 (bW.map bQ)] K
theorem MQ (m:Mh) (st:List Va) (ts:List Tr) (tk:List Va) (bW:List Fr) (v:Va) (hs:st.length<1000000000) (h0:0≤m.o.a) (hv:m.im.cs[m.o.a.toNat]? = some v):sr 145 m st (st ++ [v]) ts tk bW:=by
 intro K hk;refine s145.go (keep:=false) rfl ?_;have hrow:(m.im.cs.map cE)[m.o.a.toNat]? = some (cE v):=by simp [hv]
 repeat' ((conv=>whnf);first | exact zf | refine zm ?_ | intro _)
 refine ⟨cE v,⟨h0,hrow,rfl⟩,?_⟩
 repeat' ((conv=>whnf);first | exact zf | refine zm ?_ | refine (.inr ?_:(∃_,_)∨_) | refine lL m st ts tk cD false 0 bW v hs ?_ | intro _)
 exact hk
theorem Mq (m:Mh) (st:List Va) (ts:List Tr) (tk:List Va) (bW:List Fr) (f:Fr) (v:Va) (hs:st.length<1000000000) (hl:0<bW.length) (hlf:bW.length<1000000000) (hf:bW[bW.length - 1]? = some f) (h0:0≤m.o.a) (hv:f.vars[m.o.a.toNat]? = some v):sr 146 m st (st ++ [v]) ts tk bW:=by
 intro K hk;refine s146.go (keep:=false) rfl ?_;have hrow:(bW.map bQ)[(((bW.map bQ).length:Int) - 1).toNat]? = some (bQ f):=by
  rw [aC,aL];have e:((bW.length:Int) - 1).toNat=bW.length - 1:=by omega
  rw [e,hf];rfl
 have hrow2:(f.vars.map cE)[m.o.a.toNat]? = some (cE v):=by simp [hv]
 repeat' ((conv=>whnf);first | exact zf | refine (bp (bw ?_):eQ _ (eQ (kG _ _ _ _ 167 _ _ _ _ _ _ _) _)) | refine zm ?_ | refine ⟨_,_,tp m st ts tk cD false 0 _ (by simp;omega) (by simp;omega) (And.intro rfl rfl),?_⟩ | intro _)
 refine ⟨bQ f,hrow,?_⟩
 repeat' ((conv=>whnf);first | exact zf | refine zm ?_ | intro _)
 refine ⟨cE v,⟨h0,hrow2,rfl⟩,?_⟩
 repeat' ((conv=>whnf);first | exact zf | refine zm ?_ | refine (.inr ?_:(∃_,_)∨_) | refine lL m st ts tk cD false 0 bW v hs ?_ | intro _)
 exact hk
theorem Pl (m:Mh) (st:List Va) (ts:List Tr) (tk:List Va) (bW:List Fr):ik 148 m st ts ts tk bW bW false 0:=by
 intro K hk;refine s148.go (keep:=false) rfl ?_
 repeat' ((conv=>whnf);first | exact zf | refine zm ?_ | intro _)
 exact hk
theorem RJ (m:Mh) (st:List Va) (ts:List Tr) (a:Va) (bW:List Fr) (hs:st.length<900000000):sr 149 m st ((st ++ [a]) ++ [a]) ts [a] bW:=by
 intro K hk;refine s149.go (keep:=false) rfl ?_
 repeat' ((conv=>whnf);first | exact zf | refine zm ?_ | refine (.inr ?_:(∃_,_)∨_) | refine lL m st ts [a] cD false 0 bW a (by omega) ?_ | refine zS m (st ++ [a]) ts [a] cD false 0 bW a (by simp;omega) ?_ | refine ⟨_,⟨by decide,rfl,rfl⟩,?_⟩ | refine ⟨_,rfl,?_⟩ | intro _)
 exact hk
theorem Lj (m:Mh) (st:List Va) (ts:List Tr) (a b:Va) (bW:List Fr) (hs:st.length<900000000):sr 150 m st ((st ++ [b]) ++ [a]) ts [a,b] bW:=by
 intro K hk;refine s150.go (keep:=false) rfl ?_
 repeat' ((conv=>whnf);first | exact zf | refine zm ?_ | refine (.inr ?_:(∃_,_)∨_) | refine lL m st ts [a,b] cD false 0 bW b (by omega) ?_ | refine zS m (st ++ [b]) ts [a,b] cD false 0 bW a (by simp;omega) ?_ | refine ⟨_,⟨by decide,rfl,rfl⟩,?_⟩ | refine ⟨_,rfl,?_⟩ | intro _)
 exact hk
theorem Sz (m:Mh) (st:List Va) (ts:List Tr) (a b:Va) (bW:List Fr) (hs:st.length<900000000):sr 152 m st (st ++ [iK (NI a b)]) ts [a,b] bW:=by
 intro K hk;refine s152.go (keep:=false) rfl ?_
 repeat' ((conv=>whnf);first | exact zf | refine zm ?_ | refine zc (A2 (NI a b)) ?_ | refine (.inr ?_:(∃_,_)∨_) | refine lL m st ts [a,b] cD false 0 bW (iK (NI a b)) (by omega) ?_ | refine ⟨_,⟨by decide,rfl,rfl⟩,?_⟩ | refine ⟨_,rfl,?_⟩ | intro _)
 exact hk
theorem Ma (m:Mh) (st:List Va) (ts:List Tr) (a b:Va) (bW:List Fr) (n:Int) (hs:st.length<1000000000) (hc:7≤m.o.c∧m.o.c≤13) (hn:oV m.o.c a.n b.n=lH n):DZ 216 [jT a,jT b] m st (st ++ [num n]) ts [a,b] bW:=by
 intro K hk;have h:=RN m.o.c a.n b.n hc;rw [hn] at h;refine s216.go (keep:=false) rfl ?_
 repeat' ((conv=>whnf);first | exact zf | refine zm ?_ | refine zc h ?_ | refine zc (mZ n) ?_ | refine (.inr ?_:(∃_,_)∨_) | refine lL m st ts [a,b] cD false 0 bW (num n) hs ?_ | intro _)
 exact hk
theorem M9 (m:Mh) (st:List Va) (ts:List Tr) (a b:Va) (bW:List Fr) (hc:7≤m.o.c∧m.o.c≤13) (hn:oV m.o.c a.n b.n=pQ):u6 216 [jT a,jT b] m st ts [a,b] bW bW true (-2):=by
 intro K hk;have h:=RN m.o.c a.n b.n hc;rw [hn] at h;refine s216.go (keep:=false) rfl ?_
 repeat' ((conv=>whnf);first | exact zf | refine zm ?_ | refine zc h ?_ | refine (.inr ?_:(∃_,_)∨_) | refine mR m st ts [a,b] cD false 0 (bW.map bQ) (-2) ?_ | intro _)
 exact hk
theorem C7 (m:Mh) (st:List Va) (ts:List Tr) (a b:Va) (bW:List Fr) (n:Int) (hs:st.length<1000000000) (hc:7≤m.o.c∧m.o.c≤13) (ha:a.k=1) (hb:b.k=1) (hn:oV m.o.c a.n b.n=lH n):sr 151 m st (st ++ [num n]) ts [a,b] bW:=by
 intro K hk;refine s151.go (keep:=false) rfl ?_
 repeat' ((conv=>whnf);first | exact zf | refine zm ?_ | refine (.inr ?_:(∃_,_)∨_) | refine yW 216 rfl m st (st ++ [num n]) ts a b 1 bW ha hb (Ma m st ts a b bW n hs hc hn) ?_ | intro _)
 exact hk
theorem C6 (m:Mh) (st:List Va) (ts:List Tr) (a b:Va) (bW:List Fr) (hc:7≤m.o.c∧m.o.c≤13) (ha:a.k=1) (hb:b.k=1) (hn:oV m.o.c a.n b.n=pQ):ik 151 m st ts ts [a,b] bW bW true (-2):=by
 intro K hk;refine s151.go (keep:=false) rfl ?_
 repeat' ((conv=>whnf);first | exact zf | refine zm ?_ | refine (.inr ?_:(∃_,_)∨_) | refine Lf 216 rfl m st ts a b 1 bW bW true (-2) ha hb (M9 m st ts a b bW hc hn) ?_ | intro _)
 exact hk
theorem C5 (m:Mh) (st:List Va) (ts:List Tr) (a b:Va) (bW:List Fr) (hab:¬(a.k=1∧b.k=1)):ik 151 m st ts ts [a,b] bW bW true (-1):=by
 intro K hk;refine s151.go (keep:=false) rfl ?_
 repeat' ((conv=>whnf);first | exact zf | refine zm ?_ | refine (.inr ?_:(∃_,_)∨_) | refine yV 216 m st ts a b 1 bW hab ?_ | intro _)
 exact hk
theorem Dt (m:Mh) (st:List Va) (ts:List Tr) (a:Va) (bW:List Fr):u6 224 [jT a] m st ts [a] bW bW true a.n:=by
 intro K hk;refine s224.go (keep:=false) rfl ?_
 repeat' ((conv=>whnf);first | exact zf | refine zm ?_ | refine (.inr ?_:(∃_,_)∨_) | refine mR m st ts [a] cD false 0 (bW.map bQ) a.n ?_ | intro _)
 exact hk
theorem Ds (m:Mh) (st:List Va) (ts:List Tr) (a:Va) (bW:List Fr) (ha:a.k=1):ik 158 m st ts ts [a] bW bW true a.n:=by
 intro K hk;refine s158.go (keep:=false) rfl ?_
 repeat' ((conv=>whnf);first | exact zf | refine zm ?_ | refine (.inr ?_:(∃_,_)∨_) | refine zC 224 rfl m st ts a 1 bW bW true a.n ha (Dt m st ts a bW) ?_ | intro _)
 exact hk
theorem Dr (m:Mh) (st:List Va) (ts:List Tr) (a:Va) (bW:List Fr) (ha:¬a.k=1):ik 158 m st ts ts [a] bW bW true (-1):=by
 intro K hk;refine s158.go (keep:=false) rfl ?_
 repeat' ((conv=>whnf);first | exact zf | refine zm ?_ | refine (.inr ?_:(∃_,_)∨_) | refine zB 224 m st ts a 1 bW ha ?_ | intro _)
 exact hk
end Go.Proofs.YtjpgfgajkjhonaaGreatDoor
namespace Go.Proofs.YtjpgfgajkjhonaaGreatDoor
open Go.Vx
theorem ug {K:Out→H→Prop} (m:Mh) (st:List Va) (ts:List Tr) (tk:List Va) (u:Ou) (wr:Bool) (cd:Int) (bW:List Fr) (f:Fr) (hl:0<bW.length) (hlf:bW.length<1000000000) (hf:bW[bW.length - 1]? = some f)
  (hk:K (.ret (.e (bQ f) 0)) [.cells (iE m (.d (.sl 5 (bW.map bQ))) st ts (gj tk) u wr cd)]) :
  Sat Tryz.prog 167 [.p 0 0] [.cells (iE m (.d (.sl 5 (bW.map bQ))) st ts (gj tk) u wr cd)] K:=by
 have hrow:(bW.map bQ)[(((bW.map bQ).length:Int) - 1).toNat]? = some (bQ f):=by
  rw [aC,aL];have e:((bW.length:Int) - 1).toNat=bW.length - 1:=by omega
  rw [e,hf];rfl
 refine s167.go (keep:=false) rfl ?_
 repeat' ((conv=>whnf);first | exact zf | refine zm ?_ | intro _)
 refine ⟨bQ f,⟨by simp;omega,hrow,rfl⟩,?_⟩
 repeat' ((conv=>whnf);first | exact zf | refine zm ?_ | intro _)
 exact hk
theorem DE {K:Out→H→Prop} (m:Mh) (st:List Va) (ts:List Tr) (tk:List Va) (u:Ou) (wr:Bool) (cd:Int) (rows:List (List D)) (n:Int)
  (hk:K (.ret (.tu [])) [.cells (iE m (.d (.sl 5 rows)) st ts (gj tk) u true n)]) :
  Sat Tryz.prog 218 [.p 0 0,.d (.int .i64 n)] [.cells (iE m (.d (.sl 5 rows)) st ts (gj tk) u wr cd)] K:=by
 refine s218.go (keep:=false) rfl ?_
 repeat' ((conv=>whnf);first | exact zf | refine zm ?_ | intro _)
 exact hk
def eb (bW:List Fr) (f:Fr):List Fr:=bW.set (bW.length - 1) f
theorem mK {bW:List Fr} (hl:0<bW.length) (f:Fr):(bW.map bQ).set (((bW.map bQ).length:Int) - 1).toNat (bQ f)=(eb bW f).map bQ:=by
 rw [eb,fQ,aL];congr 1;omega
theorem mJ {bW:List Fr} {f:Fr} (hl:0<bW.length) (hf:bW[bW.length - 1]? = some f):(bW.map bQ)[(((bW.map bQ).length:Int) - 1).toNat]? = some (bQ f):=by
 rw [aC,aL];have e:((bW.length:Int) - 1).toNat=bW.length - 1:=by omega
 rw [e,hf];rfl
theorem F3 (m:Mh) (st:List Va) (ts:List Tr) (tk:List Va) (bW:List Fr) (f:Fr) (hl:0<bW.length) (hlf:bW.length<1000000000) (hf:bW[bW.length - 1]? = some f) :
  ik 154 m st ts ts tk bW (eb bW { f with pc:=m.o.a }) false 0:=by
 intro K hk;have hrow:=mJ hl hf;rw [←mK hl] at hk;refine s154.go (keep:=false) rfl ?_
 repeat' ((conv=>whnf);first | exact zf | refine (bp (bw ?_):eQ _ (eQ (kG _ _ _ _ 167 _ _ _ _ _ _ _) _)) | refine zm ?_ | refine ⟨_,_,tp m st ts tk cD false 0 _ (by simp;omega) (by simp;omega) (And.intro rfl rfl),?_⟩ | intro _)
 refine ⟨bQ f,hrow,⟨rfl,rfl,rfl⟩,?_⟩
 repeat' ((conv=>whnf);first | exact zf | refine zm ?_ | intro _)
 exact hk
def xU (a:Int) (ma:Int):Int:=jS .and .u8 ma (IntKind.u8.wrap (jS .and .i64 a 255))
theorem Ms (m:Mh) (st:List Va) (ts:List Tr) (tk:List Va) (bW:List Fr) (f:Fr) (hl:0<bW.length) (hlf:bW.length<1000000000) (hf:bW[bW.length - 1]? = some f) :
  ik 165 m st ts ts tk bW (eb bW { f with ma:=xU m.o.a f.ma }) false 0:=by
 intro K hk;have hrow:=mJ hl hf;rw [←mK hl] at hk;refine s165.go (keep:=false) rfl ?_
 repeat' ((conv=>whnf);first | exact zf | refine (bp (bw ?_):eQ _ (eQ (kG _ _ _ _ 167 _ _ _ _ _ _ _) _)) | refine zm ?_ | refine ⟨_,_,tp m st ts tk cD false 0 _ (by simp;omega) (by simp;omega) (And.intro rfl rfl),?_⟩ | intro _)
 refine ⟨bQ f,hrow,?_⟩
 repeat' ((conv=>whnf);first | exact zf | refine zm ?_ | refine .inr ?_ | intro _)
 refine ⟨bQ f,hrow,⟨rfl,rfl,rfl⟩,?_⟩
 repeat' ((conv=>whnf);first | exact zf | refine zm ?_ | intro _)
 exact hk
theorem Po (m:Mh) (st:List Va) (ts:List Tr) (tk:List Va) (bW:List Fr) (f:Fr) (hs:st.length<1000000000) (hl:0<bW.length) (hlf:bW.length<1000000000) (hf:bW[bW.length - 1]? = some f) (hma:0≤f.ma∧f.ma≤255) :
  sr 166 m st (st ++ [num f.ma]) ts tk bW:=by
 intro K hk;have hrow:=mJ hl hf;refine s166.go (keep:=false) rfl ?_
 repeat' ((conv=>whnf);first | exact zf | refine zm ?_ | refine (.inr ?_:(∃_,_)∨_) | refine tp m st ts tk cD false 0 _ (by simp;omega) (by simp;omega) ?_ | intro _)
 refine ⟨bQ f,hrow,?_⟩
 repeat' ((conv=>whnf);first | exact zf | refine zm ?_ | refine zc (mZ f.ma) ?_ | refine (.inr ?_:(∃_,_)∨_) | refine lL m st ts tk cD false 0 bW (num f.ma) hs ?_ | intro _)
 exact hk
theorem zd (m:Mh) (st:List Va) (ts:List Tr) (a:Va) (bW:List Fr) (f:Fr) (hl:0<bW.length) (hlf:bW.length<1000000000) (hf:bW[bW.length - 1]? = some f) (hn:a.n≠0) :
  u6 222 [jT a] m st ts [a] bW (eb bW { f with pc:=m.o.a }) false 0:=by
 intro K hk;refine s222.go (keep:=false) rfl ?_
 repeat' ((conv=>whnf);first | exact zf | refine zm ?_ | intro _)
 refine aW (λ_=>?_) (λh=>absurd (by simpa using h) hn)
 repeat' ((conv=>whnf);first | exact zf | refine zm ?_ | refine (.inr ?_:(∃_,_)∨_) | refine F3 m st ts [a] bW f hl hlf hf _ ?_ | intro _)
 exact hk
theorem zb (m:Mh) (st:List Va) (ts:List Tr) (a:Va) (bW:List Fr) (hn:a.n=0) :
  u6 222 [jT a] m st ts [a] bW bW false 0:=by
 intro K hk;refine s222.go (keep:=false) rfl ?_
 repeat' ((conv=>whnf);first | exact zf | refine zm ?_ | intro _)
 refine aW (λh=>absurd hn (by simpa using h)) (λ_=>?_)
 repeat' ((conv=>whnf);first | exact zf | refine zm ?_ | intro _)
 exact hk
theorem Cs (m:Mh) (st:List Va) (ts:List Tr) (a:Va) (bW:List Fr) (f:Fr) (hl:0<bW.length) (hlf:bW.length<1000000000) (hf:bW[bW.length - 1]? = some f) (ha:a.k=1) (hn:a.n≠0) :
  ik 155 m st ts ts [a] bW (eb bW { f with pc:=m.o.a }) false 0:=by
 intro K hk;refine s155.go (keep:=false) rfl ?_
 repeat' ((conv=>whnf);first | exact zf | refine zm ?_ | refine (.inr ?_:(∃_,_)∨_) | refine zC 222 rfl m st ts a 1 bW _ false 0 ha (zd m st ts a bW f hl hlf hf hn) ?_ | intro _)
 exact hk
theorem Cr (m:Mh) (st:List Va) (ts:List Tr) (a:Va) (bW:List Fr) (ha:a.k=1) (hn:a.n=0) :
  ik 155 m st ts ts [a] bW bW false 0:=by
 intro K hk;refine s155.go (keep:=false) rfl ?_
 repeat' ((conv=>whnf);first | exact zf | refine zm ?_ | refine (.inr ?_:(∃_,_)∨_) | refine zC 222 rfl m st ts a 1 bW bW false 0 ha (zb m st ts a bW hn) ?_ | intro _)
 exact hk
theorem Cq (m:Mh) (st:List Va) (ts:List Tr) (a:Va) (bW:List Fr) (ha:¬a.k=1):ik 155 m st ts ts [a] bW bW true (-1):=by
 intro K hk;refine s155.go (keep:=false) rfl ?_
 repeat' ((conv=>whnf);first | exact zf | refine zm ?_ | refine (.inr ?_:(∃_,_)∨_) | refine zB 222 m st ts a 1 bW ha ?_ | intro _)
 exact hk
theorem Mf (m:Mh) (st:List Va) (ts:List Tr) (a:Va) (bW:List Fr) (hs:st.length<1000000000):DZ 221 [jT a] m st (st ++ [iK (a.n==0)]) ts [a] bW:=by
 intro K hk;refine s221.go (keep:=false) rfl ?_
 repeat' ((conv=>whnf);first | exact zf | refine zm ?_ | refine zc (A2 (a.n==0)) ?_ | refine (.inr ?_:(∃_,_)∨_) | refine lL m st ts [a] cD false 0 bW (iK (a.n==0)) hs ?_ | intro _)
 exact hk
theorem Me (m:Mh) (st:List Va) (ts:List Tr) (a:Va) (bW:List Fr) (hs:st.length<1000000000) (ha:a.k=1):sr 153 m st (st ++ [iK (a.n==0)]) ts [a] bW:=by
 intro K hk;refine s153.go (keep:=false) rfl ?_
 repeat' ((conv=>whnf);first | exact zf | refine zm ?_ | refine (.inr ?_:(∃_,_)∨_) | refine M1 221 rfl m st _ ts a 1 bW ha (Mf m st ts a bW hs) ?_ | intro _)
 exact hk
theorem Md (m:Mh) (st:List Va) (ts:List Tr) (a:Va) (bW:List Fr) (ha:¬a.k=1):ik 153 m st ts ts [a] bW bW true (-1):=by
 intro K hk;refine s153.go (keep:=false) rfl ?_
 repeat' ((conv=>whnf);first | exact zf | refine zm ?_ | refine (.inr ?_:(∃_,_)∨_) | refine zB 221 m st ts a 1 bW ha ?_ | intro _)
 exact hk
theorem B6 (l:List (List D)):bJ Tryz.prog 225 [.d (.sl 3 l)] (.cl 3 l):=by
 refine s225.go (keep:=false) rfl ?_
 repeat' ((conv=>whnf);first | exact zf | refine zm ?_ | intro _)
 exact cQ (congrArg (V.cl 3) (by simp))
theorem PT (m:Mh) (st:List Va) (ts:List Tr) (tk:List Va) (bW:List Fr) (ht:ts.length<1000000000) :
  ik 159 m st ts (ts ++ [⟨bW.length,st.length,m.o.a⟩]) tk bW bW false 0:=by
 intro K hk;refine s159.go (keep:=false) rfl ?_;have ht':(ts.map eC).length<1000000000:=by simpa using ht
 repeat' ((conv=>whnf);first | exact zf | refine zm ?_ | refine zc (B6 (ts.map eC)) ?_ | intro _)
 have e:(ts ++ [(⟨bW.length,st.length,m.o.a⟩:Tr)]).map eC=ts.map eC ++ [[.int .i64 ((bW.map bQ).length:Int),.int .i64 ((st.map cE).length:Int),.int .i64 m.o.a]]:=by simp [eC]
 unfold iE at hk;rw [e] at hk;exact hk
def Qk (m:Mh) (c0:V) (st:List Va) (c2:V) (tk:V) (u:Ou) (wr:Bool) (cd:Int):List V:=
  [.d (.sl 5 (m.im.cs.map cE)), .d (.sl 3 (m.im.fs.map da)), .d (.sl 5 (m.gA.fr.map bQ)), .d (.sl 5 (m.gA.st.map cE)), .d (.sl 3 (m.gA.tr.map eC)),
   c0,.d (.sl 5 (st.map cE)),c2,.d (.int .i64 m.o.c),.d (.int .i64 m.o.a),tk,.d (.int .i64 m.fr),.d (.int .i64 m.tr),
   .d (.int .i64 u.k),.d (.int .i64 u.v.k),.d (.int .i64 u.v.n),.d (.str u.v.nm),.d (.str u.v.ls),.d (.str u.v.li),.d (.int .i64 u.o.c),.d (.int .i64 u.o.a),.d (.bool wr),.d (.int .i64 cd)]
theorem NK {K:Out→H→Prop} (m:Mh) (st:List Va) (ts:List Tr) (tk:List Va) (bW:List Fr) (hn:m.tr<ts.length) (h0:0≤m.tr)
  (hk:K (.ret (.tu [])) [.cells (Qk m (.os 1) st (.cl 3 ((ts.take (ts.length - 1)).map eC)) (gj tk) cD false 0),.rows 5 (bW.map bQ)]) :
  Sat Tryz.prog 160 [.p 0 0] [.cells (iE m (.os 1) st ts (gj tk) cD false 0),.rows 5 (bW.map bQ)] K:=by
 refine s160.go (keep:=false) rfl ?_
 repeat' ((conv=>whnf);first | exact zf | refine zm ?_ | intro _)
 refine aW (λ_=>?_) (λh=>absurd h (by simp;omega));have e:((ts.map eC).take (((ts.map eC).length:Int) - 1).toNat).drop (0:Int).toNat=(ts.take (ts.length - 1)).map eC:=by
  rw [aL,←fX];show List.map eC _=_;congr 2;omega
 rw [←e] at hk
 repeat' ((conv=>whnf);first | exact zf | refine zm ?_ | refine zc (B6 _) ?_ | intro _)
 exact hk
theorem NJ {K:Out→H→Prop} (m:Mh) (st:List Va) (ts:List Tr) (tk:List Va) (bW:List Fr) (hn:¬m.tr<ts.length)
  (hk:K (.ret (.tu [])) [.cells (iE m (.os 1) st ts (gj tk) cD false 0),.rows 5 (bW.map bQ)]) :
  Sat Tryz.prog 160 [.p 0 0] [.cells (iE m (.os 1) st ts (gj tk) cD false 0),.rows 5 (bW.map bQ)] K:=by
 refine s160.go (keep:=false) rfl ?_
 repeat' ((conv=>whnf);first | exact zf | refine zm ?_ | intro _)
 refine aW (λh=>absurd h (by simp;omega)) (λ_=>?_)
 repeat' ((conv=>whnf);first | exact zf | refine zm ?_ | intro _)
 exact hk
theorem KM {K:Out→H→Prop} (m:Mh) (st:List Va) (ts:List Tr) (tk:List Va) (bW:List Fr) (f:Fr) (g:Fn) (hl:0<bW.length) (hlf:bW.length<1000000000) (htk:tk.length<1000000000) (hf:bW[bW.length - 1]? = some f) (h0:0≤m.o.a) (hg:m.im.fs[m.o.a.toNat]? = some g) (hy:dZ ⟨bW,st,ts⟩=true)
  (hk:K (.ret (.tu [])) [.cells (iE m (.d (.sl 5 ((ft ⟨bW,st,ts⟩ m.o.a g.vars tk f.ma).fr.map bQ))) st ts (gj tk) cD false 0),.no]) :
  Sat Tryz.prog 156 [.p 0 0] [.cells (iE m (.os 1) st ts (gj tk) cD false 0),.rows 5 (bW.map bQ)] K:=by
 have he:=kB ⟨bW,st,ts⟩ m.o.a g.vars tk f.ma hlf htk;simp only [lP,hy,cond_true] at he;have hrow:(m.im.fs.map da)[m.o.a.toNat]? = some (da g):=by simp [hg]
 refine s156.go (keep:=false) rfl ?_
 repeat' ((conv=>whnf);first | exact zf | refine iW [1] ?_ | refine (bp (bw ?_):eQ _ (eQ (kG _ _ _ _ 167 _ _ _ _ _ _ _) _)) | refine zm ?_ | refine zc he ?_ | refine ⟨_,_,ug m st ts tk cD false 0 bW f hl hlf hf (And.intro rfl rfl),?_⟩ | intro _)
 refine ⟨da g,⟨h0,hrow,rfl⟩,?_⟩
 repeat' ((conv=>whnf);first | exact zf | refine (bp (bw ?_):eQ _ (eQ (kG _ _ _ _ 167 _ _ _ _ _ _ _) _)) | refine zm ?_ | refine zc he ?_ | refine ⟨_,_,ug m st ts tk cD false 0 bW f hl hlf hf (And.intro rfl rfl),?_⟩ | intro _)
 exact hk
theorem KL {K:Out→H→Prop} (m:Mh) (st:List Va) (ts:List Tr) (tk:List Va) (bW:List Fr) (f:Fr) (g:Fn) (hl:0<bW.length) (hlf:bW.length<1000000000) (htk:tk.length<1000000000) (hf:bW[bW.length - 1]? = some f) (h0:0≤m.o.a) (hg:m.im.fs[m.o.a.toNat]? = some g) (hy:dZ ⟨bW,st,ts⟩=false)
  (hk:K (.ret (.tu [])) [.cells (iE m (.d (.sl 5 (bW.map bQ))) st ts (gj tk) cD true (-6)),.no]) :
  Sat Tryz.prog 156 [.p 0 0] [.cells (iE m (.os 1) st ts (gj tk) cD false 0),.rows 5 (bW.map bQ)] K:=by
 have he:=kB ⟨bW,st,ts⟩ m.o.a g.vars tk f.ma hlf htk;simp only [lP,hy,cond_false] at he;have hrow:(m.im.fs.map da)[m.o.a.toNat]? = some (da g):=by simp [hg]
 refine s156.go (keep:=false) rfl ?_
 repeat' ((conv=>whnf);first | exact zf | refine iW [1] ?_ | refine (bp (bw ?_):eQ _ (eQ (kG _ _ _ _ 167 _ _ _ _ _ _ _) _)) | refine zm ?_ | refine zc he ?_ | refine ⟨_,_,ug m st ts tk cD false 0 bW f hl hlf hf (And.intro rfl rfl),?_⟩ | intro _)
 refine ⟨da g,⟨h0,hrow,rfl⟩,?_⟩
 repeat' ((conv=>whnf);first | exact zf | refine (bp (bw ?_):eQ _ (eQ (kG _ _ _ _ 167 _ _ _ _ _ _ _) _)) | refine zm ?_ | refine zc he ?_ | refine ⟨_,_,ug m st ts tk cD false 0 bW f hl hlf hf (And.intro rfl rfl),?_⟩ | refine (.inr ?_:(∃_,_)∨_) | refine DE m st ts tk cD false 0 (bW.map bQ) (-6) ?_ | intro _)
 exact hk
theorem MG {K:Out→H→Prop} (m:Mh) (st:List Va) (ts:List Tr) (tk:List Va) (bW:List Fr) (hf:m.gA.fr.length<1000000000) (hs:m.gA.st.length<1000000000) (ht:m.gA.tr.length<1000000000) (hy:nP m.gA=true) (hn:((fm m.gA).fr.length:Int)≤m.fr)
  (hk:K (.ret (.tu [])) [.cells (iE m (.d (.sl 5 ((fm m.gA).fr.map bQ))) (fm m.gA).st (fm m.gA).tr (gj tk) ⟨1,qO m.gA,o0⟩ false 0),.rows 5 (bW.map bQ)]) :
  Sat Tryz.prog 157 [.p 0 0] [.cells (iE m (.os 1) st ts (gj tk) cD false 0),.rows 5 (bW.map bQ)] K:=by
 have he:=ET m.gA hf hs ht;simp only [CS,hy,cond_true] at he;refine s157.go (keep:=false) rfl ?_
 repeat' ((conv=>whnf);first | exact zf | refine zm ?_ | refine zc he ?_ | intro _)
 refine aW (λ_=>?_) (λh=>absurd h (by simp;omega))
 repeat' ((conv=>whnf);first | exact zf | refine zm ?_ | intro _)
 exact hk
theorem MF {K:Out→H→Prop} (m:Mh) (st:List Va) (ts:List Tr) (tk:List Va) (bW:List Fr) (hf:m.gA.fr.length<1000000000) (hs:m.gA.st.length<1000000000) (ht:m.gA.tr.length<1000000000) (hs2:(fm m.gA).st.length<1000000000) (hy:nP m.gA=true) (hn:¬((fm m.gA).fr.length:Int)≤m.fr)
  (hk:K (.ret (.tu [])) [.cells (iE m (.d (.sl 5 ((fm m.gA).fr.map bQ))) ((fm m.gA).st ++ [qO m.gA]) (fm m.gA).tr (gj tk) cD false 0),.rows 5 (bW.map bQ)]) :
  Sat Tryz.prog 157 [.p 0 0] [.cells (iE m (.os 1) st ts (gj tk) cD false 0),.rows 5 (bW.map bQ)] K:=by
 have he:=ET m.gA hf hs ht;simp only [CS,hy,cond_true] at he;refine s157.go (keep:=false) rfl ?_
 repeat' ((conv=>whnf);first | exact zf | refine zm ?_ | refine zc he ?_ | intro _)
 refine aW (λh=>absurd h (by simp;omega)) (λ_=>?_)
 repeat' ((conv=>whnf);first | exact zf | refine zm ?_ | refine (.inr ?_:(∃_,_)∨_) | refine zS m (fm m.gA).st (fm m.gA).tr tk cD false 0 (fm m.gA).fr (qO m.gA) hs2 ?_ | intro _)
 exact hk
end Go.Proofs.YtjpgfgajkjhonaaGreatDoor
namespace Go.Proofs.YtjpgfgajkjhonaaGreatDoor
open Go.Vx
def RT:List (Int×Nat):=[(1,1000145),(2,1000146),(3,1000147),(4,1000148),(5,1000149),(6,1000150),(7,1000151),(8,1000151),(9,1000151),(10,1000151),(11,1000151),(12,1000152),(13,1000151),(14,1000153),(15,1000154),(16,1000155),(17,1000156),(18,1000157),(19,1000158),(20,1000159),(21,1000160),(22,1000161),(23,1000162),(24,1000163),(31,1000164),(44,1000165),(47,1000166)]
def B_ (id:Nat):List (V×V):=RT.map λp=>(.d (.int .i64 p.1),.fc p.2 [.p id 0])
set_option maxRecDepth 100000 in
set_option maxHeartbeats 4000000 in
theorem kz {K:Out→H→Prop} (m:Mh) (hk:K (.ret (.mp 1)) [.cells (Mn m),.mp (B_ 0)]):Sat Tryz.prog 107 [.p 0 0] [.cells (Mn m)] K:=by
  refine s107.go (keep:=true) rfl ?_
  repeat' ((conv=>whnf);first | exact zf | refine zm ?_ | refine ⟨_,rfl,?_⟩ | intro _)
  exact hk
end Go.Proofs.YtjpgfgajkjhonaaGreatDoor
