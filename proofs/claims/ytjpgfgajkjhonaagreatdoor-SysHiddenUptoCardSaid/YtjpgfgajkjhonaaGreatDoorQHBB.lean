/- Lemmas. Conditions: none. -/
import Derived.Test.YtjpgfgajkjhonaaGreatDoorQHBA
set_option maxHeartbeats 4000000
namespace Go.Proofs.YtjpgfgajkjhonaaGreatDoor
open Go.Vx
set_option maxRecDepth 100000
structure Ev where
  l:Lb
  v:Va
def uQ (e:Ev):List D:=[.str e.l.s,.str e.l.i,.int .i64 e.v.k,.int .i64 e.v.n,.str e.v.nm,.str e.v.ls,.str e.v.li]
structure En where
  o:Int
  fr:Lb
  to:Lb
  ma:Int
def DM (e:En):List D:=[.int .i64 e.o,.str e.fr.s,.str e.fr.i,.str e.to.s,.str e.to.i,.int .u8 e.ma]
structure Wo where
  id:List UInt8
  l:List Va
def Nr (w:Wo):List D:=[.str w.id,.sl 5 (w.l.map cK)]
structure Ef where
  fork:List Th
  out:List Ev
  log:List En
  NG:List Wo
  dn:Bool
def x7 (e:Ef):List D:=[.sl 20 (e.fork.map fC),.sl 7 (e.out.map uQ),.sl 6 (e.log.map DM),.sl 2 (e.NG.map Nr),.bool e.dn]
def sA (e:Ef):V:=.ag ((x7 e).map .d)
inductive Fx where
  |no
  |out (x:Ev)
  |log (x:En)
  |NG (x:Wo)
  |fork (x:Th)
def Fx.ef:Fx→Bool→Ef
 |.no,d=>⟨[],[],[],[],d⟩
 |.out x,d=>⟨[],[x],[],[],d⟩
 |.log x,d=>⟨[],[],[x],[],d⟩
 |.NG x,d=>⟨[],[],[],[x],d⟩
 |.fork x,d=>⟨[x],[],[],[],d⟩
def Fx.vs:Fx→Bool→List V
 |.no,d=>[.nl 20,.nl 7,.nl 6,.nl 2,.d (.bool d)]
 |.out x,d=>[.nl 20,.d (.sl 7 [uQ x]),.nl 6,.nl 2,.d (.bool d)]
 |.log x,d=>[.nl 20,.nl 7,.d (.sl 6 [DM x]),.nl 2,.d (.bool d)]
 |.NG x,d=>[.nl 20,.nl 7,.nl 6,.d (.sl 2 [Nr x]),.d (.bool d)]
 |.fork x,d=>[.d (.sl 20 [fC x]),.nl 7,.nl 6,.nl 2,.d (.bool d)]
structure Ca where
  im:Im
  now:Int
  t:Th
  tr:Int
  o:Op
  ar:List Va
  ma:Int
def ko (c:Ca) (e:List V) (a:V) (s:Nat):List V:=
 [.d (.sl 5 (c.im.cs.map cK)),.d (.sl 3 (c.im.fs.map dw)),.p s 0,.d (.int .i64 c.now)]++(fC c.t).map .d ++ [.d (.int .i64 c.tr)]++e ++ [.d (.int .i64 c.o.c),.d (.int .i64 c.o.a),a,.d (.int .u8 c.ma)]
def e7 (c:Ca) (s:b8):H:=.cells (ko c [.nl 20,.nl 7,.nl 6,.nl 2,.d (.bool false)] (.d (.sl 5 (c.ar.map cK))) 1) :: [.cells [.mp 2,.mp 3],.dm (iy s.th),.ms 1 (kh s.nm) none none]
def XU (c:Ca) (d:Bool) (s:b8):H:=.cells (ko c [.nl 20,.nl 7,.nl 6,.nl 2,.d (.bool d)] (.d (.sl 5 (c.ar.map cK))) 1) :: [.cells [.mp 2,.mp 3],.dm (iy s.th),.ms 1 (kh s.nm) none none]
def Mn (c:Ca) (e:Fx) (d:Bool) (s:b8):H:=.cells (ko c (e.vs d) (.d (.sl 5 (c.ar.map cK))) 1) :: [.cells [.mp 2,.mp 3],.dm (iy s.th),.ms 1 (kh s.nm) none none]
def UC (p:Ca×Bool×b8):H:=XU p.1 p.2.1 p.2.2
def We (c:Ca) (s:b8):H:=.cells (ko c [.nl 20,.nl 7,.nl 6,.nl 2,.d (.bool false)] (.nl 5) 1) :: [.cells [.mp 2,.mp 3],.dm (iy s.th),.ms 1 (kh s.nm) none none]
def XT (p:Ca×Bool×b8):H:=.cells (ko p.1 [.nl 20,.nl 7,.nl 6,.nl 2,.d (.bool p.2.1)] (.nl 5) 1) :: [.cells [.mp 2,.mp 3],.dm (iy p.2.2.th),.ms 1 (kh p.2.2.nm) none none]
theorem je {K:KT} (c:Ca) (s:b8) (v:Va) (hl:c.t.c.st.length<1000000000) (hk:K (.ret (.tu [])) (e7 { c with t:={ c.t with c:=j7 c.t.c v } } s)):Z1 241 [.p 0 0,jl v] (e7 c s) K:=by
 have h1:=tI c.t.c v hl;refine sh0 Tryz.f241 ?_
 exact zh1 hk h1
theorem Cs {K:KT} (c:Ca) (s:b8) (l:Lb) (hl:c.t.c.st.length<1000000000) (hk:K (.ret (.tu [])) (e7 { c with t:={ c.t with c:=j7 c.t.c ⟨2,0,[],l.s,l.i⟩ } } s)):Z1 232 [.p 0 0,jT l] (e7 c s) K:=by
 have h1:=λ{K:KT}=>je (K:=K) c s ⟨2,0,[],l.s,l.i⟩ hl;refine sh0 Tryz.f232 ?_
 repeat' ((conv=>whnf);first | exact zf | refine zm ?_ | refine zr0 ?_ | refine (h1 ?_) | intro _)
 exact hk
def oS (c:Ca) (s:b8) (v:Va) (ex:Bool):Ca×Bool×b8:=
 let t:=ei c.t v ex
 if t.st≠3∧t.st≠4 then ({ c with t:=t },false,s) else
 match bI t.id s.th with
 |some (i,o)=>if o.k=6 then ({ c with t:=t },true,jx s i t.id { o with v:=v,ex:=ex,dn:=true }) else ({ c with t:=t },true,s)
 |none=>({ c with t:=t },true,s)
theorem J0 {K:KT} (c:Ca) (s:b8) (v:Va) (ex:Bool) (hqa:∀i o,bI c.t.id s.th=some (i,o)→o.va.q.length<100000000) (hk:K (.ret (.tu [])) (UC (oS c s v ex))):Z1 72 [.p 0 0,jl v,.d (.bool ex)] (e7 c s) K:=by
 have h1:=qo c.t v ex;have hid:(ei c.t v ex).id=c.t.id:=rfl;unfold oS at hk;generalize ei c.t v ex=t at h1 hid hk;rw [←hid] at hqa;have hq:(ic s t.id).va.q.length<100000000:=by
  unfold ic;cases hlk:bI t.id s.th with
  |none=>simp [fT,BD]
  |some p=>exact hqa p.1 p.2 hlk
 by_cases h30:t.st=3
 ·have hnot:¬(t.st≠3∧t.st≠4):=λh=>h.1 h30;simp only [hnot,ψ] at hk;have hg:=rW (K:=λout h=>out = .ret (.tu [fz (ic s t.id),.d (.bool (mX s t.id))])∧h=j6 s) s t.id hq ⟨rfl,rfl⟩;unfold ic mX at hg;cases hlk:bI t.id s.th with
  |none=>
   rw [hlk] at hg hk;refine sh0 Tryz.f72 ?_
   repeat' ((conv=>whnf);first | exact zf | refine (bp (cC ?_):eZ _ (eZ (ky _ _ _ _ 16 _ _ _ _ _ _ _) _)) | refine zm ?_ | refine zc h1 ?_ | refine ⟨_,_,hg,?_⟩ | refine zt ?_ | refine zu ?_ | intro _)
   exact hk
  |some p=>
   obtain ⟨i,o⟩:=p;rw [hlk] at hg hk
   by_cases h6:o.k=6
   ·have hset:=λ{K:KT}=>ly (K:=K) s t.id i { o with v:=v,ex:=ex,dn:=true } o hlk rfl rfl (hqa i o hlk);dsimp only at hk;rw [ζ h6] at hk;refine sh0 Tryz.f72 ?_
    repeat' ((conv=>whnf);first | exact zf | refine (bp (cC ?_):eZ _ (eZ (ky _ _ _ _ 16 _ _ _ _ _ _ _) _)) | refine zm ?_ | refine zc h1 ?_ | refine ⟨_,_,hg,?_⟩ | refine zr0 ?_ | refine (hset ?_) | refine zt ?_ | refine zu ?_ | intro _)
    exact hk
   ·simp only [h6,ψ] at hk;refine sh0 Tryz.f72 ?_
    repeat' ((conv=>whnf);first | exact zf | refine (bp (cC ?_):eZ _ (eZ (ky _ _ _ _ 16 _ _ _ _ _ _ _) _)) | refine zm ?_ | refine zc h1 ?_ | refine ⟨_,_,hg,?_⟩ | refine zt ?_ | refine zu ?_ | intro _)
    exact hk
 ·by_cases h3:t.st=4
  ·have hnot:¬(t.st≠3∧t.st≠4):=λh=>h.2 h3;simp only [hnot,ψ] at hk;have hg:=rW (K:=λout h=>out = .ret (.tu [fz (ic s t.id),.d (.bool (mX s t.id))])∧h=j6 s) s t.id hq ⟨rfl,rfl⟩;unfold ic mX at hg;cases hlk:bI t.id s.th with
   |none=>
    rw [hlk] at hg hk;refine sh0 Tryz.f72 ?_
    repeat' ((conv=>whnf);first | exact zf | refine (bp (cC ?_):eZ _ (eZ (ky _ _ _ _ 16 _ _ _ _ _ _ _) _)) | refine zm ?_ | refine zc h1 ?_ | refine ⟨_,_,hg,?_⟩ | refine zt ?_ | refine zu ?_ | intro _)
    exact hk
   |some p=>
    obtain ⟨i,o⟩:=p;rw [hlk] at hg hk
    by_cases h6:o.k=6
    ·have hset:=λ{K:KT}=>ly (K:=K) s t.id i { o with v:=v,ex:=ex,dn:=true } o hlk rfl rfl (hqa i o hlk);dsimp only at hk;rw [ζ h6] at hk;refine sh0 Tryz.f72 ?_
     repeat' ((conv=>whnf);first | exact zf | refine (bp (cC ?_):eZ _ (eZ (ky _ _ _ _ 16 _ _ _ _ _ _ _) _)) | refine zm ?_ | refine zc h1 ?_ | refine ⟨_,_,hg,?_⟩ | refine zr0 ?_ | refine (hset ?_) | refine zt ?_ | refine zu ?_ | intro _)
     exact hk
    ·simp only [h6,ψ] at hk;refine sh0 Tryz.f72 ?_
     repeat' ((conv=>whnf);first | exact zf | refine (bp (cC ?_):eZ _ (eZ (ky _ _ _ _ 16 _ _ _ _ _ _ _) _)) | refine zm ?_ | refine zc h1 ?_ | refine ⟨_,_,hg,?_⟩ | refine zt ?_ | refine zu ?_ | intro _)
     exact hk
  ·have hyes:t.st≠3∧t.st≠4:=⟨h30,h3⟩
   rw [ζ hyes] at hk;refine sh0 Tryz.f72 ?_
   repeat' ((conv=>whnf);first | exact zf | refine zm ?_ | refine zc h1 ?_ | refine zt ?_ | refine zu ?_ | intro _)
   exact hk
theorem oH {K:KT} (c:Ca) (s:b8) (v:Va) (ex:Bool) (hqa:∀i o,bI c.t.id s.th=some (i,o)→o.va.q.length<100000000) (hk:K (.ret (.tu [])) (XT (oS c s v ex))):Z1 72 [.p 0 0,jl v,.d (.bool ex)] (We c s) K:=by
 have h1:=qo c.t v ex;have hid:(ei c.t v ex).id=c.t.id:=rfl;unfold oS at hk;generalize ei c.t v ex=t at h1 hid hk;rw [←hid] at hqa;have hq:(ic s t.id).va.q.length<100000000:=by
  unfold ic;cases hlk:bI t.id s.th with
  |none=>simp [fT,BD]
  |some p=>exact hqa p.1 p.2 hlk
 by_cases h30:t.st=3
 ·have hnot:¬(t.st≠3∧t.st≠4):=λh=>h.1 h30;simp only [hnot,ψ] at hk;have hg:=rW (K:=λout h=>out = .ret (.tu [fz (ic s t.id),.d (.bool (mX s t.id))])∧h=j6 s) s t.id hq ⟨rfl,rfl⟩;unfold ic mX at hg;cases hlk:bI t.id s.th with
  |none=>
   rw [hlk] at hg hk;refine sh0 Tryz.f72 ?_
   repeat' ((conv=>whnf);first | exact zf | refine (bp (cC ?_):eZ _ (eZ (ky _ _ _ _ 16 _ _ _ _ _ _ _) _)) | refine zm ?_ | refine zc h1 ?_ | refine ⟨_,_,hg,?_⟩ | refine zt ?_ | refine zu ?_ | intro _)
   exact hk
  |some p=>
   obtain ⟨i,o⟩:=p;rw [hlk] at hg hk
   by_cases h6:o.k=6
   ·have hset:=λ{K:KT}=>ly (K:=K) s t.id i { o with v:=v,ex:=ex,dn:=true } o hlk rfl rfl (hqa i o hlk);dsimp only at hk;rw [ζ h6] at hk;refine sh0 Tryz.f72 ?_
    repeat' ((conv=>whnf);first | exact zf | refine (bp (cC ?_):eZ _ (eZ (ky _ _ _ _ 16 _ _ _ _ _ _ _) _)) | refine zm ?_ | refine zc h1 ?_ | refine ⟨_,_,hg,?_⟩ | refine zr0 ?_ | refine (hset ?_) | refine zt ?_ | refine zu ?_ | intro _)
    exact hk
   ·simp only [h6,ψ] at hk;refine sh0 Tryz.f72 ?_
    repeat' ((conv=>whnf);first | exact zf | refine (bp (cC ?_):eZ _ (eZ (ky _ _ _ _ 16 _ _ _ _ _ _ _) _)) | refine zm ?_ | refine zc h1 ?_ | refine ⟨_,_,hg,?_⟩ | refine zt ?_ | refine zu ?_ | intro _)
    exact hk
 ·by_cases h3:t.st=4
  ·have hnot:¬(t.st≠3∧t.st≠4):=λh=>h.2 h3;simp only [hnot,ψ] at hk;have hg:=rW (K:=λout h=>out = .ret (.tu [fz (ic s t.id),.d (.bool (mX s t.id))])∧h=j6 s) s t.id hq ⟨rfl,rfl⟩;unfold ic mX at hg;cases hlk:bI t.id s.th with
   |none=>
    rw [hlk] at hg hk;refine sh0 Tryz.f72 ?_
    repeat' ((conv=>whnf);first | exact zf | refine (bp (cC ?_):eZ _ (eZ (ky _ _ _ _ 16 _ _ _ _ _ _ _) _)) | refine zm ?_ | refine zc h1 ?_ | refine ⟨_,_,hg,?_⟩ | refine zt ?_ | refine zu ?_ | intro _)
    exact hk
   |some p=>
    obtain ⟨i,o⟩:=p;rw [hlk] at hg hk
    by_cases h6:o.k=6
    ·have hset:=λ{K:KT}=>ly (K:=K) s t.id i { o with v:=v,ex:=ex,dn:=true } o hlk rfl rfl (hqa i o hlk);dsimp only at hk;rw [ζ h6] at hk;refine sh0 Tryz.f72 ?_
     repeat' ((conv=>whnf);first | exact zf | refine (bp (cC ?_):eZ _ (eZ (ky _ _ _ _ 16 _ _ _ _ _ _ _) _)) | refine zm ?_ | refine zc h1 ?_ | refine ⟨_,_,hg,?_⟩ | refine zr0 ?_ | refine (hset ?_) | refine zt ?_ | refine zu ?_ | intro _)
     exact hk
    ·simp only [h6,ψ] at hk;refine sh0 Tryz.f72 ?_
     repeat' ((conv=>whnf);first | exact zf | refine (bp (cC ?_):eZ _ (eZ (ky _ _ _ _ 16 _ _ _ _ _ _ _) _)) | refine zm ?_ | refine zc h1 ?_ | refine ⟨_,_,hg,?_⟩ | refine zt ?_ | refine zu ?_ | intro _)
     exact hk
  ·have hyes:t.st≠3∧t.st≠4:=⟨h30,h3⟩
   rw [ζ hyes] at hk;refine sh0 Tryz.f72 ?_
   repeat' ((conv=>whnf);first | exact zf | refine zm ?_ | refine zc h1 ?_ | refine zt ?_ | refine zu ?_ | intro _)
   exact hk
def lB (c:Ca) (s:b8) (k:Co) (code:Int):Ca×Bool×b8:=
 let r:=raise k code c.tr
 let c':Ca:={ c with t:={ c.t with c:=r.1 } }
 bif r.2.k==2 then oS c' s r.2.v true else (c',false,s)
theorem LQ {K:KT} (c:Ca) (s:b8) (k:Co) (code:Int) (hf:k.fr.length<1000000000) (hst:k.st.length<1000000000) (hqa:∀i o,bI c.t.id s.th=some (i,o)→o.va.q.length<100000000) (hk:K (.ret (.tu [])) (UC (lB c s k code))) :
  Z1 75 [.p 0 0,gp k,.d (.int .i64 code)] (e7 c s) K:=by
 have h1:=sH k code c.tr hf hst;unfold lB at hk;generalize raise k code c.tr=r at h1 hk;have h2:=λ{K:KT}=>J0 (K:=K) { c with t:={ c.t with c:=r.1 } } s r.2.v true hqa;cases hb:r.2.k==2 with
 |true=>
  simp only [hb,δ] at hk;refine sh0 Tryz.f75 ?_
  repeat' ((conv=>whnf);first | exact zf | refine zm ?_ | refine zc h1 ?_ | refine zr0 ?_ | refine (h2 ?_) | refine zt ?_ | refine zu ?_ | intro _)
  exact hk
 |false=>
  simp only [hb,ε] at hk;refine sh0 Tryz.f75 ?_
  repeat' ((conv=>whnf);first | exact zf | refine zm ?_ | refine zc h1 ?_ | refine zt ?_ | refine zu ?_ | intro _)
  exact hk
def oI (n:Int):V:=.fc 2000239 [.d (.int .i64 n)]
theorem jr {K:KT} (n:Int) (hk:K (.fm (oI n)) []):Z1 249 [.d (.int .i64 n)] [] K:=by
 refine sh0 Tryz.f249 ?_
 exact zh0 hk
theorem hN {K:KT} (hk:K (.ret (.tu [])) []):Z1 236 [.d (.int .i64 0)] [] K:=by
 refine sh0 Tryz.f236 ?_
 repeat' ((conv=>whnf);first | exact zf | refine zm ?_ | refine zt ?_ | refine zu ?_ | intro _)
 exact hk
theorem kB {K:KT} (n:Int) (hn:n≠0) (hk:K (.fm (oI n)) []):Z1 236 [.d (.int .i64 n)] [] K:=by
 refine sh0 Tryz.f236 ?_
 repeat' ((conv=>whnf);first | exact zf | refine zm ?_ | refine (jr n ?_) | refine zt ?_ | refine zu ?_ | intro _)
 exact hk
theorem m_ {K:KT} (c:Ca) (s:b8) (l:Lb) (hs:jX c.t.g) (hl:cI l) (hj:cI (db c.t.g.cur l)) (he:dY c.t.g l=0) (hk:K (.ret (.tu [])) (e7 { c with t:={ c.t with g:=dE c.t.g l } } s)):Z1 234 [.p 0 0,jT l] (e7 c s) K:=by
 have h1:=yN c.t.g l hs hl hj;rw [he] at h1;refine sh0 Tryz.f234 ?_
 repeat' ((conv=>whnf);first | exact zf | refine zm ?_ | refine zc h1 ?_ | refine (hN ?_) | intro _)
 exact hk
theorem nA {K:KT} (c:Ca) (s:b8) (l:Lb) (hs:jX c.t.g) (hl:cI l) (hj:cI (db c.t.g.cur l)) (he:dY c.t.g l≠0) (hk:K (.fm (oI (dY c.t.g l))) (e7 c s)):Z1 234 [.p 0 0,jT l] (e7 c s) K:=by
 have h1:=yN c.t.g l hs hl hj;refine sh0 Tryz.f234 ?_
 repeat' ((conv=>whnf);first | exact zf | refine zm ?_ | refine zc h1 ?_ | refine (kB _ he ?_) | intro _)
 exact hk
theorem D0 {K:KT} (c:Ca) (s:b8) (l:Lb) (hs:jX c.t.g) (hl:cI l) (he:bV c.t.g l=0) (hk:K (.ret (.tu [])) (e7 { c with t:={ c.t with g:=uZ c.t.g l } } s)):Z1 244 [.p 0 0,jT l] (e7 c s) K:=by
 have h1:=D2 c.t.g l hs hl;rw [he] at h1;refine sh0 Tryz.f244 ?_
 repeat' ((conv=>whnf);first | exact zf | refine zm ?_ | refine zc h1 ?_ | refine (hN ?_) | intro _)
 exact hk
theorem D1 {K:KT} (c:Ca) (s:b8) (l:Lb) (hs:jX c.t.g) (hl:cI l) (he:bV c.t.g l≠0) (hk:K (.fm (oI (bV c.t.g l))) (e7 c s)):Z1 244 [.p 0 0,jT l] (e7 c s) K:=by
 have h1:=D2 c.t.g l hs hl;refine sh0 Tryz.f244 ?_
 repeat' ((conv=>whnf);first | exact zf | refine zm ?_ | refine zc h1 ?_ | refine (kB _ he ?_) | intro _)
 exact hk
theorem xC {K:KT} (c:Ca) (s:b8) (p:List Nat) (n:Nat) (hp:c.t.pa=cR p) (hm:c.t.ma=n) (h0:p≠[]) (hl:p.length<24) (hs:∀n∈p,n<100) (hn:n<100) (hr:1≤c.t.ro) (hr2:c.t.ro<1000000000) (hk:K (.ret (.d (.str (cR (p ++ [n]))))) (e7 { c with t:=kA c.t } s)) :
  Z1 250 [.p 0 0] (e7 c s) K:=by
 have h1:=sM c.t p n hp hm h0 hl hs hn hr hr2;refine sh0 Tryz.f250 ?_
 repeat' ((conv=>whnf);first | exact zf | refine zm ?_ | refine zc h1 ?_ | refine zt ?_ | refine zu ?_ | intro _)
 exact hk
theorem Cl {K:KT} (c:Ca) (s:b8) (hr:c.t.ro<1) (hk:K (.fm (oI (-5))) (e7 c s)):Z1 250 [.p 0 0] (e7 c s) K:=by
 have h1:=yn c.t hr;refine sh0 Tryz.f250 ?_
 repeat' ((conv=>whnf);first | exact zf | refine zm ?_ | refine zc h1 ?_ | refine (jr _ ?_) | refine zt ?_ | refine zu ?_ | intro _)
 exact hk
def ua (c:Ca) (nm:List UInt8) (o:Ob):Ca:={ c with t:={ c.t with c:=j7 c.t.c ⟨o.k,0,nm,o.l.s,o.l.i⟩ } }
theorem RW {K:KT} (c:Ca) (s:b8) (kp:List Nat) (o:Ob) (hkp:gS kp) (hs:lY s) (hl:cI o.l) (h3:3≤o.k) (h7:o.k≤7) (hr:kf o.l=true) (hq:o.va.q.length<100000000) (hf:bI (cR kp) s.th=none) (hst:c.t.c.st.length<1000000000)
  (hk:∀b,K (.ret (.tu [])) (e7 (ua c (cR kp) o) (qP s kp o b))):Z1 252 [.p 0 0,.d (.str (cR kp)),fz o] (e7 c s) K:=by
 have h1:=λ{K:KT}=>KN (K:=K) s kp o hkp hs hl h3 h7 hr hq hf;have h2:=λ{K:KT} (b:Option Nat)=>je (K:=K) c (qP s kp o b) ⟨o.k,0,cR kp,o.l.s,o.l.i⟩ hst;refine sh0 Tryz.f252 ?_
 repeat' ((conv=>whnf);first | exact zf | refine zm ?_ | refine zr0 ?_ | refine (h1 (λb=>?_)) | refine (h2 _ ?_) | intro _)
 exact hk _
theorem Ll {K:KT} (c:Ca) (s:b8) (p:List Nat) (n:Nat) (o:Ob) (hg:jX c.t.g) (hw:bV c.t.g o.l=0) (hp:c.t.pa=cR p) (hm:c.t.ma=n) (h0:p≠[]) (hl:p.length<24) (hps:∀n∈p,n<100) (hn:n<100) (hr:1≤c.t.ro) (hr2:c.t.ro<1000000000)
  (hkp:gS (p ++ [n])) (hs:lY s) (hol:cI o.l) (h3:3≤o.k) (h7:o.k≤7) (hro:kf o.l=true) (hq:o.va.q.length<100000000) (hf:bI (cR (p ++ [n])) s.th=none) (hst:c.t.c.st.length<1000000000)
  (hk:∀b,K (.ret (.tu [])) (e7 (ua { c with t:=kA c.t } (cR (p ++ [n])) o) (qP s (p ++ [n]) o b))):Z1 237 [.p 0 0,fz o] (e7 c s) K:=by
 have h1:=fY c.t.g o.l hg hol;rw [hw] at h1;have h2:=λ{K:KT}=>xC (K:=K) c s p n hp hm h0 hl hps hn hr hr2;have h4:=λ{K:KT}=>RW (K:=K) { c with t:=kA c.t } s (p ++ [n]) o hkp hs hol h3 h7 hro hq hf hst;refine sh0 Tryz.f237 ?_
 repeat' ((conv=>whnf);first | exact zf | refine zm ?_ | refine zc h1 ?_ | intro _)
 conv=>whnf
 refine hN ?_
 repeat' ((conv=>whnf);first | exact zf | refine (c_ ?_) | refine zm ?_ | refine zr0 ?_ | refine (h2 ?_) | refine (h4 (λb=>?_)) | refine And.intro ?_ ?_ | intro _)
 all_goals exact hk _
def uf (f:Nat) (m:Mh) (st st':List Va) (ts:List Tr) (tk:List Va) (b9:List Fr):Prop:=
 ∀K:Out→H→Prop,K (.ret (.tu [])) [.cells (iZ m (.d (.sl 5 (b9.map bU))) st' ts (iI tk) cJ false 0),.no] →
  Z1 f [.p 0 0] [.cells (iZ m (.os 1) st ts (iI tk) cJ false 0),.rows 5 (b9.map bU)] K
def jU (f:Nat) (m:Mh) (st:List Va) (ts ts':List Tr) (tk:List Va) (b9 frs':List Fr) (wr:Bool) (cd:Int):Prop:=
 ∀K:Out→H→Prop,K (.ret (.tu [])) [.cells (iZ m (.os 1) st ts' (iI tk) cJ wr cd),.rows 5 (frs'.map bU)] →
  Z1 f [.p 0 0] [.cells (iZ m (.os 1) st ts (iI tk) cJ false 0),.rows 5 (b9.map bU)] K
theorem Px (m:Mh) (st:List Va) (ts:List Tr) (tk:List Va) (b9:List Fr) (v:Va) (hs:st.length<1000000000) (h0:0≤m.o.a) (hv:m.im.cs[m.o.a.toNat]? = some v):uf 145 m st (st ++ [v]) ts tk b9:=by
 intro K hk;refine sh0 Tryz.f145 ?_;have hrow:(m.im.cs.map cK)[m.o.a.toNat]? = some (cK v):=by simp [hv]
 repeat' ((conv=>whnf);first | exact zf | refine zm ?_ | intro _)
 refine ⟨cK v,⟨h0,hrow,rfl⟩,?_⟩
 repeat' ((conv=>whnf);first | exact zf | refine zm ?_ | refine zr0 ?_ | refine mG m st ts tk cJ false 0 b9 v hs ?_ | intro _)
 exact hk
theorem Q6 (m:Mh) (st:List Va) (ts:List Tr) (tk:List Va) (b9:List Fr) (f:Fr) (v:Va) (hs:st.length<1000000000) (hl:0<b9.length) (hlf:b9.length<1000000000) (hf:b9[b9.length - 1]? = some f) (h0:0≤m.o.a) (hv:f.vars[m.o.a.toNat]? = some v):uf 146 m st (st ++ [v]) ts tk b9:=by
 intro K hk;refine sh0 Tryz.f146 ?_;have hrow:(b9.map bU)[(((b9.map bU).length:Int) - 1).toNat]? = some (bU f):=by
  rw [aC,aI];have e:((b9.length:Int) - 1).toNat=b9.length - 1:=by omega
  rw [e,hf];rfl
 have hrow2:(f.vars.map cK)[m.o.a.toNat]? = some (cK v):=by simp [hv]
 repeat' ((conv=>whnf);first | exact zf | refine (bp (cC ?_):eZ _ (eZ (ky _ _ _ _ 167 _ _ _ _ _ _ _) _)) | refine zm ?_ | refine ⟨_,_,vN m st ts tk cJ false 0 _ (by simp;omega) (by simp;omega) (And.intro rfl rfl),?_⟩ | intro _)
 refine ⟨bU f,hrow,?_⟩
 repeat' ((conv=>whnf);first | exact zf | refine zm ?_ | intro _)
 refine ⟨cK v,⟨h0,hrow2,rfl⟩,?_⟩
 repeat' ((conv=>whnf);first | exact zf | refine zm ?_ | refine zr0 ?_ | refine mG m st ts tk cJ false 0 b9 v hs ?_ | intro _)
 exact hk
theorem S4 (m:Mh) (st:List Va) (ts:List Tr) (tk:List Va) (b9:List Fr):jU 148 m st ts ts tk b9 b9 false 0:=by
 intro K hk;refine sh0 Tryz.f148 ?_
 exact zh0 hk
theorem Tt (m:Mh) (st:List Va) (ts:List Tr) (a:Va) (b9:List Fr) (hs:st.length<900000000):uf 149 m st ((st ++ [a]) ++ [a]) ts [a] b9:=by
 intro K hk;refine sh0 Tryz.f149 ?_
 repeat' ((conv=>whnf);first | exact zf | refine zm ?_ | refine zr0 ?_ | refine mG m st ts [a] cJ false 0 b9 a (by omega) ?_ | refine BP m (st ++ [a]) ts [a] cJ false 0 b9 a (by simp;omega) ?_ | refine ⟨_,⟨by decide,rfl,rfl⟩,?_⟩ | refine ⟨_,rfl,?_⟩ | intro _)
 exact hk
theorem PX (m:Mh) (st:List Va) (ts:List Tr) (a b:Va) (b9:List Fr) (hs:st.length<900000000):uf 150 m st ((st ++ [b]) ++ [a]) ts [a,b] b9:=by
 intro K hk;refine sh0 Tryz.f150 ?_
 repeat' ((conv=>whnf);first | exact zf | refine zm ?_ | refine zr0 ?_ | refine mG m st ts [a,b] cJ false 0 b9 b (by omega) ?_ | refine BP m (st ++ [b]) ts [a,b] cJ false 0 b9 a (by simp;omega) ?_ | refine ⟨_,⟨by decide,rfl,rfl⟩,?_⟩ | refine ⟨_,rfl,?_⟩ | intro _)
 exact hk
theorem V8 (m:Mh) (st:List Va) (ts:List Tr) (a b:Va) (b9:List Fr) (hs:st.length<900000000):uf 152 m st (st ++ [iw (Qq a b)]) ts [a,b] b9:=by
 intro K hk;refine s152.go (keep:=false) rfl ?_
 repeat' ((conv=>whnf);first | exact zf | refine zm ?_ | refine zc (CL (Qq a b)) ?_ | refine zr0 ?_ | refine mG m st ts [a,b] cJ false 0 b9 (iw (Qq a b)) (by omega) ?_ | refine ⟨_,⟨by decide,rfl,rfl⟩,?_⟩ | refine ⟨_,rfl,?_⟩ | intro _)
 exact hk
theorem QR (m:Mh) (st:List Va) (ts:List Tr) (a b:Va) (b9:List Fr) (n:Int) (hs:st.length<1000000000) (hc:7≤m.o.c∧m.o.c≤13) (hn:pg m.o.c a.n b.n=mC n):F4 216 [jl a,jl b] m st (st ++ [num n]) ts [a,b] b9:=by
 intro K hk;have h:=Tw m.o.c a.n b.n hc;rw [hn] at h;refine sh0 Tryz.f216 ?_
 repeat' ((conv=>whnf);first | exact zf | refine zm ?_ | refine zc h ?_ | refine zc (nj n) ?_ | refine zr0 ?_ | refine mG m st ts [a,b] cJ false 0 b9 (num n) hs ?_ | intro _)
 exact hk
theorem QQ (m:Mh) (st:List Va) (ts:List Tr) (a b:Va) (b9:List Fr) (hc:7≤m.o.c∧m.o.c≤13) (hn:pg m.o.c a.n b.n=qe):wH 216 [jl a,jl b] m st ts [a,b] b9 b9 true (-2):=by
 intro K hk;have h:=Tw m.o.c a.n b.n hc;rw [hn] at h;refine sh0 Tryz.f216 ?_
 repeat' ((conv=>whnf);first | exact zf | refine zm ?_ | refine zc h ?_ | refine zr0 ?_ | refine nV m st ts [a,b] cJ false 0 (b9.map bU) (-2) ?_ | intro _)
 exact hk
theorem E0 (m:Mh) (st:List Va) (ts:List Tr) (a b:Va) (b9:List Fr) (n:Int) (hs:st.length<1000000000) (hc:7≤m.o.c∧m.o.c≤13) (ha:a.k=1) (hb:b.k=1) (hn:pg m.o.c a.n b.n=mC n):uf 151 m st (st ++ [num n]) ts [a,b] b9:=by
 intro K hk;refine sh0 Tryz.f151 ?_
 repeat' ((conv=>whnf);first | exact zf | refine zm ?_ | refine zr0 ?_ | refine AZ 216 rfl m st (st ++ [num n]) ts a b 1 b9 ha hb (QR m st ts a b b9 n hs hc hn) ?_ | intro _)
 exact hk
theorem EZ (m:Mh) (st:List Va) (ts:List Tr) (a b:Va) (b9:List Fr) (hc:7≤m.o.c∧m.o.c≤13) (ha:a.k=1) (hb:b.k=1) (hn:pg m.o.c a.n b.n=qe):jU 151 m st ts ts [a,b] b9 b9 true (-2):=by
 intro K hk;refine sh0 Tryz.f151 ?_
 repeat' ((conv=>whnf);first | exact zf | refine zm ?_ | refine zr0 ?_ | refine PT 216 rfl m st ts a b 1 b9 b9 true (-2) ha hb (QQ m st ts a b b9 hc hn) ?_ | intro _)
 exact hk
theorem EY (m:Mh) (st:List Va) (ts:List Tr) (a b:Va) (b9:List Fr) (hab:¬(a.k=1∧b.k=1)):jU 151 m st ts ts [a,b] b9 b9 true (-1):=by
 intro K hk;refine sh0 Tryz.f151 ?_
 repeat' ((conv=>whnf);first | exact zf | refine zm ?_ | refine zr0 ?_ | refine AY 216 m st ts a b 1 b9 hab ?_ | intro _)
 exact hk
theorem GD (m:Mh) (st:List Va) (ts:List Tr) (a:Va) (b9:List Fr):wH 224 [jl a] m st ts [a] b9 b9 true a.n:=by
 intro K hk;refine sh0 Tryz.f224 ?_
 repeat' ((conv=>whnf);first | exact zf | refine zm ?_ | refine zr0 ?_ | refine nV m st ts [a] cJ false 0 (b9.map bU) a.n ?_ | intro _)
 exact hk
theorem GC (m:Mh) (st:List Va) (ts:List Tr) (a:Va) (b9:List Fr) (ha:a.k=1):jU 158 m st ts ts [a] b9 b9 true a.n:=by
 intro K hk;refine sh0 Tryz.f158 ?_
 repeat' ((conv=>whnf);first | exact zf | refine zm ?_ | refine zr0 ?_ | refine Az 224 rfl m st ts a 1 b9 b9 true a.n ha (GD m st ts a b9) ?_ | intro _)
 exact hk
theorem GB (m:Mh) (st:List Va) (ts:List Tr) (a:Va) (b9:List Fr) (ha:¬a.k=1):jU 158 m st ts ts [a] b9 b9 true (-1):=by
 intro K hk;refine sh0 Tryz.f158 ?_
 repeat' ((conv=>whnf);first | exact zf | refine zm ?_ | refine zr0 ?_ | refine Ay 224 m st ts a 1 b9 ha ?_ | intro _)
 exact hk
theorem wP {K:KT} (m:Mh) (st:List Va) (ts:List Tr) (tk:List Va) (u:Ou) (wr:Bool) (cd:Int) (b9:List Fr) (f:Fr) (hl:0<b9.length) (hlf:b9.length<1000000000) (hf:b9[b9.length - 1]? = some f)
  (hk:K (.ret (.e (bU f) 0)) [.cells (iZ m (.d (.sl 5 (b9.map bU))) st ts (iI tk) u wr cd)]) :
  Z1 167 [.p 0 0] [.cells (iZ m (.d (.sl 5 (b9.map bU))) st ts (iI tk) u wr cd)] K:=by
 have hrow:(b9.map bU)[(((b9.map bU).length:Int) - 1).toNat]? = some (bU f):=by
  rw [aC,aI];have e:((b9.length:Int) - 1).toNat=b9.length - 1:=by omega
  rw [e,hf];rfl
 refine sh0 Tryz.f167 ?_
 repeat' ((conv=>whnf);first | exact zf | refine zm ?_ | intro _)
 refine ⟨bU f,⟨by simp;omega,hrow,rfl⟩,?_⟩
 exact zh0 hk
theorem FE {K:KT} (m:Mh) (st:List Va) (ts:List Tr) (tk:List Va) (u:Ou) (wr:Bool) (cd:Int) (rows:List (List D)) (n:Int)
  (hk:K (.ret (.tu [])) [.cells (iZ m (.d (.sl 5 rows)) st ts (iI tk) u true n)]) :
  Z1 218 [.p 0 0,.d (.int .i64 n)] [.cells (iZ m (.d (.sl 5 rows)) st ts (iI tk) u wr cd)] K:=by
 refine sh0 Tryz.f218 ?_
 exact zh0 hk
def fB (b9:List Fr) (f:Fr):List Fr:=b9.set (b9.length - 1) f
theorem nN {b9:List Fr} (hl:0<b9.length) (f:Fr):(b9.map bU).set (((b9.map bU).length:Int) - 1).toNat (bU f)=(fB b9 f).map bU:=by
 rw [fB,fg,aI];congr 1;omega
theorem nM {b9:List Fr} {f:Fr} (hl:0<b9.length) (hf:b9[b9.length - 1]? = some f):(b9.map bU)[(((b9.map bU).length:Int) - 1).toNat]? = some (bU f):=by
 rw [aC,aI];have e:((b9.length:Int) - 1).toNat=b9.length - 1:=by omega
 rw [e,hf];rfl
theorem Ht (m:Mh) (st:List Va) (ts:List Tr) (tk:List Va) (b9:List Fr) (f:Fr) (hl:0<b9.length) (hlf:b9.length<1000000000) (hf:b9[b9.length - 1]? = some f) :
  jU 154 m st ts ts tk b9 (fB b9 { f with pc:=m.o.a }) false 0:=by
 intro K hk;have hrow:=nM hl hf;rw [←nN hl] at hk;refine sh0 Tryz.f154 ?_
 repeat' ((conv=>whnf);first | exact zf | refine (bp (cC ?_):eZ _ (eZ (ky _ _ _ _ 167 _ _ _ _ _ _ _) _)) | refine zm ?_ | refine ⟨_,_,vN m st ts tk cJ false 0 _ (by simp;omega) (by simp;omega) (And.intro rfl rfl),?_⟩ | intro _)
 refine ⟨bU f,hrow,⟨rfl,rfl,rfl⟩,?_⟩
 exact zh0 hk
def yz (a:Int) (ma:Int):Int:=jH .and .u8 ma (IntKind.u8.wrap (jH .and .i64 a 255))
theorem Q9 (m:Mh) (st:List Va) (ts:List Tr) (tk:List Va) (b9:List Fr) (f:Fr) (hl:0<b9.length) (hlf:b9.length<1000000000) (hf:b9[b9.length - 1]? = some f) :
  jU 165 m st ts ts tk b9 (fB b9 { f with ma:=yz m.o.a f.ma }) false 0:=by
 intro K hk;have hrow:=nM hl hf;rw [←nN hl] at hk;refine sh0 Tryz.f165 ?_
 repeat' ((conv=>whnf);first | exact zf | refine (bp (cC ?_):eZ _ (eZ (ky _ _ _ _ 167 _ _ _ _ _ _ _) _)) | refine zm ?_ | refine ⟨_,_,vN m st ts tk cJ false 0 _ (by simp;omega) (by simp;omega) (And.intro rfl rfl),?_⟩ | intro _)
 refine ⟨bU f,hrow,?_⟩
 repeat' ((conv=>whnf);first | exact zf | refine zm ?_ | refine .inr ?_ | intro _)
 refine ⟨bU f,hrow,⟨rfl,rfl,rfl⟩,?_⟩
 exact zh0 hk
theorem S7 (m:Mh) (st:List Va) (ts:List Tr) (tk:List Va) (b9:List Fr) (f:Fr) (hs:st.length<1000000000) (hl:0<b9.length) (hlf:b9.length<1000000000) (hf:b9[b9.length - 1]? = some f) (hma:0≤f.ma∧f.ma≤255) :
  uf 166 m st (st ++ [num f.ma]) ts tk b9:=by
 intro K hk;have hrow:=nM hl hf;refine sh0 Tryz.f166 ?_
 repeat' ((conv=>whnf);first | exact zf | refine zm ?_ | refine zr0 ?_ | refine vN m st ts tk cJ false 0 _ (by simp;omega) (by simp;omega) ?_ | intro _)
 refine ⟨bU f,hrow,?_⟩
 repeat' ((conv=>whnf);first | exact zf | refine zm ?_ | refine zc (nj f.ma) ?_ | refine zr0 ?_ | refine mG m st ts tk cJ false 0 b9 (num f.ma) hs ?_ | intro _)
 exact hk
theorem B2 (m:Mh) (st:List Va) (ts:List Tr) (a:Va) (b9:List Fr) (f:Fr) (hl:0<b9.length) (hlf:b9.length<1000000000) (hf:b9[b9.length - 1]? = some f) (hn:a.n≠0) :
  wH 222 [jl a] m st ts [a] b9 (fB b9 { f with pc:=m.o.a }) false 0:=by
 intro K hk;refine sh0 Tryz.f222 ?_
 repeat' ((conv=>whnf);first | exact zf | refine zm ?_ | intro _)
 refine aX (λ_=>?_) (λh=>absurd (by simpa using h) hn)
 repeat' ((conv=>whnf);first | exact zf | refine zm ?_ | refine zr0 ?_ | refine Ht m st ts [a] b9 f hl hlf hf _ ?_ | intro _)
 exact hk
theorem B1 (m:Mh) (st:List Va) (ts:List Tr) (a:Va) (b9:List Fr) (hn:a.n=0) :
  wH 222 [jl a] m st ts [a] b9 b9 false 0:=by
 intro K hk;refine sh0 Tryz.f222 ?_
 repeat' ((conv=>whnf);first | exact zf | refine zm ?_ | intro _)
 refine aX (λh=>absurd hn (by simpa using h)) (λ_=>?_)
 exact zh0 hk
theorem Em (m:Mh) (st:List Va) (ts:List Tr) (a:Va) (b9:List Fr) (f:Fr) (hl:0<b9.length) (hlf:b9.length<1000000000) (hf:b9[b9.length - 1]? = some f) (ha:a.k=1) (hn:a.n≠0) :
  jU 155 m st ts ts [a] b9 (fB b9 { f with pc:=m.o.a }) false 0:=by
 intro K hk;refine sh0 Tryz.f155 ?_
 repeat' ((conv=>whnf);first | exact zf | refine zm ?_ | refine zr0 ?_ | refine Az 222 rfl m st ts a 1 b9 _ false 0 ha (B2 m st ts a b9 f hl hlf hf hn) ?_ | intro _)
 exact hk
theorem El (m:Mh) (st:List Va) (ts:List Tr) (a:Va) (b9:List Fr) (ha:a.k=1) (hn:a.n=0) :
  jU 155 m st ts ts [a] b9 b9 false 0:=by
 intro K hk;refine sh0 Tryz.f155 ?_
 repeat' ((conv=>whnf);first | exact zf | refine zm ?_ | refine zr0 ?_ | refine Az 222 rfl m st ts a 1 b9 b9 false 0 ha (B1 m st ts a b9 hn) ?_ | intro _)
 exact hk
theorem Ek (m:Mh) (st:List Va) (ts:List Tr) (a:Va) (b9:List Fr) (ha:¬a.k=1):jU 155 m st ts ts [a] b9 b9 true (-1):=by
 intro K hk;refine sh0 Tryz.f155 ?_
 repeat' ((conv=>whnf);first | exact zf | refine zm ?_ | refine zr0 ?_ | refine Ay 222 m st ts a 1 b9 ha ?_ | intro _)
 exact hk
theorem QW (m:Mh) (st:List Va) (ts:List Tr) (a:Va) (b9:List Fr) (hs:st.length<1000000000):F4 221 [jl a] m st (st ++ [iw (a.n==0)]) ts [a] b9:=by
 intro K hk;refine sh0 Tryz.f221 ?_
 repeat' ((conv=>whnf);first | exact zf | refine zm ?_ | refine zc (CL (a.n==0)) ?_ | refine zr0 ?_ | refine mG m st ts [a] cJ false 0 b9 (iw (a.n==0)) hs ?_ | intro _)
 exact hk
theorem QV (m:Mh) (st:List Va) (ts:List Tr) (a:Va) (b9:List Fr) (hs:st.length<1000000000) (ha:a.k=1):uf 153 m st (st ++ [iw (a.n==0)]) ts [a] b9:=by
 intro K hk;refine sh0 Tryz.f153 ?_
 repeat' ((conv=>whnf);first | exact zf | refine zm ?_ | refine zr0 ?_ | refine QH 221 rfl m st _ ts a 1 b9 ha (QW m st ts a b9 hs) ?_ | intro _)
 exact hk
theorem QU (m:Mh) (st:List Va) (ts:List Tr) (a:Va) (b9:List Fr) (ha:¬a.k=1):jU 153 m st ts ts [a] b9 b9 true (-1):=by
 intro K hk;refine sh0 Tryz.f153 ?_
 repeat' ((conv=>whnf);first | exact zf | refine zm ?_ | refine zr0 ?_ | refine Ay 221 m st ts a 1 b9 ha ?_ | intro _)
 exact hk
theorem DX (l:List (List D)):Z0 225 [.d (.sl 3 l)] (.cl 3 l):=by
 refine sh0 Tryz.f225 ?_
 repeat' ((conv=>whnf);first | exact zf | refine zm ?_ | intro _)
 exact cS (κ (V.cl 3) (by simp))
theorem R_ (m:Mh) (st:List Va) (ts:List Tr) (tk:List Va) (b9:List Fr) (ht:ts.length<1000000000) :
  jU 159 m st ts (ts ++ [⟨b9.length,st.length,m.o.a⟩]) tk b9 b9 false 0:=by
 intro K hk;refine sh0 Tryz.f159 ?_;have ht':(ts.map eO).length<1000000000:=by simpa using ht
 repeat' ((conv=>whnf);first | exact zf | refine zm ?_ | refine zc (DX (ts.map eO)) ?_ | intro _)
 have e:(ts ++ [(⟨b9.length,st.length,m.o.a⟩:Tr)]).map eO=ts.map eO ++ [[.int .i64 ((b9.map bU).length:Int),.int .i64 ((st.map cK).length:Int),.int .i64 m.o.a]]:=by simp [eO]
 unfold iZ at hk;rw [e] at hk;exact hk
def T4 (m:Mh) (c0:V) (st:List Va) (c2:V) (tk:V) (u:Ou) (wr:Bool) (cd:Int):List V:=
  [.d (.sl 5 (m.im.cs.map cK)), .d (.sl 3 (m.im.fs.map dw)), .d (.sl 5 (m.gL.fr.map bU)), .d (.sl 5 (m.gL.st.map cK)), .d (.sl 3 (m.gL.tr.map eO)),
   c0,.d (.sl 5 (st.map cK)),c2,.d (.int .i64 m.o.c),.d (.int .i64 m.o.a),tk,.d (.int .i64 m.fr),.d (.int .i64 m.tr),
   .d (.int .i64 u.k),.d (.int .i64 u.v.k),.d (.int .i64 u.v.n),.d (.str u.v.nm),.d (.str u.v.ls),.d (.str u.v.li),.d (.int .i64 u.o.c),.d (.int .i64 u.o.a),.d (.bool wr),.d (.int .i64 cd)]
theorem Qs {K:KT} (m:Mh) (st:List Va) (ts:List Tr) (tk:List Va) (b9:List Fr) (hn:m.tr<ts.length) (h0:0≤m.tr)
  (hk:K (.ret (.tu [])) [.cells (T4 m (.os 1) st (.cl 3 ((ts.take (ts.length - 1)).map eO)) (iI tk) cJ false 0),.rows 5 (b9.map bU)]) :
  Z1 160 [.p 0 0] [.cells (iZ m (.os 1) st ts (iI tk) cJ false 0),.rows 5 (b9.map bU)] K:=by
 refine sh0 Tryz.f160 ?_
 repeat' ((conv=>whnf);first | exact zf | refine zm ?_ | intro _)
 refine aX (λ_=>?_) (λh=>absurd h (by simp;omega));have e:((ts.map eO).take (((ts.map eO).length:Int) - 1).toNat).drop (0:Int).toNat=(ts.take (ts.length - 1)).map eO:=by
  rw [aI,←fo];show List.map eO _=_;congr 2;omega
 rw [←e] at hk
 repeat' ((conv=>whnf);first | exact zf | refine zm ?_ | refine zc (DX _) ?_ | intro _)
 exact hk
theorem Qr {K:KT} (m:Mh) (st:List Va) (ts:List Tr) (tk:List Va) (b9:List Fr) (hn:¬m.tr<ts.length)
  (hk:K (.ret (.tu [])) [.cells (iZ m (.os 1) st ts (iI tk) cJ false 0),.rows 5 (b9.map bU)]) :
  Z1 160 [.p 0 0] [.cells (iZ m (.os 1) st ts (iI tk) cJ false 0),.rows 5 (b9.map bU)] K:=by
 refine sh0 Tryz.f160 ?_
 repeat' ((conv=>whnf);first | exact zf | refine zm ?_ | intro _)
 refine aX (λh=>absurd h (by simp;omega)) (λ_=>?_)
 exact zh0 hk
theorem Mm {K:KT} (m:Mh) (st:List Va) (ts:List Tr) (tk:List Va) (b9:List Fr) (f:Fr) (g:Fn) (hl:0<b9.length) (hlf:b9.length<1000000000) (htk:tk.length<1000000000) (hf:b9[b9.length - 1]? = some f) (h0:0≤m.o.a) (hg:m.im.fs[m.o.a.toNat]? = some g) (hy:du ⟨b9,st,ts⟩=true)
  (hk:K (.ret (.tu [])) [.cells (iZ m (.d (.sl 5 ((gF ⟨b9,st,ts⟩ m.o.a g.vars tk f.ma).fr.map bU))) st ts (iI tk) cJ false 0),.no]) :
  Z1 156 [.p 0 0] [.cells (iZ m (.os 1) st ts (iI tk) cJ false 0),.rows 5 (b9.map bU)] K:=by
 have he:=kj ⟨b9,st,ts⟩ m.o.a g.vars tk f.ma hlf htk;simp only [mK,hy,δ] at he;have hrow:(m.im.fs.map dw)[m.o.a.toNat]? = some (dw g):=by simp [hg]
 refine sh0 Tryz.f156 ?_
 repeat' ((conv=>whnf);first | exact zf | refine jM [1] ?_ | refine (bp (cC ?_):eZ _ (eZ (ky _ _ _ _ 167 _ _ _ _ _ _ _) _)) | refine zm ?_ | refine zc he ?_ | refine ⟨_,_,wP m st ts tk cJ false 0 b9 f hl hlf hf (And.intro rfl rfl),?_⟩ | intro _)
 refine ⟨dw g,⟨h0,hrow,rfl⟩,?_⟩
 repeat' ((conv=>whnf);first | exact zf | refine (bp (cC ?_):eZ _ (eZ (ky _ _ _ _ 167 _ _ _ _ _ _ _) _)) | refine zm ?_ | refine zc he ?_ | refine ⟨_,_,wP m st ts tk cJ false 0 b9 f hl hlf hf (And.intro rfl rfl),?_⟩ | intro _)
 exact hk
theorem Ml {K:KT} (m:Mh) (st:List Va) (ts:List Tr) (tk:List Va) (b9:List Fr) (f:Fr) (g:Fn) (hl:0<b9.length) (hlf:b9.length<1000000000) (htk:tk.length<1000000000) (hf:b9[b9.length - 1]? = some f) (h0:0≤m.o.a) (hg:m.im.fs[m.o.a.toNat]? = some g) (hy:du ⟨b9,st,ts⟩=false)
  (hk:K (.ret (.tu [])) [.cells (iZ m (.d (.sl 5 (b9.map bU))) st ts (iI tk) cJ true (-6)),.no]) :
  Z1 156 [.p 0 0] [.cells (iZ m (.os 1) st ts (iI tk) cJ false 0),.rows 5 (b9.map bU)] K:=by
 have he:=kj ⟨b9,st,ts⟩ m.o.a g.vars tk f.ma hlf htk;simp only [mK,hy,ε] at he;have hrow:(m.im.fs.map dw)[m.o.a.toNat]? = some (dw g):=by simp [hg]
 refine sh0 Tryz.f156 ?_
 repeat' ((conv=>whnf);first | exact zf | refine jM [1] ?_ | refine (bp (cC ?_):eZ _ (eZ (ky _ _ _ _ 167 _ _ _ _ _ _ _) _)) | refine zm ?_ | refine zc he ?_ | refine ⟨_,_,wP m st ts tk cJ false 0 b9 f hl hlf hf (And.intro rfl rfl),?_⟩ | intro _)
 refine ⟨dw g,⟨h0,hrow,rfl⟩,?_⟩
 repeat' ((conv=>whnf);first | exact zf | refine (bp (cC ?_):eZ _ (eZ (ky _ _ _ _ 167 _ _ _ _ _ _ _) _)) | refine zm ?_ | refine zc he ?_ | refine ⟨_,_,wP m st ts tk cJ false 0 b9 f hl hlf hf (And.intro rfl rfl),?_⟩ | refine zr0 ?_ | refine FE m st ts tk cJ false 0 (b9.map bU) (-6) ?_ | intro _)
 exact hk
theorem Pn {K:KT} (m:Mh) (st:List Va) (ts:List Tr) (tk:List Va) (b9:List Fr) (hf:m.gL.fr.length<1000000000) (hs:m.gL.st.length<1000000000) (ht:m.gL.tr.length<1000000000) (hy:oU m.gL=true) (hn:((gD m.gL).fr.length:Int)≤m.fr)
  (hk:K (.ret (.tu [])) [.cells (iZ m (.d (.sl 5 ((gD m.gL).fr.map bU))) (gD m.gL).st (gD m.gL).tr (iI tk) ⟨1,rj m.gL,o0⟩ false 0),.rows 5 (b9.map bU)]) :
  Z1 157 [.p 0 0] [.cells (iZ m (.os 1) st ts (iI tk) cJ false 0),.rows 5 (b9.map bU)] K:=by
 have he:=G8 m.gL hf hs ht;simp only [EL,hy,δ] at he;refine sh0 Tryz.f157 ?_
 repeat' ((conv=>whnf);first | exact zf | refine zm ?_ | refine zc he ?_ | intro _)
 refine aX (λ_=>?_) (λh=>absurd h (by simp;omega))
 exact zh0 hk
theorem Pm {K:KT} (m:Mh) (st:List Va) (ts:List Tr) (tk:List Va) (b9:List Fr) (hf:m.gL.fr.length<1000000000) (hs:m.gL.st.length<1000000000) (ht:m.gL.tr.length<1000000000) (hs2:(gD m.gL).st.length<1000000000) (hy:oU m.gL=true) (hn:¬((gD m.gL).fr.length:Int)≤m.fr)
  (hk:K (.ret (.tu [])) [.cells (iZ m (.d (.sl 5 ((gD m.gL).fr.map bU))) ((gD m.gL).st ++ [rj m.gL]) (gD m.gL).tr (iI tk) cJ false 0),.rows 5 (b9.map bU)]) :
  Z1 157 [.p 0 0] [.cells (iZ m (.os 1) st ts (iI tk) cJ false 0),.rows 5 (b9.map bU)] K:=by
 have he:=G8 m.gL hf hs ht;simp only [EL,hy,δ] at he;refine sh0 Tryz.f157 ?_
 repeat' ((conv=>whnf);first | exact zf | refine zm ?_ | refine zc he ?_ | intro _)
 refine aX (λh=>absurd h (by simp;omega)) (λ_=>?_)
 repeat' ((conv=>whnf);first | exact zf | refine zm ?_ | refine zr0 ?_ | refine BP m (gD m.gL).st (gD m.gL).tr tk cJ false 0 (gD m.gL).fr (rj m.gL) hs2 ?_ | intro _)
 exact hk
def UB:List (Int×Nat):=[(1,1000145),(2,1000146),(3,1000147),(4,1000148),(5,1000149),(6,1000150),(7,1000151),(8,1000151),(9,1000151),(10,1000151),(11,1000151),(12,1000152),(13,1000151),(14,1000153),(15,1000154),(16,1000155),(17,1000156),(18,1000157),(19,1000158),(20,1000159),(21,1000160),(22,1000161),(23,1000162),(24,1000163),(31,1000164),(44,1000165),(47,1000166)]
def Dt (id:Nat):List (V×V):=UB.map λp=>(.d (.int .i64 p.1),.fc p.2 [.p id 0])
set_option maxRecDepth 100000 in
theorem lq {K:KT} (m:Mh) (hk:K (.ret (.mp 1)) [.cells (Q3 m),.mp (Dt 0)]):Z1 107 [.p 0 0] [.cells (Q3 m)] K:=by
  refine si0 Tryz.f107 ?_
  repeat' ((conv=>whnf);first | exact zf | refine zm ?_ | refine ⟨_,rfl,?_⟩ | intro _)
  exact hk
end Go.Proofs.YtjpgfgajkjhonaaGreatDoor