/- Lemmas. Conditions: none. -/
import Derived.Test.YtjpgfgajkjhonaaGreatDoorQRAY
set_option maxHeartbeats 4000000
namespace Go.Proofs.YtjpgfgajkjhonaaGreatDoor
open Go.Vx
set_option maxRecDepth 100000
structure Ev where
  l:Lb
  v:Va
def Nx(e:Ev):List D:=[.str e.l.s,.str e.l.i,.int .i64 e.v.k,.int .i64 e.v.n,.str e.v.nm,.str e.v.ls,.str e.v.li]
structure En where
  o:Int
  fr:Lb
  to:Lb
  ma:Int
def Ny(e:En):List D:=[.int .i64 e.o,.str e.fr.s,.str e.fr.i,.str e.to.s,.str e.to.i,.int .u8 e.ma]
structure Wo where
  id:List UInt8
  l:List Va
def Nw(w:Wo):List D:=[.str w.id,.sl 5 (w.l.map cE)]
structure Ef where
  fork:List Th
  out:List Ev
  log:List En
  KZ:List Wo
  dn:Bool
def xQ(e:Ef):List D:=[.sl 20 (e.fork.map ei),.sl 7 (e.out.map Nx),.sl 6 (e.log.map Ny),.sl 2 (e.KZ.map Nw),.bool e.dn]
def re(e:Ef):V:=.ag ((xQ e).map .d)
inductive Fx where
  |no
  |out (x:Ev)
  |log (x:En)
  |KZ (x:Wo)
  |fork (x:Th)
def Fx.ef:Fx->Bool->Ef
 |.no,d=>⟨[],[],[],[],d⟩
 |.out x,d=>⟨[],[x],[],[],d⟩
 |.log x,d=>⟨[],[],[x],[],d⟩
 |.KZ x,d=>⟨[],[],[],[x],d⟩
 |.fork x,d=>⟨[x],[],[],[],d⟩
def Fx.vs:Fx->Bool->List V
 |.no,d=>[.nl 20,.nl 7,.nl 6,.nl 2,.d (.bool d)]
 |.out x,d=>[.nl 20,.d (.sl 7 [Nx x]),.nl 6,.nl 2,.d (.bool d)]
 |.log x,d=>[.nl 20,.nl 7,.d (.sl 6 [Ny x]),.nl 2,.d (.bool d)]
 |.KZ x,d=>[.nl 20,.nl 7,.nl 6,.d (.sl 2 [Nw x]),.d (.bool d)]
 |.fork x,d=>[.d (.sl 20 [ei x]),.nl 7,.nl 6,.nl 2,.d (.bool d)]
structure Ca where
  im:Im
  now:Int
  t:Th
  tr:Int
  o:Op
  ar:List Va
  ma:Int
def kW(c:Ca)(e:List V)(a:V)(s:Nat):List V:=
 [.d (.sl 5 (c.im.cs.map cE)),.d (.sl 3 (c.im.fs.map dc)),.p s 0,.d (.int .i64 c.now)]++(ei c.t).map .d++[.d (.int .i64 c.tr)]++e++[.d (.int .i64 c.o.c),.d (.int .i64 c.o.a),a,.d (.int .u8 c.ma)]
def eP(c:Ca)(s:b7):H:=.cells (kW c [.nl 20,.nl 7,.nl 6,.nl 2,.d (.bool false)] (.d (.sl 5 (c.ar.map cE))) 1)::[.cells [.mp 2,.mp 3],.dm (jV s.th),.ms 1 (kM s.nm) none none]
def Xu(c:Ca)(d:Bool)(s:b7):H:=.cells (kW c [.nl 20,.nl 7,.nl 6,.nl 2,.d (.bool d)] (.d (.sl 5 (c.ar.map cE))) 1)::[.cells [.mp 2,.mp 3],.dm (jV s.th),.ms 1 (kM s.nm) none none]
def Mq(c:Ca)(e:Fx)(d:Bool)(s:b7):H:=.cells (kW c (e.vs d) (.d (.sl 5 (c.ar.map cE))) 1)::[.cells [.mp 2,.mp 3],.dm (jV s.th),.ms 1 (kM s.nm) none none]
def UX(p:Ca×Bool×b7):H:=Xu p.1 p.2.1 p.2.2
def XK(c:Ca)(s:b7):H:=.cells (kW c [.nl 20,.nl 7,.nl 6,.nl 2,.d (.bool false)] (.nl 5) 1)::[.cells [.mp 2,.mp 3],.dm (jV s.th),.ms 1 (kM s.nm) none none]
def Xt(p:Ca×Bool×b7):H:=.cells (kW p.1 [.nl 20,.nl 7,.nl 6,.nl 2,.d (.bool p.2.1)] (.nl 5) 1)::[.cells [.mp 2,.mp 3],.dm (jV p.2.2.th),.ms 1 (kM p.2.2.nm) none none]
theorem j2{K:KT}(c:Ca)(s:b7)(v:Va)(hl:c.t.c.st.length<1000000000)(hk:K (.ret (.tu [])) (eP {c with t:={c.t with c:=jX c.t.c v}} s)):Z1 241 [.p 0 0,j7 v] (eP c s) K:=by
 have h1:=sx c.t.c v hl;refine sh0 Tryz.f241 ?_
 exact zh1 hk h1
theorem C4{K:KT}(c:Ca)(s:b7)(l:Lb)(hl:c.t.c.st.length<1000000000)(hk:K (.ret (.tu [])) (eP {c with t:={c.t with c:=jX c.t.c ⟨2,0,[],l.s,l.i⟩}} s)):Z1 232 [.p 0 0,je l] (eP c s) K:=by
 have h1:=λ{K:KT}=>j2 (K:=K) c s ⟨2,0,[],l.s,l.i⟩ hl;refine sh0 Tryz.f232 ?_
 repeat' ((conv=>whnf);first|exact zf|refine zm ?_|refine zr0 ?_|refine(h1 ?_)|intro _)
 exact hk
def oK(c:Ca)(s:b7)(v:Va)(ex:Bool):Ca×Bool×b7:=
 let t:=eW c.t v ex
 if t.st≠3/\t.st≠4 then({c with t:=t},false,s) else
 match bW t.id s.th with
 |some (i,o)=>if o.k=6 then({c with t:=t},true,jk s i t.id {o with v:=v,ex:=ex,dn:=true})else({c with t:=t},true,s)
 |none=>({c with t:=t},true,s)
theorem JH{K:KT}(c:Ca)(s:b7)(v:Va)(ex:Bool)(hqa:∀i o,bW c.t.id s.th=some (i,o)->o.va.q.length<100000000)(hk:K (.ret (.tu [])) (UX (oK c s v ex))):Z1 72 [.p 0 0,j7 v,.d (.bool ex)] (eP c s) K:=by
 have h1:=q8 c.t v ex;have hid:(eW c.t v ex).id=c.t.id:=rfl;unfold oK at hk;generalize eW c.t v ex=t at h1 hid hk;rw[<-hid]at hqa;have hq:(gk s t.id).va.q.length<100000000:=by
  unfold gk;cases hlk:bW t.id s.th with
  |none=>simp[fK,Ag]
  |some p=>exact hqa p.1 p.2 hlk
 by_cases h30:t.st=3
 .have hnot:¬(t.st≠3/\t.st≠4):=λh=>h.1 h30;simp only[hnot,ψ]at hk;have hg:=pj (K:=λout h=>out=.ret (.tu [gJ (gk s t.id),.d (.bool (gu s t.id))])/\h=jW s) s t.id hq ⟨rfl,rfl⟩;unfold gk gu at hg;cases hlk:bW t.id s.th with
  |none=>
   rw[hlk]at hg hk;refine sh0 Tryz.f72 ?_
   repeat' ((conv=>whnf);first|exact zf|refine(bh (bu ?_):eO _ (eO (kZ _ _ _ _ 16 _ _ _ _ _ _ _) _))|refine zm ?_|refine zc h1 ?_|refine⟨_,_,hg,?_⟩|refine zt ?_|refine zu ?_|intro _)
   exact hk
  |some p=>
   obtain⟨i,o⟩:=p;rw[hlk]at hg hk
   by_cases h6:o.k=6
   .have hset:=λ{K:KT}=>l9 (K:=K) s t.id i {o with v:=v,ex:=ex,dn:=true} o hlk rfl rfl (hqa i o hlk);dsimp only at hk;rw[ζ h6]at hk;refine sh0 Tryz.f72 ?_
    repeat' ((conv=>whnf);first|exact zf|refine(bh (bu ?_):eO _ (eO (kZ _ _ _ _ 16 _ _ _ _ _ _ _) _))|refine zm ?_|refine zc h1 ?_|refine⟨_,_,hg,?_⟩|refine zr0 ?_|refine(hset ?_)|refine zt ?_|refine zu ?_|intro _)
    exact hk
   .simp only[h6,ψ]at hk;refine sh0 Tryz.f72 ?_
    repeat' ((conv=>whnf);first|exact zf|refine(bh (bu ?_):eO _ (eO (kZ _ _ _ _ 16 _ _ _ _ _ _ _) _))|refine zm ?_|refine zc h1 ?_|refine⟨_,_,hg,?_⟩|refine zt ?_|refine zu ?_|intro _)
    exact hk
 .by_cases h3:t.st=4
  .have hnot:¬(t.st≠3/\t.st≠4):=λh=>h.2 h3;simp only[hnot,ψ]at hk;have hg:=pj (K:=λout h=>out=.ret (.tu [gJ (gk s t.id),.d (.bool (gu s t.id))])/\h=jW s) s t.id hq ⟨rfl,rfl⟩;unfold gk gu at hg;cases hlk:bW t.id s.th with
   |none=>
    rw[hlk]at hg hk;refine sh0 Tryz.f72 ?_
    repeat' ((conv=>whnf);first|exact zf|refine(bh (bu ?_):eO _ (eO (kZ _ _ _ _ 16 _ _ _ _ _ _ _) _))|refine zm ?_|refine zc h1 ?_|refine⟨_,_,hg,?_⟩|refine zt ?_|refine zu ?_|intro _)
    exact hk
   |some p=>
    obtain⟨i,o⟩:=p;rw[hlk]at hg hk
    by_cases h6:o.k=6
    .have hset:=λ{K:KT}=>l9 (K:=K) s t.id i {o with v:=v,ex:=ex,dn:=true} o hlk rfl rfl (hqa i o hlk);dsimp only at hk;rw[ζ h6]at hk;refine sh0 Tryz.f72 ?_
     repeat' ((conv=>whnf);first|exact zf|refine(bh (bu ?_):eO _ (eO (kZ _ _ _ _ 16 _ _ _ _ _ _ _) _))|refine zm ?_|refine zc h1 ?_|refine⟨_,_,hg,?_⟩|refine zr0 ?_|refine(hset ?_)|refine zt ?_|refine zu ?_|intro _)
     exact hk
    .simp only[h6,ψ]at hk;refine sh0 Tryz.f72 ?_
     repeat' ((conv=>whnf);first|exact zf|refine(bh (bu ?_):eO _ (eO (kZ _ _ _ _ 16 _ _ _ _ _ _ _) _))|refine zm ?_|refine zc h1 ?_|refine⟨_,_,hg,?_⟩|refine zt ?_|refine zu ?_|intro _)
     exact hk
  .have hyes:t.st≠3/\t.st≠4:=⟨h30,h3⟩
   rw[ζ hyes]at hk;refine sh0 Tryz.f72 ?_
   repeat' ((conv=>whnf);first|exact zf|refine zm ?_|refine zc h1 ?_|refine zt ?_|refine zu ?_|intro _)
   exact hk
theorem nz{K:KT}(c:Ca)(s:b7)(v:Va)(ex:Bool)(hqa:∀i o,bW c.t.id s.th=some (i,o)->o.va.q.length<100000000)(hk:K (.ret (.tu [])) (Xt (oK c s v ex))):Z1 72 [.p 0 0,j7 v,.d (.bool ex)] (XK c s) K:=by
 have h1:=q8 c.t v ex;have hid:(eW c.t v ex).id=c.t.id:=rfl;unfold oK at hk;generalize eW c.t v ex=t at h1 hid hk;rw[<-hid]at hqa;have hq:(gk s t.id).va.q.length<100000000:=by
  unfold gk;cases hlk:bW t.id s.th with
  |none=>simp[fK,Ag]
  |some p=>exact hqa p.1 p.2 hlk
 by_cases h30:t.st=3
 .have hnot:¬(t.st≠3/\t.st≠4):=λh=>h.1 h30;simp only[hnot,ψ]at hk;have hg:=pj (K:=λout h=>out=.ret (.tu [gJ (gk s t.id),.d (.bool (gu s t.id))])/\h=jW s) s t.id hq ⟨rfl,rfl⟩;unfold gk gu at hg;cases hlk:bW t.id s.th with
  |none=>
   rw[hlk]at hg hk;refine sh0 Tryz.f72 ?_
   repeat' ((conv=>whnf);first|exact zf|refine(bh (bu ?_):eO _ (eO (kZ _ _ _ _ 16 _ _ _ _ _ _ _) _))|refine zm ?_|refine zc h1 ?_|refine⟨_,_,hg,?_⟩|refine zt ?_|refine zu ?_|intro _)
   exact hk
  |some p=>
   obtain⟨i,o⟩:=p;rw[hlk]at hg hk
   by_cases h6:o.k=6
   .have hset:=λ{K:KT}=>l9 (K:=K) s t.id i {o with v:=v,ex:=ex,dn:=true} o hlk rfl rfl (hqa i o hlk);dsimp only at hk;rw[ζ h6]at hk;refine sh0 Tryz.f72 ?_
    repeat' ((conv=>whnf);first|exact zf|refine(bh (bu ?_):eO _ (eO (kZ _ _ _ _ 16 _ _ _ _ _ _ _) _))|refine zm ?_|refine zc h1 ?_|refine⟨_,_,hg,?_⟩|refine zr0 ?_|refine(hset ?_)|refine zt ?_|refine zu ?_|intro _)
    exact hk
   .simp only[h6,ψ]at hk;refine sh0 Tryz.f72 ?_
    repeat' ((conv=>whnf);first|exact zf|refine(bh (bu ?_):eO _ (eO (kZ _ _ _ _ 16 _ _ _ _ _ _ _) _))|refine zm ?_|refine zc h1 ?_|refine⟨_,_,hg,?_⟩|refine zt ?_|refine zu ?_|intro _)
    exact hk
 .by_cases h3:t.st=4
  .have hnot:¬(t.st≠3/\t.st≠4):=λh=>h.2 h3;simp only[hnot,ψ]at hk;have hg:=pj (K:=λout h=>out=.ret (.tu [gJ (gk s t.id),.d (.bool (gu s t.id))])/\h=jW s) s t.id hq ⟨rfl,rfl⟩;unfold gk gu at hg;cases hlk:bW t.id s.th with
   |none=>
    rw[hlk]at hg hk;refine sh0 Tryz.f72 ?_
    repeat' ((conv=>whnf);first|exact zf|refine(bh (bu ?_):eO _ (eO (kZ _ _ _ _ 16 _ _ _ _ _ _ _) _))|refine zm ?_|refine zc h1 ?_|refine⟨_,_,hg,?_⟩|refine zt ?_|refine zu ?_|intro _)
    exact hk
   |some p=>
    obtain⟨i,o⟩:=p;rw[hlk]at hg hk
    by_cases h6:o.k=6
    .have hset:=λ{K:KT}=>l9 (K:=K) s t.id i {o with v:=v,ex:=ex,dn:=true} o hlk rfl rfl (hqa i o hlk);dsimp only at hk;rw[ζ h6]at hk;refine sh0 Tryz.f72 ?_
     repeat' ((conv=>whnf);first|exact zf|refine(bh (bu ?_):eO _ (eO (kZ _ _ _ _ 16 _ _ _ _ _ _ _) _))|refine zm ?_|refine zc h1 ?_|refine⟨_,_,hg,?_⟩|refine zr0 ?_|refine(hset ?_)|refine zt ?_|refine zu ?_|intro _)
     exact hk
    .simp only[h6,ψ]at hk;refine sh0 Tryz.f72 ?_
     repeat' ((conv=>whnf);first|exact zf|refine(bh (bu ?_):eO _ (eO (kZ _ _ _ _ 16 _ _ _ _ _ _ _) _))|refine zm ?_|refine zc h1 ?_|refine⟨_,_,hg,?_⟩|refine zt ?_|refine zu ?_|intro _)
     exact hk
  .have hyes:t.st≠3/\t.st≠4:=⟨h30,h3⟩
   rw[ζ hyes]at hk;refine sh0 Tryz.f72 ?_
   repeat' ((conv=>whnf);first|exact zf|refine zm ?_|refine zc h1 ?_|refine zt ?_|refine zu ?_|intro _)
   exact hk
def ke(c:Ca)(s:b7)(k:Co)(code:Int):Ca×Bool×b7:=
 let r:=raise k code c.tr
 let c':Ca:={c with t:={c.t with c:=r.1}}
 bif r.2.k==2 then oK c' s r.2.v true else(c',false,s)
theorem LP{K:KT}(c:Ca)(s:b7)(k:Co)(code:Int)(hf:k.fr.length<1000000000)(hst:k.st.length<1000000000)(hqa:∀i o,bW c.t.id s.th=some (i,o)->o.va.q.length<100000000)(hk:K (.ret (.tu [])) (UX (ke c s k code))) :
  Z1 75 [.p 0 0,gZ k,.d (.int .i64 code)] (eP c s) K:=by
 have h1:=ry k code c.tr hf hst;unfold ke at hk;generalize raise k code c.tr=r at h1 hk;have h2:=λ{K:KT}=>JH (K:=K) {c with t:={c.t with c:=r.1}} s r.2.v true hqa;cases hb:r.2.k==2 with
 |true=>
  simp only[hb,δ]at hk;refine sh0 Tryz.f75 ?_
  repeat' ((conv=>whnf);first|exact zf|refine zm ?_|refine zc h1 ?_|refine zr0 ?_|refine(h2 ?_)|refine zt ?_|refine zu ?_|intro _)
  exact hk
 |false=>
  simp only[hb,ε]at hk;refine sh0 Tryz.f75 ?_
  repeat' ((conv=>whnf);first|exact zf|refine zm ?_|refine zc h1 ?_|refine zt ?_|refine zu ?_|intro _)
  exact hk
def n_(n:Int):V:=.fc 2000239 [.d (.int .i64 n)]
theorem jd{K:KT}(n:Int)(hk:K (.fg (n_ n)) []):Z1 249 [.d (.int .i64 n)] [] K:=by
 refine sh0 Tryz.f249 ?_
 exact zh0 hk
theorem gg{K:KT}(hk:K (.ret (.tu [])) []):Z1 236 [.d (.int .i64 0)] [] K:=by
 refine sh0 Tryz.f236 ?_
 repeat' ((conv=>whnf);first|exact zf|refine zm ?_|refine zt ?_|refine zu ?_|intro _)
 exact hk
theorem jr{K:KT}(n:Int)(hn:n≠0)(hk:K (.fg (n_ n)) []):Z1 236 [.d (.int .i64 n)] [] K:=by
 refine sh0 Tryz.f236 ?_
 repeat' ((conv=>whnf);first|exact zf|refine zm ?_|refine(jd n ?_)|refine zt ?_|refine zu ?_|intro _)
 exact hk
theorem mZ{K:KT}(c:Ca)(s:b7)(l:Lb)(hs:jL c.t.g)(hl:cL l)(hj:cL (da c.t.g.cur l))(he:dN c.t.g l=0)(hk:K (.ret (.tu [])) (eP {c with t:={c.t with g:=cw c.t.g l}} s)):Z1 234 [.p 0 0,je l] (eP c s) K:=by
 have h1:=xw c.t.g l hs hl hj;rw[he]at h1;refine sh0 Tryz.f234 ?_
 repeat' ((conv=>whnf);first|exact zf|refine zm ?_|refine zc h1 ?_|refine(gg ?_)|intro _)
 exact hk
theorem mc{K:KT}(c:Ca)(s:b7)(l:Lb)(hs:jL c.t.g)(hl:cL l)(hj:cL (da c.t.g.cur l))(he:dN c.t.g l≠0)(hk:K (.fg (n_ (dN c.t.g l))) (eP c s)):Z1 234 [.p 0 0,je l] (eP c s) K:=by
 have h1:=xw c.t.g l hs hl hj;refine sh0 Tryz.f234 ?_
 repeat' ((conv=>whnf);first|exact zf|refine zm ?_|refine zc h1 ?_|refine(jr _ he ?_)|intro _)
 exact hk
theorem DF{K:KT}(c:Ca)(s:b7)(l:Lb)(hs:jL c.t.g)(hl:cL l)(he:bT c.t.g l=0)(hk:K (.ret (.tu [])) (eP {c with t:={c.t with g:=uM c.t.g l}} s)):Z1 244 [.p 0 0,je l] (eP c s) K:=by
 have h1:=DH c.t.g l hs hl;rw[he]at h1;refine sh0 Tryz.f244 ?_
 repeat' ((conv=>whnf);first|exact zf|refine zm ?_|refine zc h1 ?_|refine(gg ?_)|intro _)
 exact hk
theorem DG{K:KT}(c:Ca)(s:b7)(l:Lb)(hs:jL c.t.g)(hl:cL l)(he:bT c.t.g l≠0)(hk:K (.fg (n_ (bT c.t.g l))) (eP c s)):Z1 244 [.p 0 0,je l] (eP c s) K:=by
 have h1:=DH c.t.g l hs hl;refine sh0 Tryz.f244 ?_
 repeat' ((conv=>whnf);first|exact zf|refine zm ?_|refine zc h1 ?_|refine(jr _ he ?_)|intro _)
 exact hk
theorem wj{K:KT}(c:Ca)(s:b7)(p:List Nat)(n:Nat)(hp:c.t.pa=bm p)(hm:c.t.ma=n)(h0:p≠[])(hl:p.length<24)(hs:∀n∈p,n<100)(hn:n<100)(hr:1<=c.t.ro)(hr2:c.t.ro<1000000000)(hk:K (.ret (.d (.str (bm (p++[n]))))) (eP {c with t:=jo c.t} s)) :
  Z1 250 [.p 0 0] (eP c s) K:=by
 have h1:=sB c.t p n hp hm h0 hl hs hn hr hr2;refine sh0 Tryz.f250 ?_
 repeat' ((conv=>whnf);first|exact zf|refine zm ?_|refine zc h1 ?_|refine zt ?_|refine zu ?_|intro _)
 exact hk
theorem CY{K:KT}(c:Ca)(s:b7)(hr:c.t.ro<1)(hk:K (.fg (n_ (-5))) (eP c s)):Z1 250 [.p 0 0] (eP c s) K:=by
 have h1:=y4 c.t hr;refine sh0 Tryz.f250 ?_
 repeat' ((conv=>whnf);first|exact zf|refine zm ?_|refine zc h1 ?_|refine(jd _ ?_)|refine zt ?_|refine zu ?_|intro _)
 exact hk
def uU(c:Ca)(nm:List UInt8)(o:Ob):Ca:={c with t:={c.t with c:=jX c.t.c ⟨o.k,0,nm,o.l.s,o.l.i⟩}}
theorem Rc{K:KT}(c:Ca)(s:b7)(kp:List Nat)(o:Ob)(hkp:ee kp)(hs:lQ s)(hl:cL o.l)(h3:3<=o.k)(h7:o.k<=7)(hr:ky o.l=true)(hq:o.va.q.length<100000000)(hf:bW (bm kp) s.th=none)(hst:c.t.c.st.length<1000000000)
  (hk:∀b,K (.ret (.tu [])) (eP (uU c (bm kp) o) (qi s kp o b))):Z1 252 [.p 0 0,.d (.str (bm kp)),gJ o] (eP c s) K:=by
 have h1:=λ{K:KT}=>Ju (K:=K) s kp o hkp hs hl h3 h7 hr hq hf;have h2:=λ{K:KT}(b:Option Nat)=>j2 (K:=K) c (qi s kp o b) ⟨o.k,0,bm kp,o.l.s,o.l.i⟩ hst;refine sh0 Tryz.f252 ?_
 repeat' ((conv=>whnf);first|exact zf|refine zm ?_|refine zr0 ?_|refine(h1 (λb=>?_))|refine(h2 _ ?_)|intro _)
 exact hk _
theorem Ll{K:KT}(c:Ca)(s:b7)(p:List Nat)(n:Nat)(o:Ob)(hg:jL c.t.g)(hw:bT c.t.g o.l=0)(hp:c.t.pa=bm p)(hm:c.t.ma=n)(h0:p≠[])(hl:p.length<24)(hps:∀n∈p,n<100)(hn:n<100)(hr:1<=c.t.ro)(hr2:c.t.ro<1000000000)
  (hkp:ee (p++[n])) (hs:lQ s) (hol:cL o.l) (h3:3<=o.k) (h7:o.k<=7) (hro:ky o.l=true) (hq:o.va.q.length<100000000) (hf:bW (bm (p++[n])) s.th=none) (hst:c.t.c.st.length<1000000000)
  (hk:∀b,K (.ret (.tu [])) (eP (uU {c with t:=jo c.t} (bm (p++[n])) o) (qi s (p++[n]) o b))):Z1 237 [.p 0 0,gJ o] (eP c s) K:=by
 have h1:=fR c.t.g o.l hg hol;rw[hw]at h1;have h2:=λ{K:KT}=>wj (K:=K) c s p n hp hm h0 hl hps hn hr hr2;have h4:=λ{K:KT}=>Rc (K:=K) {c with t:=jo c.t} s (p++[n]) o hkp hs hol h3 h7 hro hq hf hst;refine sh0 Tryz.f237 ?_
 repeat' ((conv=>whnf);first|exact zf|refine zm ?_|refine zc h1 ?_|intro _)
 conv=>whnf
 refine gg ?_
 repeat' ((conv=>whnf);first|exact zf|refine(dG ?_)|refine zm ?_|refine zr0 ?_|refine(h2 ?_)|refine(h4 (λb=>?_))|refine And.intro ?_ ?_|intro _)
 all_goals exact hk _
def uX(f:Nat)(m:Mh)(st st':List Va)(ts:List Tr)(tk:List Va)(bY:List Fr):Prop:=
 ∀K:Out->H->Prop,K (.ret (.tu [])) [.cells (iV m (.d (.sl 5 (bY.map bS))) st' ts (hT tk) cD false 0),.no] ->
  Z1 f [.p 0 0] [.cells (iV m (.os 1) st ts (hT tk) cD false 0),.rows 5 (bY.map bS)] K
def jH(f:Nat)(m:Mh)(st:List Va)(ts ts':List Tr)(tk:List Va)(bY frs':List Fr)(wr:Bool)(cd:Int):Prop:=
 ∀K:Out->H->Prop,K (.ret (.tu [])) [.cells (iV m (.os 1) st ts' (hT tk) cD wr cd),.rows 5 (frs'.map bS)] ->
  Z1 f [.p 0 0] [.cells (iV m (.os 1) st ts (hT tk) cD false 0),.rows 5 (bY.map bS)] K
theorem QC(m:Mh)(st:List Va)(ts:List Tr)(tk:List Va)(bY:List Fr)(v:Va)(hs:st.length<1000000000)(h0:0<=m.o.a)(hv:m.im.cs[m.o.a.toNat]?=some v):uX 145 m st (st++[v]) ts tk bY:=by
 intro K hk;refine sh0 Tryz.f145 ?_;have hrow:(m.im.cs.map cE)[m.o.a.toNat]?=some (cE v):=by simp[hv]
 repeat' ((conv=>whnf);first|exact zf|refine zm ?_|intro _)
 refine⟨cE v,⟨h0,hrow,rfl⟩,?_⟩
 repeat' ((conv=>whnf);first|exact zf|refine zm ?_|refine zr0 ?_|refine lz m st ts tk cD false 0 bY v hs ?_|intro _)
 exact hk
theorem Qc(m:Mh)(st:List Va)(ts:List Tr)(tk:List Va)(bY:List Fr)(f:Fr)(v:Va)(hs:st.length<1000000000)(hl:0<bY.length)(hlf:bY.length<1000000000)(hf:bY[bY.length-1]?=some f)(h0:0<=m.o.a)(hv:f.vars[m.o.a.toNat]?=some v):uX 146 m st (st++[v]) ts tk bY:=by
 intro K hk;refine sh0 Tryz.f146 ?_;have hrow:(bY.map bS)[(((bY.map bS).length:Int)-1).toNat]?=some (bS f):=by
  rw[aB,aH];have e:((bY.length:Int)-1).toNat=bY.length-1:=by omega
  rw[e,hf];rfl
 have hrow2:(f.vars.map cE)[m.o.a.toNat]?=some (cE v):=by simp[hv]
 repeat' ((conv=>whnf);first|exact zf|refine(bh (bu ?_):eO _ (eO (kZ _ _ _ _ 167 _ _ _ _ _ _ _) _))|refine zm ?_|refine⟨_,_,vC m st ts tk cD false 0 _ (by simp;omega) (by simp;omega) (And.intro rfl rfl),?_⟩|intro _)
 refine⟨bS f,hrow,?_⟩
 repeat' ((conv=>whnf);first|exact zf|refine zm ?_|intro _)
 refine⟨cE v,⟨h0,hrow2,rfl⟩,?_⟩
 repeat' ((conv=>whnf);first|exact zf|refine zm ?_|refine zr0 ?_|refine lz m st ts tk cD false 0 bY v hs ?_|intro _)
 exact hk
theorem Sn(m:Mh)(st:List Va)(ts:List Tr)(tk:List Va)(bY:List Fr):jH 148 m st ts ts tk bY bY false 0:=by
 intro K hk;refine sh0 Tryz.f148 ?_
 exact zh0 hk
theorem UN(m:Mh)(st:List Va)(ts:List Tr)(a:Va)(bY:List Fr)(hs:st.length<900000000):uX 149 m st ((st++[a])++[a]) ts [a] bY:=by
 intro K hk;refine sh0 Tryz.f149 ?_
 repeat' ((conv=>whnf);first|exact zf|refine zm ?_|refine zr0 ?_|refine lz m st ts [a] cD false 0 bY a (by omega) ?_|refine Ar m (st++[a]) ts [a] cD false 0 bY a (by simp;omega) ?_|refine⟨_,⟨by decide,rfl,rfl⟩,?_⟩|refine⟨_,rfl,?_⟩|intro _)
 exact hk
theorem P3(m:Mh)(st:List Va)(ts:List Tr)(a b:Va)(bY:List Fr)(hs:st.length<900000000):uX 150 m st ((st++[b])++[a]) ts [a,b] bY:=by
 intro K hk;refine sh0 Tryz.f150 ?_
 repeat' ((conv=>whnf);first|exact zf|refine zm ?_|refine zr0 ?_|refine lz m st ts [a,b] cD false 0 bY b (by omega) ?_|refine Ar m (st++[b]) ts [a,b] cD false 0 bY a (by simp;omega) ?_|refine⟨_,⟨by decide,rfl,rfl⟩,?_⟩|refine⟨_,rfl,?_⟩|intro _)
 exact hk
theorem Vw(m:Mh)(st:List Va)(ts:List Tr)(a b:Va)(bY:List Fr)(hs:st.length<900000000):uX 152 m st (st++[iY (Q_ a b)]) ts [a,b] bY:=by
 intro K hk;refine s152.go (keep:=false) rfl ?_
 repeat' ((conv=>whnf);first|exact zf|refine zm ?_|refine zc (Bq (Q_ a b)) ?_|refine zr0 ?_|refine lz m st ts [a,b] cD false 0 bY (iY (Q_ a b)) (by omega) ?_|refine⟨_,⟨by decide,rfl,rfl⟩,?_⟩|refine⟨_,rfl,?_⟩|intro _)
 exact hk
theorem QX(m:Mh)(st:List Va)(ts:List Tr)(a b:Va)(bY:List Fr)(n:Int)(hs:st.length<1000000000)(hc:7<=m.o.c/\m.o.c<=13)(hn:p5 m.o.c a.n b.n=lq n):FF 216 [j7 a,j7 b] m st (st++[num n]) ts [a,b] bY:=by
 intro K hk;have h:=UQ m.o.c a.n b.n hc;rw[hn]at h;refine sh0 Tryz.f216 ?_
 repeat' ((conv=>whnf);first|exact zf|refine zm ?_|refine zc h ?_|refine zc (nV n) ?_|refine zr0 ?_|refine lz m st ts [a,b] cD false 0 bY (num n) hs ?_|intro _)
 exact hk
theorem QW(m:Mh)(st:List Va)(ts:List Tr)(a b:Va)(bY:List Fr)(hc:7<=m.o.c/\m.o.c<=13)(hn:p5 m.o.c a.n b.n=qR):vt 216 [j7 a,j7 b] m st ts [a,b] bY bY true (-2):=by
 intro K hk;have h:=UQ m.o.c a.n b.n hc;rw[hn]at h;refine sh0 Tryz.f216 ?_
 repeat' ((conv=>whnf);first|exact zf|refine zm ?_|refine zc h ?_|refine zr0 ?_|refine nL m st ts [a,b] cD false 0 (bY.map bS) (-2) ?_|intro _)
 exact hk
theorem EE(m:Mh)(st:List Va)(ts:List Tr)(a b:Va)(bY:List Fr)(n:Int)(hs:st.length<1000000000)(hc:7<=m.o.c/\m.o.c<=13)(ha:a.k=1)(hb:b.k=1)(hn:p5 m.o.c a.n b.n=lq n):uX 151 m st (st++[num n]) ts [a,b] bY:=by
 intro K hk;refine sh0 Tryz.f151 ?_
 repeat' ((conv=>whnf);first|exact zf|refine zm ?_|refine zr0 ?_|refine AB 216 rfl m st (st++[num n]) ts a b 1 bY ha hb (QX m st ts a b bY n hs hc hn) ?_|intro _)
 exact hk
theorem ED(m:Mh)(st:List Va)(ts:List Tr)(a b:Va)(bY:List Fr)(hc:7<=m.o.c/\m.o.c<=13)(ha:a.k=1)(hb:b.k=1)(hn:p5 m.o.c a.n b.n=qR):jH 151 m st ts ts [a,b] bY bY true (-2):=by
 intro K hk;refine sh0 Tryz.f151 ?_
 repeat' ((conv=>whnf);first|exact zf|refine zm ?_|refine zr0 ?_|refine PY 216 rfl m st ts a b 1 bY bY true (-2) ha hb (QW m st ts a b bY hc hn) ?_|intro _)
 exact hk
theorem EC(m:Mh)(st:List Va)(ts:List Tr)(a b:Va)(bY:List Fr)(hab:¬(a.k=1/\b.k=1)):jH 151 m st ts ts [a,b] bY bY true (-1):=by
 intro K hk;refine sh0 Tryz.f151 ?_
 repeat' ((conv=>whnf);first|exact zf|refine zm ?_|refine zr0 ?_|refine AA 216 m st ts a b 1 bY hab ?_|intro _)
 exact hk
theorem Fc(m:Mh)(st:List Va)(ts:List Tr)(a:Va)(bY:List Fr):vt 224 [j7 a] m st ts [a] bY bY true a.n:=by
 intro K hk;refine sh0 Tryz.f224 ?_
 repeat' ((conv=>whnf);first|exact zf|refine zm ?_|refine zr0 ?_|refine nL m st ts [a] cD false 0 (bY.map bS) a.n ?_|intro _)
 exact hk
theorem Fb(m:Mh)(st:List Va)(ts:List Tr)(a:Va)(bY:List Fr)(ha:a.k=1):jH 158 m st ts ts [a] bY bY true a.n:=by
 intro K hk;refine sh0 Tryz.f158 ?_
 repeat' ((conv=>whnf);first|exact zf|refine zm ?_|refine zr0 ?_|refine Ab 224 rfl m st ts a 1 bY bY true a.n ha (Fc m st ts a bY) ?_|intro _)
 exact hk
theorem Fa(m:Mh)(st:List Va)(ts:List Tr)(a:Va)(bY:List Fr)(ha:¬a.k=1):jH 158 m st ts ts [a] bY bY true (-1):=by
 intro K hk;refine sh0 Tryz.f158 ?_
 repeat' ((conv=>whnf);first|exact zf|refine zm ?_|refine zr0 ?_|refine Aa 224 m st ts a 1 bY ha ?_|intro _)
 exact hk
theorem wA{K:KT}(m:Mh)(st:List Va)(ts:List Tr)(tk:List Va)(u:Ou)(wr:Bool)(cd:Int)(bY:List Fr)(f:Fr)(hl:0<bY.length)(hlf:bY.length<1000000000)(hf:bY[bY.length-1]?=some f)
  (hk:K (.ret (.e (bS f) 0)) [.cells (iV m (.d (.sl 5 (bY.map bS))) st ts (hT tk) u wr cd)]) :
  Z1 167 [.p 0 0] [.cells (iV m (.d (.sl 5 (bY.map bS))) st ts (hT tk) u wr cd)] K:=by
 have hrow:(bY.map bS)[(((bY.map bS).length:Int)-1).toNat]?=some (bS f):=by
  rw[aB,aH];have e:((bY.length:Int)-1).toNat=bY.length-1:=by omega
  rw[e,hf];rfl
 refine sh0 Tryz.f167 ?_
 repeat' ((conv=>whnf);first|exact zf|refine zm ?_|intro _)
 refine⟨bS f,⟨by simp;omega,hrow,rfl⟩,?_⟩
 exact zh0 hk
theorem Eh{K:KT}(m:Mh)(st:List Va)(ts:List Tr)(tk:List Va)(u:Ou)(wr:Bool)(cd:Int)(rows:List (List D))(n:Int)
  (hk:K (.ret (.tu [])) [.cells (iV m (.d (.sl 5 rows)) st ts (hT tk) u true n)]) :
  Z1 218 [.p 0 0,.d (.int .i64 n)] [.cells (iV m (.d (.sl 5 rows)) st ts (hT tk) u wr cd)] K:=by
 refine sh0 Tryz.f218 ?_
 exact zh0 hk
def ed(bY:List Fr)(f:Fr):List Fr:=bY.set (bY.length-1) f
theorem nD{bY:List Fr}(hl:0<bY.length)(f:Fr):(bY.map bS).set (((bY.map bS).length:Int)-1).toNat (bS f)=(ed bY f).map bS:=by
 rw[ed,fX,aH];congr 1;omega
theorem nC{bY:List Fr}{f:Fr}(hl:0<bY.length)(hf:bY[bY.length-1]?=some f):(bY.map bS)[(((bY.map bS).length:Int)-1).toNat]?=some (bS f):=by
 rw[aB,aH];have e:((bY.length:Int)-1).toNat=bY.length-1:=by omega
 rw[e,hf];rfl
theorem H7(m:Mh)(st:List Va)(ts:List Tr)(tk:List Va)(bY:List Fr)(f:Fr)(hl:0<bY.length)(hlf:bY.length<1000000000)(hf:bY[bY.length-1]?=some f) :
  jH 154 m st ts ts tk bY (ed bY {f with pc:=m.o.a}) false 0:=by
 intro K hk;have hrow:=nC hl hf;rw[<-nD hl]at hk;refine sh0 Tryz.f154 ?_
 repeat' ((conv=>whnf);first|exact zf|refine(bh (bu ?_):eO _ (eO (kZ _ _ _ _ 167 _ _ _ _ _ _ _) _))|refine zm ?_|refine⟨_,_,vC m st ts tk cD false 0 _ (by simp;omega) (by simp;omega) (And.intro rfl rfl),?_⟩|intro _)
 refine⟨bS f,hrow,⟨rfl,rfl,rfl⟩,?_⟩
 exact zh0 hk
def ye(a:Int)(ma:Int):Int:=jG .and .u8 ma (IntKind.u8.wrap (jG .and .i64 a 255))
theorem Qf(m:Mh)(st:List Va)(ts:List Tr)(tk:List Va)(bY:List Fr)(f:Fr)(hl:0<bY.length)(hlf:bY.length<1000000000)(hf:bY[bY.length-1]?=some f) :
  jH 165 m st ts ts tk bY (ed bY {f with ma:=ye m.o.a f.ma}) false 0:=by
 intro K hk;have hrow:=nC hl hf;rw[<-nD hl]at hk;refine sh0 Tryz.f165 ?_
 repeat' ((conv=>whnf);first|exact zf|refine(bh (bu ?_):eO _ (eO (kZ _ _ _ _ 167 _ _ _ _ _ _ _) _))|refine zm ?_|refine⟨_,_,vC m st ts tk cD false 0 _ (by simp;omega) (by simp;omega) (And.intro rfl rfl),?_⟩|intro _)
 refine⟨bS f,hrow,?_⟩
 repeat' ((conv=>whnf);first|exact zf|refine zm ?_|refine .inr ?_|intro _)
 refine⟨bS f,hrow,⟨rfl,rfl,rfl⟩,?_⟩
 exact zh0 hk
theorem Sr(m:Mh)(st:List Va)(ts:List Tr)(tk:List Va)(bY:List Fr)(f:Fr)(hs:st.length<1000000000)(hl:0<bY.length)(hlf:bY.length<1000000000)(hf:bY[bY.length-1]?=some f)(hma:0<=f.ma/\f.ma<=255) :
  uX 166 m st (st++[num f.ma]) ts tk bY:=by
 intro K hk;have hrow:=nC hl hf;refine sh0 Tryz.f166 ?_
 repeat' ((conv=>whnf);first|exact zf|refine zm ?_|refine zr0 ?_|refine vC m st ts tk cD false 0 _ (by simp;omega) (by simp;omega) ?_|intro _)
 refine⟨bS f,hrow,?_⟩
 repeat' ((conv=>whnf);first|exact zf|refine zm ?_|refine zc (nV f.ma) ?_|refine zr0 ?_|refine lz m st ts tk cD false 0 bY (num f.ma) hs ?_|intro _)
 exact hk
theorem BB(m:Mh)(st:List Va)(ts:List Tr)(a:Va)(bY:List Fr)(f:Fr)(hl:0<bY.length)(hlf:bY.length<1000000000)(hf:bY[bY.length-1]?=some f)(hn:a.n≠0) :
  vt 222 [j7 a] m st ts [a] bY (ed bY {f with pc:=m.o.a}) false 0:=by
 intro K hk;refine sh0 Tryz.f222 ?_
 repeat' ((conv=>whnf);first|exact zf|refine zm ?_|intro _)
 refine aW (λ_=>?_) (λh=>absurd (by simpa using h) hn)
 repeat' ((conv=>whnf);first|exact zf|refine zm ?_|refine zr0 ?_|refine H7 m st ts [a] bY f hl hlf hf _ ?_|intro _)
 exact hk
theorem BA(m:Mh)(st:List Va)(ts:List Tr)(a:Va)(bY:List Fr)(hn:a.n=0) :
  vt 222 [j7 a] m st ts [a] bY bY false 0:=by
 intro K hk;refine sh0 Tryz.f222 ?_
 repeat' ((conv=>whnf);first|exact zf|refine zm ?_|intro _)
 refine aW (λh=>absurd hn (by simpa using h)) (λ_=>?_)
 exact zh0 hk
theorem E0(m:Mh)(st:List Va)(ts:List Tr)(a:Va)(bY:List Fr)(f:Fr)(hl:0<bY.length)(hlf:bY.length<1000000000)(hf:bY[bY.length-1]?=some f)(ha:a.k=1)(hn:a.n≠0) :
  jH 155 m st ts ts [a] bY (ed bY {f with pc:=m.o.a}) false 0:=by
 intro K hk;refine sh0 Tryz.f155 ?_
 repeat' ((conv=>whnf);first|exact zf|refine zm ?_|refine zr0 ?_|refine Ab 222 rfl m st ts a 1 bY _ false 0 ha (BB m st ts a bY f hl hlf hf hn) ?_|intro _)
 exact hk
theorem EZ(m:Mh)(st:List Va)(ts:List Tr)(a:Va)(bY:List Fr)(ha:a.k=1)(hn:a.n=0) :
  jH 155 m st ts ts [a] bY bY false 0:=by
 intro K hk;refine sh0 Tryz.f155 ?_
 repeat' ((conv=>whnf);first|exact zf|refine zm ?_|refine zr0 ?_|refine Ab 222 rfl m st ts a 1 bY bY false 0 ha (BA m st ts a bY hn) ?_|intro _)
 exact hk
theorem EY(m:Mh)(st:List Va)(ts:List Tr)(a:Va)(bY:List Fr)(ha:¬a.k=1):jH 155 m st ts ts [a] bY bY true (-1):=by
 intro K hk;refine sh0 Tryz.f155 ?_
 repeat' ((conv=>whnf);first|exact zf|refine zm ?_|refine zr0 ?_|refine Aa 222 m st ts a 1 bY ha ?_|intro _)
 exact hk
theorem Q2(m:Mh)(st:List Va)(ts:List Tr)(a:Va)(bY:List Fr)(hs:st.length<1000000000):FF 221 [j7 a] m st (st++[iY (a.n==0)]) ts [a] bY:=by
 intro K hk;refine sh0 Tryz.f221 ?_
 repeat' ((conv=>whnf);first|exact zf|refine zm ?_|refine zc (Bq (a.n==0)) ?_|refine zr0 ?_|refine lz m st ts [a] cD false 0 bY (iY (a.n==0)) hs ?_|intro _)
 exact hk
theorem Q1(m:Mh)(st:List Va)(ts:List Tr)(a:Va)(bY:List Fr)(hs:st.length<1000000000)(ha:a.k=1):uX 153 m st (st++[iY (a.n==0)]) ts [a] bY:=by
 intro K hk;refine sh0 Tryz.f153 ?_
 repeat' ((conv=>whnf);first|exact zf|refine zm ?_|refine zr0 ?_|refine QP 221 rfl m st _ ts a 1 bY ha (Q2 m st ts a bY hs) ?_|intro _)
 exact hk
theorem Q0(m:Mh)(st:List Va)(ts:List Tr)(a:Va)(bY:List Fr)(ha:¬a.k=1):jH 153 m st ts ts [a] bY bY true (-1):=by
 intro K hk;refine sh0 Tryz.f153 ?_
 repeat' ((conv=>whnf);first|exact zf|refine zm ?_|refine zr0 ?_|refine Aa 221 m st ts a 1 bY ha ?_|intro _)
 exact hk
theorem DC(l:List (List D)):Z0 225 [.d (.sl 3 l)] (.cl 3 l):=by
 refine sh0 Tryz.f225 ?_
 repeat' ((conv=>whnf);first|exact zf|refine zm ?_|intro _)
 exact cJ (κ (V.cl 3) (by simp))
theorem SQ(m:Mh)(st:List Va)(ts:List Tr)(tk:List Va)(bY:List Fr)(ht:ts.length<1000000000) :
  jH 159 m st ts (ts++[⟨bY.length,st.length,m.o.a⟩]) tk bY bY false 0:=by
 intro K hk;refine sh0 Tryz.f159 ?_;have ht':(ts.map eF).length<1000000000:=by simpa using ht
 repeat' ((conv=>whnf);first|exact zf|refine zm ?_|refine zc (DC (ts.map eF)) ?_|intro _)
 have e:(ts++[(⟨bY.length,st.length,m.o.a⟩:Tr)]).map eF=ts.map eF++[[.int .i64 ((bY.map bS).length:Int),.int .i64 ((st.map cE).length:Int),.int .i64 m.o.a]]:=by simp[eF]
 unfold iV at hk;rw[e]at hk;exact hk
def To(m:Mh)(c0:V)(st:List Va)(c2:V)(tk:V)(u:Ou)(wr:Bool)(cd:Int):List V:=
  [.d (.sl 5 (m.im.cs.map cE)), .d (.sl 3 (m.im.fs.map dc)), .d (.sl 5 (m.gF.fr.map bS)), .d (.sl 5 (m.gF.st.map cE)), .d (.sl 3 (m.gF.tr.map eF)),
   c0,.d (.sl 5 (st.map cE)),c2,.d (.int .i64 m.o.c),.d (.int .i64 m.o.a),tk,.d (.int .i64 m.fr),.d (.int .i64 m.tr),
   .d (.int .i64 u.k),.d (.int .i64 u.v.k),.d (.int .i64 u.v.n),.d (.str u.v.nm),.d (.str u.v.ls),.d (.str u.v.li),.d (.int .i64 u.o.c),.d (.int .i64 u.o.a),.d (.bool wr),.d (.int .i64 cd)]
theorem RB{K:KT}(m:Mh)(st:List Va)(ts:List Tr)(tk:List Va)(bY:List Fr)(hn:m.tr<ts.length)(h0:0<=m.tr)
  (hk:K (.ret (.tu [])) [.cells (To m (.os 1) st (.cl 3 ((ts.take (ts.length-1)).map eF)) (hT tk) cD false 0),.rows 5 (bY.map bS)]) :
  Z1 160 [.p 0 0] [.cells (iV m (.os 1) st ts (hT tk) cD false 0),.rows 5 (bY.map bS)] K:=by
 refine sh0 Tryz.f160 ?_
 repeat' ((conv=>whnf);first|exact zf|refine zm ?_|intro _)
 refine aW (λ_=>?_) (λh=>absurd h (by simp;omega));have e:((ts.map eF).take (((ts.map eF).length:Int)-1).toNat).drop (0:Int).toNat=(ts.take (ts.length-1)).map eF:=by
  rw[aH,<-e_];show List.map eF _=_;congr 2;omega
 rw[<-e]at hk
 repeat' ((conv=>whnf);first|exact zf|refine zm ?_|refine zc (DC _) ?_|intro _)
 exact hk
theorem RA{K:KT}(m:Mh)(st:List Va)(ts:List Tr)(tk:List Va)(bY:List Fr)(hn:¬m.tr<ts.length)
  (hk:K (.ret (.tu [])) [.cells (iV m (.os 1) st ts (hT tk) cD false 0),.rows 5 (bY.map bS)]) :
  Z1 160 [.p 0 0] [.cells (iV m (.os 1) st ts (hT tk) cD false 0),.rows 5 (bY.map bS)] K:=by
 refine sh0 Tryz.f160 ?_
 repeat' ((conv=>whnf);first|exact zf|refine zm ?_|intro _)
 refine aW (λh=>absurd h (by simp;omega)) (λ_=>?_)
 exact zh0 hk
theorem Mp{K:KT}(m:Mh)(st:List Va)(ts:List Tr)(tk:List Va)(bY:List Fr)(f:Fr)(g:Fn)(hl:0<bY.length)(hlf:bY.length<1000000000)(htk:tk.length<1000000000)(hf:bY[bY.length-1]?=some f)(h0:0<=m.o.a)(hg:m.im.fs[m.o.a.toNat]?=some g)(hy:db ⟨bY,st,ts⟩=true)
  (hk:K (.ret (.tu [])) [.cells (iV m (.d (.sl 5 ((gA ⟨bY,st,ts⟩ m.o.a g.vars tk f.ma).fr.map bS))) st ts (hT tk) cD false 0),.no]) :
  Z1 156 [.p 0 0] [.cells (iV m (.os 1) st ts (hT tk) cD false 0),.rows 5 (bY.map bS)] K:=by
 have he:=kV ⟨bY,st,ts⟩ m.o.a g.vars tk f.ma hlf htk;simp only[mC,hy,δ]at he;have hrow:(m.im.fs.map dc)[m.o.a.toNat]?=some (dc g):=by simp[hg]
 refine sh0 Tryz.f156 ?_
 repeat' ((conv=>whnf);first|exact zf|refine iy [1] ?_|refine(bh (bu ?_):eO _ (eO (kZ _ _ _ _ 167 _ _ _ _ _ _ _) _))|refine zm ?_|refine zc he ?_|refine⟨_,_,wA m st ts tk cD false 0 bY f hl hlf hf (And.intro rfl rfl),?_⟩|intro _)
 refine⟨dc g,⟨h0,hrow,rfl⟩,?_⟩
 repeat' ((conv=>whnf);first|exact zf|refine(bh (bu ?_):eO _ (eO (kZ _ _ _ _ 167 _ _ _ _ _ _ _) _))|refine zm ?_|refine zc he ?_|refine⟨_,_,wA m st ts tk cD false 0 bY f hl hlf hf (And.intro rfl rfl),?_⟩|intro _)
 exact hk
theorem Mo{K:KT}(m:Mh)(st:List Va)(ts:List Tr)(tk:List Va)(bY:List Fr)(f:Fr)(g:Fn)(hl:0<bY.length)(hlf:bY.length<1000000000)(htk:tk.length<1000000000)(hf:bY[bY.length-1]?=some f)(h0:0<=m.o.a)(hg:m.im.fs[m.o.a.toNat]?=some g)(hy:db ⟨bY,st,ts⟩=false)
  (hk:K (.ret (.tu [])) [.cells (iV m (.d (.sl 5 (bY.map bS))) st ts (hT tk) cD true (-6)),.no]) :
  Z1 156 [.p 0 0] [.cells (iV m (.os 1) st ts (hT tk) cD false 0),.rows 5 (bY.map bS)] K:=by
 have he:=kV ⟨bY,st,ts⟩ m.o.a g.vars tk f.ma hlf htk;simp only[mC,hy,ε]at he;have hrow:(m.im.fs.map dc)[m.o.a.toNat]?=some (dc g):=by simp[hg]
 refine sh0 Tryz.f156 ?_
 repeat' ((conv=>whnf);first|exact zf|refine iy [1] ?_|refine(bh (bu ?_):eO _ (eO (kZ _ _ _ _ 167 _ _ _ _ _ _ _) _))|refine zm ?_|refine zc he ?_|refine⟨_,_,wA m st ts tk cD false 0 bY f hl hlf hf (And.intro rfl rfl),?_⟩|intro _)
 refine⟨dc g,⟨h0,hrow,rfl⟩,?_⟩
 repeat' ((conv=>whnf);first|exact zf|refine(bh (bu ?_):eO _ (eO (kZ _ _ _ _ 167 _ _ _ _ _ _ _) _))|refine zm ?_|refine zc he ?_|refine⟨_,_,wA m st ts tk cD false 0 bY f hl hlf hf (And.intro rfl rfl),?_⟩|refine zr0 ?_|refine Eh m st ts tk cD false 0 (bY.map bS) (-6) ?_|intro _)
 exact hk
theorem Pt{K:KT}(m:Mh)(st:List Va)(ts:List Tr)(tk:List Va)(bY:List Fr)(hf:m.gF.fr.length<1000000000)(hs:m.gF.st.length<1000000000)(ht:m.gF.tr.length<1000000000)(hy:oU m.gF=true)(hn:((fw m.gF).fr.length:Int)<=m.fr)
  (hk:K (.ret (.tu [])) [.cells (iV m (.d (.sl 5 ((fw m.gF).fr.map bS))) (fw m.gF).st (fw m.gF).tr (hT tk) ⟨1,rQ m.gF,o0⟩ false 0),.rows 5 (bY.map bS)]) :
  Z1 157 [.p 0 0] [.cells (iV m (.os 1) st ts (hT tk) cD false 0),.rows 5 (bY.map bS)] K:=by
 have he:=GN m.gF hf hs ht;simp only[Dq,hy,δ]at he;refine sh0 Tryz.f157 ?_
 repeat' ((conv=>whnf);first|exact zf|refine zm ?_|refine zc he ?_|intro _)
 refine aW (λ_=>?_) (λh=>absurd h (by simp;omega))
 exact zh0 hk
theorem Ps{K:KT}(m:Mh)(st:List Va)(ts:List Tr)(tk:List Va)(bY:List Fr)(hf:m.gF.fr.length<1000000000)(hs:m.gF.st.length<1000000000)(ht:m.gF.tr.length<1000000000)(hs2:(fw m.gF).st.length<1000000000)(hy:oU m.gF=true)(hn:¬((fw m.gF).fr.length:Int)<=m.fr)
  (hk:K (.ret (.tu [])) [.cells (iV m (.d (.sl 5 ((fw m.gF).fr.map bS))) ((fw m.gF).st++[rQ m.gF]) (fw m.gF).tr (hT tk) cD false 0),.rows 5 (bY.map bS)]) :
  Z1 157 [.p 0 0] [.cells (iV m (.os 1) st ts (hT tk) cD false 0),.rows 5 (bY.map bS)] K:=by
 have he:=GN m.gF hf hs ht;simp only[Dq,hy,δ]at he;refine sh0 Tryz.f157 ?_
 repeat' ((conv=>whnf);first|exact zf|refine zm ?_|refine zc he ?_|intro _)
 refine aW (λh=>absurd h (by simp;omega)) (λ_=>?_)
 repeat' ((conv=>whnf);first|exact zf|refine zm ?_|refine zr0 ?_|refine Ar m (fw m.gF).st (fw m.gF).tr tk cD false 0 (fw m.gF).fr (rQ m.gF) hs2 ?_|intro _)
 exact hk
def UW:List (Int×Nat):=[(1,1000145),(2,1000146),(3,1000147),(4,1000148),(5,1000149),(6,1000150),(7,1000151),(8,1000151),(9,1000151),(10,1000151),(11,1000151),(12,1000152),(13,1000151),(14,1000153),(15,1000154),(16,1000155),(17,1000156),(18,1000157),(19,1000158),(20,1000159),(21,1000160),(22,1000161),(23,1000162),(24,1000163),(31,1000164),(44,1000165),(47,1000166)]
def D7(id:Nat):List (V×V):=UW.map λp=>(.d (.int .i64 p.1),.fc p.2 [.p id 0])
set_option maxRecDepth 100000 in
theorem l5{K:KT}(m:Mh)(hk:K (.ret (.mp 1)) [.cells (Q9 m),.mp (D7 0)]):Z1 107 [.p 0 0] [.cells (Q9 m)] K:=by
  refine si0 Tryz.f107 ?_
  repeat' ((conv=>whnf);first|exact zf|refine zm ?_|refine⟨_,rfl,?_⟩|intro _)
  exact hk
end Go.Proofs.YtjpgfgajkjhonaaGreatDoor