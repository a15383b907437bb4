/- Lemmas. Conditions: none. -/
import Derived.Test.YtjpgfgajkjhonaaGreatDoorQHAX
set_option maxHeartbeats 4000000
namespace Go.Proofs.YtjpgfgajkjhonaaGreatDoor
open Go.Vx
set_option maxRecDepth 100000
structure Info where
  nm:List UInt8
  ar:Int
  po:Int
  pu:Int
def uB:List D→Option Info
 |[.str s,.int .u8 a,.int .u8 p,.int .u8 q]=>some ⟨s,a,p,q⟩
 |_=>none
def Nq (r:List D):Bool:=match uB r with
 |some i=>decide (0≤i.ar)&&(decide (i.ar≤5)&&(decide (0≤i.po)&&(decide (i.po≤4)&&(decide (0≤i.pu)&&decide (i.pu≤2)))))
 |none=>false
theorem GZ:iP.all Nq=true:=rfl
theorem Eo {r:List D} {i:Info} (h:uB r=some i):r = [.str i.nm,.int .u8 i.ar,.int .u8 i.po,.int .u8 i.pu]:=by
 unfold uB at h;split at h
 ·cases h;rfl
 ·cases h
def inf (c:Int):Option Info:=bif decide (1≤c)&&decide (c≤47) then (iP[(c - 1).toNat]?).bind uB else none
def last (c:Int):Bool:=(c==15)||((c==18)||(c==19))
def pP (c:Int):V:=match inf c with
 |some i=>.tu [.ag [.d (.str i.nm),.d (.int .i64 i.ar),.d (.int .i64 i.po),.d (.int .i64 i.pu),.d (.bool (last c))],.d (.bool true)]
 |none=>.tu [.ag [.d (.str []),.d (.int .i64 0),.d (.int .i64 0),.d (.int .i64 0),.d (.bool false)],.d (.bool false)]
theorem xO {c:Int} (h1:1≤c) (h2:c≤47):∃i,inf c=some i∧(chunk 4 47 (iP.flatten.drop 0))[(c - 1).toNat]? = some [.str i.nm,.int .u8 i.ar,.int .u8 i.po,.int .u8 i.pu] ∧
  0≤i.ar∧i.ar≤5∧0≤i.po∧i.po≤4∧0≤i.pu∧i.pu≤2:=by
 have hlen:iP.length=47:=rfl;have hc:chunk 4 47 (iP.flatten.drop 0)=iP:=rfl;obtain ⟨r,hr⟩:∃r,iP[(c - 1).toNat]? = some r:=⟨_,aB (by omega)⟩
 have hf:=aT.1 GZ r (aH hr);unfold Nq at hf;cases hi:uB r with
 |none=>rw [hi] at hf;cases hf
 |some i=>
  rw [hi] at hf;simp only [aP,χ] at hf;refine ⟨i,by unfold inf;rw [show (decide (1≤c)&&decide (c≤47))=true by simp [h1,h2]];simp only [δ,hr,Option.bind_some,hi],?_,hf.1,hf.2.1,hf.2.2.1,hf.2.2.2.1,hf.2.2.2.2.1,hf.2.2.2.2.2⟩;rw [hc,hr,Eo hi]
theorem Hy {c:Int} (h:c<1∨47<c):inf c=none:=by
 have:(decide (1≤c)&&decide (c≤47))=false:=by
  cases hh:(decide (1≤c)&&decide (c≤47)) with
  |false=>rfl
  |true=>simp at hh;omega
 simp [inf,this]
theorem uC {c:Int} {i:Info} (h:inf c=some i):1≤c∧c≤47∧0≤i.ar∧i.ar≤5∧0≤i.po∧i.po≤4∧0≤i.pu∧i.pu≤2:=by
 by_cases h0:1≤c∧c≤47
 ·obtain ⟨i',h1,_,h2⟩:=xO h0.1 h0.2;rw [h] at h1;cases h1;exact ⟨h0.1,h0.2,h2⟩
 ·rw [Hy (by omega)] at h;cases h
theorem Dl (c:Int):Z0 112 [.d (.int .i64 c)] (pP c):=by
  by_cases h0:1≤c∧c≤47
  · obtain ⟨i,h1,h2,h3⟩:=xO h0.1 h0.2
    have hr:pP c = .tu [.ag [.d (.str i.nm),.d (.int .i64 i.ar),.d (.int .i64 i.po),.d (.int .i64 i.pu),.d (.bool (last c))],.d (.bool true)]:=by simp only [pP,h1]
    rw [hr]
    refine sh0 Tryz.f112 ?_
    repeat' ((conv=>whnf);first | exact zf | refine zm ?_ | intro _)
    refine aX (λhb=>absurd hb (by simp;omega)) (λhb=>?_)
    repeat' ((conv=>whnf);first | exact zf | refine zm ?_ | intro _)
    refine aX (λhb=>absurd hb (by simp;omega)) (λhb=>?_)
    repeat' ((conv=>whnf);first | exact zf | refine zm ?_ | intro _)
    refine ⟨_,⟨by omega,h2,by decide +kernel⟩,?_⟩
    repeat' ((conv=>whnf);first | exact zf | refine zm ?_ | refine aX (λhb=>?_) (λhb=>?_) | intro _)
    all_goals
      refine cS (κ (λb=>V.tu [V.ag [V.d (.str i.nm),V.d (.int .i64 i.ar),V.d (.int .i64 i.po),V.d (.int .i64 i.pu),V.d (.bool b)],V.d (.bool true)]) ?_)
      first
        |(simp_all [last];done)
        | (have a1 : (c == 15) = false := by simp_all
           have a2:(c==18)=false:=by simp_all
           simp [last,a1,a2])
  · have hr:pP c = .tu [.ag [.d (.str []),.d (.int .i64 0),.d (.int .i64 0),.d (.int .i64 0),.d (.bool false)],.d (.bool false)]:=by simp only [pP,Hy (c:=c) (by omega)]
    rw [hr]
    refine sh0 Tryz.f112 ?_
    repeat' ((conv=>whnf);first | exact zf | refine zm ?_ | refine aX (λhb=>?_) (λhb=>?_) | intro _)
    all_goals
      exfalso
      simp at *
      omega
structure Op where
  c:Int
  a:Int
def dZ (o:Op):List D:=[.int .i64 o.c,.int .i64 o.a]
def By (o:Op):V:=.ag [.d (.int .i64 o.c),.d (.int .i64 o.a)]
structure Fn where
  args:Int
  vars:Int
  code:List Op
def dw (f:Fn):List D:=[.int .i64 f.args,.int .i64 f.vars,.sl 2 (f.code.map dZ)]
structure Im where
  cs:List Va
  fs:List Fn
def xm (im:Im):V:=.ag [.d (.sl 5 (im.cs.map cK)),.d (.sl 3 (im.fs.map dw))]
theorem oO {c:Int} {i:Info} (h:inf c=some i):Z0 112 [.d (.int .i64 c)] (.tu [.ag [.d (.str i.nm),.d (.int .i64 i.ar),.d (.int .i64 i.po),.d (.int .i64 i.pu),.d (.bool (last c))],.d (.bool true)]):=by
 have:=Dl c;simp only [pP,h] at this;exact this
theorem uc {c:Int} (h:inf c=none):Z0 112 [.d (.int .i64 c)] (.tu [.ag [.d (.str []),.d (.int .i64 0),.d (.int .i64 0),.d (.int .i64 0),.d (.bool false)],.d (.bool false)]):=by
 have:=Dl c;simp only [pP,h] at this;exact this
def jY (o:Op):Bool:=match inf o.c with
 |some i=>bif i.ar==0 then o.a==0 else decide (0≤o.a)&&decide (o.a≤65535)
 |none=>false
theorem LM (o:Op):Z0 142 [By o] (.d (.bool (jY o))):=by
 refine sh0 Tryz.f142 ?_;cases hi:inf o.c with
 |none=>
  have h:=uc hi
  repeat' ((conv=>whnf);first | exact zf | refine zm ?_ | refine zc h ?_ | refine aX (λhb=>?_) (λhb=>?_) | intro _)
  refine cS (κ (λx=>V.d (.bool x)) ?_);simp [jY,hi]
 |some i=>
  have h:=oO hi
  repeat' ((conv=>whnf);first | exact zf | refine zm ?_ | refine zc h ?_ | refine aX (λhb=>?_) (λhb=>?_) | intro _)
  all_goals
   refine cS (κ (λx=>V.d (.bool x)) ?_);simp only [jY,hi];rcases Decidable.em (i.ar=0) with e0 | e0
   ·simp_all
   ·have e1:(i.ar==0)=false:=by simpa using e0
    rw [e1,ε];clear e1;simp_all
    try omega
def within (n m:Int):Bool:=decide (0≤n)&&decide (n<m)
theorem lL (n m:Int):Z0 141 [.d (.int .i64 n),.d (.int .i64 m)] (.d (.bool (within n m))):=by
 refine sh0 Tryz.f141 ?_
 repeat' ((conv=>whnf);first | exact zf | refine zm ?_ | refine aX (λhb=>?_) (λhb=>?_) | intro _)
 all_goals
  refine cS (κ (λx=>V.d (.bool x)) ?_);simp_all [within]
  try omega
def fZ (im:Im) (f:Fr) (fn:Fn) (o:Op):Bool:=match inf o.c with
 |some i=>bif i.ar==1 then within o.a im.cs.length else bif i.ar==2 then within o.a f.vars.length else bif i.ar==3 then within o.a fn.code.length else bif i.ar==4 then within o.a im.fs.length else true
 |none=>true
theorem EU (im:Im) (f:Fr) (fn:Fn) (o:Op) (h0:0≤f.fu) (hf:im.fs[f.fu.toNat]? = some fn):Z0 143 [xm im,XW f,By o] (.d (.bool (fZ im f fn o))):=by
  refine sh0 Tryz.f143 ?_
  have w1:=lL o.a (im.cs.map cK).length
  have w2:=lL o.a (f.vars.map cK).length
  have w3:=lL o.a (fn.code.map dZ).length
  have w4:=lL o.a (im.fs.map dw).length
  have hrow:(im.fs.map dw)[f.fu.toNat]? = some (dw fn):=by simp [hf]
  cases hi:inf o.c with
  |none=>
    have h:=uc hi
    repeat' ((conv=>whnf);first | exact zf | refine zm ?_ | refine zc h ?_ | refine zc w1 ?_ | refine zc w2 ?_ | refine zc w3 ?_ | refine zc w4 ?_ | refine aX (λhb=>?_) (λhb=>?_) | intro _)
    all_goals
      first
        |(refine cS (κ (λx=>V.d (.bool x)) ?_);simp_all [fZ];done)
        |(exfalso;simp_all;done)
  |some i=>
    have h:=oO hi
    repeat' ((conv=>whnf);first | exact zf | refine zm ?_ | refine zc h ?_ | refine zc w1 ?_ | refine zc w2 ?_ | refine zc w3 ?_ | refine zc w4 ?_ | refine aX (λhb=>?_) (λhb=>?_) | intro _)
    all_goals try
      (refine cS (κ (fun x => V.d (.bool x)) ?_)
       simp_all [fZ]
       done)
    all_goals
      refine ⟨dw fn,⟨h0,hrow,rfl⟩,?_⟩
      repeat' ((conv=>whnf);first | exact zf | refine zm ?_ | refine zc w3 ?_ | refine aX (λhb=>?_) (λhb=>?_) | intro _)
      refine cS (κ (λx=>V.d (.bool x)) ?_)
      simp_all [fZ]
def fU (im:Im) (o:Op):Int:=match inf o.c with
 |some i=>bif o.c==17 then i.po+(match im.fs[o.a.toNat]? with | some g=>g.args | none=>0) else i.po
 |none=>0
theorem CO (im:Im) (o:Op) (hg:o.c=17→∃g,0≤o.a∧im.fs[o.a.toNat]? = some g∧e8 .i64 g.args):Z0 144 [xm im,By o] (.d (.int .i64 (fU im o))):=by
 refine sh0 Tryz.f144 ?_;cases hi:inf o.c with
 |none=>
  have h:=uc hi;have hc:o.c≠17:=by
   intro e;rw [e] at hi;obtain ⟨i,h1,_⟩:=xO (c:=17) (by omega) (by omega);rw [h1] at hi;cases hi
  repeat' ((conv=>whnf);first | exact zf | refine zm ?_ | refine zc h ?_ | intro _)
  refine aX (λhb=>absurd hb (by simp [hc])) (λhb=>?_)
  repeat' ((conv=>whnf);first | exact zf | refine zm ?_ | intro _)
  refine cS (κ (λx=>V.d (.int .i64 x)) ?_);simp only [fU,hi]
 |some i=>
  have h:=oO hi
  by_cases hc:o.c=17
  ·obtain ⟨g,h0,h1,h2⟩:=hg hc;have hp:i.po=0:=by
    rw [hc] at hi;have:inf 17=some ⟨[99,97,108,108],4,0,1⟩:=rfl;rw [this] at hi;cases hi;rfl
   have hrow:(im.fs.map dw)[o.a.toNat]? = some (dw g):=by simp [h1]
   replace h2 : -9223372036854775808≤g.args∧g.args≤9223372036854775807:=h2
   repeat' ((conv=>whnf);first | exact zf | refine zm ?_ | refine zc h ?_ | intro _)
   refine aX (λhb=>?_) (λhb=>absurd hc (by simpa using hb))
   repeat' ((conv=>whnf);first | exact zf | refine zm ?_ | intro _)
   refine ⟨dw g,⟨h0,hrow,rfl⟩,?_⟩
   repeat' ((conv=>whnf);first | exact zf | refine zm ?_ | intro _)
   refine cS (κ (λx=>V.d (.int .i64 x)) ?_);simp only [fU,hi,hb,δ,h1]
  ·have hcb:(o.c==17)=false:=by simpa using hc
   repeat' ((conv=>whnf);first | exact zf | refine zm ?_ | refine zc h ?_ | intro _)
   refine aX (λhb=>absurd hb (by simp [hc])) (λhb=>?_)
   repeat' ((conv=>whnf);first | exact zf | refine zm ?_ | intro _)
   refine cS (κ (λx=>V.d (.int .i64 x)) ?_);simp only [fU,hi,hcb,ε]
theorem nj (n:Int):Z0 106 [.d (.int .i64 n)] (jl (num n)):=by
 refine sh0 Tryz.f106 ?_
 exact zj0
def iw (b:Bool):Va:=num (bif b then 1 else 0)
theorem CL (b:Bool):Z0 219 [.d (.bool b)] (jl (iw b)):=by
 refine sh0 Tryz.f219 ?_;cases b
 ·skip
  repeat' ((conv=>whnf);first | exact zf | refine zm ?_ | refine zc (nj 0) ?_ | intro _)
 ·skip
  repeat' ((conv=>whnf);first | exact zf | refine zm ?_ | refine zc (nj 1) ?_ | intro _)
structure Ou where
  k:Int
  v:Va
  o:Op
def vH (u:Ou):V:=.ag [.d (.int .i64 u.k),.d (.int .i64 u.v.k),.d (.int .i64 u.v.n),.d (.str u.v.nm),.d (.str u.v.ls),.d (.str u.v.li),.d (.int .i64 u.o.c),.d (.int .i64 u.o.a)]
def o0:Op:=⟨0,0⟩
def cJ:Ou:=⟨0,zeroV,o0⟩
def failed (n:Int):Ou:=⟨2,num n,o0⟩
def mw (c:Co) (code kp:Int):Option Co:=
 bif decide ((c.tr.length:Int) - 1<max kp 0) then none else
 match c.tr.getLast? with
 |none=>none
 |some t=>bif rK c t then some (sj c t code) else none
theorem yK {c c':Co} {code kp:Int} (h:mw c code kp=some c'):ju c code kp = .tu [gp c',.d (.bool true)]:=by
 unfold mw at h;unfold ju;cases h1:decide ((c.tr.length:Int) - 1<max kp 0)<;>rw [h1] at h<;>simp only [δ,ε] at h ⊢
 ·split at h
  ·cases h
  ·rename_i t ht;rw [ht];simp only;cases h2:rK c t<;>rw [h2] at h<;>simp only [δ,ε] at h ⊢<;>cases h;rfl
 ·cases h
theorem yL {c:Co} {code kp:Int} (h:mw c code kp=none):ju c code kp = .tu [gp c,.d (.bool false)]:=by
 unfold mw at h;unfold ju;cases h1:decide ((c.tr.length:Int) - 1<max kp 0)<;>rw [h1] at h<;>simp only [δ,ε] at h ⊢;split at h
 ·rename_i ht;rw [ht]
 ·rename_i t ht;rw [ht];simp only;cases h2:rK c t<;>rw [h2] at h<;>simp only [δ,ε] at h ⊢;cases h
def raise (c:Co) (code kp:Int):Co×Ou:=match mw c code kp with
 |some c'=>(c',cJ)
 |none=>(c,failed code)
theorem sH (c:Co) (code kp:Int) (hf:c.fr.length<1000000000) (hs:c.st.length<1000000000):Z0 109 [gp c,.d (.int .i64 code),.d (.int .i64 kp)] (.tu [gp (raise c code kp).1,vH (raise c code kp).2]):=by
 have h:=Km c code kp hf hs;refine sh0 Tryz.f109 ?_;cases ht:mw c code kp with
 |some c'=>
  rw [yK ht] at h;simp only [raise,ht]
  exact zj1 h
 |none=>
  rw [yL ht] at h;simp only [raise,ht]
  repeat' ((conv=>whnf);first | exact zf | refine zm ?_ | refine zc h ?_ | refine zc (nj code) ?_ | intro _)
structure Fc (im:Im):Prop where
  args:∀(i:Nat) (g:Fn),im.fs[i]? = some g→e8 .i64 g.args
def fit (im:Im) (c:Co):Option Op:=
 match c.fr.getLast? with
 |none=>none
 |some f=>bif within f.fu im.fs.length then (match im.fs[f.fu.toNat]? with
  |none=>none
  |some fn=>bif within f.pc fn.code.length then (match fn.code[f.pc.toNat]? with
   |none=>none
   |some o=>bif jY o&&(fZ im f fn o&&fJ c (fU im o)) then some o else none) else none) else none
def mJ (im:Im) (c:Co):V:=match fit im c with
 |some o=>.tu [By o,.d (.bool true)]
 |none=>.tu [By o0,.d (.bool false)]
theorem within_iff {n m:Int}:within n m=true↔0≤n∧n<m:=by simp [within]
theorem pd {im:Im} {f:Fr} {fn:Fn} {o:Op} (hc:o.c=17) (h:fZ im f fn o=true):within o.a im.fs.length=true:=by
 unfold fZ at h;rw [hc] at h;have:inf 17=some ⟨[99,97,108,108],4,0,1⟩:=rfl;rw [this] at h;exact h
set_option maxRecDepth 100000 in
theorem mS (im:Im) (c:Co) (hI:Fc im) (hs:c.st.length<1000000000):Z0 105 [xm im,gp c] (mJ im c):=by
  cases hl:c.fr.getLast? with
  |none=>
    have hz:c.fr = []:=by simpa using hl
    have hr:mJ im c = .tu [By o0,.d (.bool false)]:=by simp only [mJ,fit,hl]
    rw [hr]
    refine sh0 Tryz.f105 ?_
    repeat' ((conv=>whnf);first | exact zf | refine zm ?_ | intro _)
    refine aX (λhb=>?_) (λhb=>absurd hb (by simp [hz]))
    exact zj0
  |some f=>
    have hlen:0<c.fr.length:=by
      cases h:c.fr with
      |nil=>rw [h] at hl;cases hl
      |cons=>simp
    have hne:c.fr≠[]:=λe=>by simp [e] at hlen
    have hf1:c.fr[c.fr.length - 1]? = some f:=by rw [dc] at hl;exact hl
    have hrow:(c.fr.map bU)[c.fr.length - 1]? = some (bU f):=by simp [hf1]
    have w1:=lL f.fu (im.fs.map dw).length
    have e1:within f.fu (im.fs.map dw).length=within f.fu im.fs.length:=by rw [aI]
    rw [e1] at w1
    cases h1:within f.fu im.fs.length with
    |false=>
      have hr:mJ im c = .tu [By o0,.d (.bool false)]:=by simp only [mJ,fit,hl,h1,ε]
      rw [hr]
      rw [h1] at w1
      refine sh0 Tryz.f105 ?_
      repeat' ((conv=>whnf);first | exact zf | refine zm ?_ | intro _)
      refine aX (λhb=>absurd hb (by simp [hne])) (λhb=>?_)
      repeat' ((conv=>whnf);first | exact zf | refine zm ?_ | intro _)
      refine ⟨bU f,⟨by simp;omega,by simp [hf1],rfl⟩,?_⟩
      exact zj1 w1
    |true=>
      obtain ⟨g1,g2⟩:=within_iff.1 h1
      obtain ⟨fn,hfn⟩:∃fn,im.fs[f.fu.toNat]? = some fn:=⟨_,aB (by omega)⟩
      rw [h1] at w1
      have w2:=lL f.pc (fn.code.map dZ).length
      have e2:within f.pc (fn.code.map dZ).length=within f.pc fn.code.length:=by rw [aI]
      rw [e2] at w2
      have hrow2:(im.fs.map dw)[f.fu.toNat]? = some (dw fn):=by simp [hfn]
      cases h2:within f.pc fn.code.length with
      |false=>
        have hr:mJ im c = .tu [By o0,.d (.bool false)]:=by simp only [mJ,fit,hl,h1,δ,hfn,h2,ε]
        rw [hr]
        rw [h2] at w2
        refine sh0 Tryz.f105 ?_
        repeat' ((conv=>whnf);first | exact zf | refine zm ?_ | intro _)
        refine aX (λhb=>absurd hb (by simp [hne])) (λhb=>?_)
        repeat' ((conv=>whnf);first | exact zf | refine zm ?_ | intro _)
        refine ⟨bU f,⟨by simp;omega,by simp [hf1],rfl⟩,?_⟩
        repeat' ((conv=>whnf);first | exact zf | refine zm ?_ | refine zc w1 ?_ | intro _)
        refine ⟨dw fn,⟨g1,hrow2,rfl⟩,?_⟩
        exact zj1 w2
      |true=>
        obtain ⟨g3,g4⟩:=within_iff.1 h2
        obtain ⟨o,ho⟩:∃o,fn.code[f.pc.toNat]? = some o:=⟨_,aB (by omega)⟩
        have hrow3:(fn.code.map dZ)[f.pc.toNat]? = some (dZ o):=by simp [ho]
        rw [h2] at w2
        have w3:=LM o
        have w4:=EU im f fn o g1 hfn
        have hfit:fit im c=bif jY o&&(fZ im f fn o&&fJ c (fU im o)) then some o else none:=by simp only [fit,hl,h1,δ,hfn,h2,ho]
        cases h3:jY o with
        |false=>
          have hr:mJ im c = .tu [By o0,.d (.bool false)]:=by simp only [mJ,hfit,h3,nh,ε]
          rw [hr]
          rw [h3] at w3
          refine sh0 Tryz.f105 ?_
          repeat' ((conv=>whnf);first | exact zf | refine zm ?_ | intro _)
          refine aX (λhb=>absurd hb (by simp [hne])) (λhb=>?_)
          repeat' ((conv=>whnf);first | exact zf | refine zm ?_ | intro _)
          refine ⟨bU f,⟨by simp;omega,by simp [hf1],rfl⟩,?_⟩
          repeat' ((conv=>whnf);first | exact zf | refine zm ?_ | refine zc w1 ?_ | intro _)
          refine ⟨dw fn,⟨g1,hrow2,rfl⟩,?_⟩
          repeat' ((conv=>whnf);first | exact zf | refine zm ?_ | refine zc w2 ?_ | intro _)
          refine ⟨dZ o,⟨g3,hrow3,rfl⟩,?_⟩
          exact zj1 w3
        |true=>
          rw [h3] at w3
          cases h4:fZ im f fn o with
          |false=>
            have hr:mJ im c = .tu [By o0,.d (.bool false)]:=by simp only [mJ,hfit,h3,h4,nh,Bool.and_false,ε]
            rw [hr]
            rw [h4] at w4
            refine sh0 Tryz.f105 ?_
            repeat' ((conv=>whnf);first | exact zf | refine zm ?_ | intro _)
            refine aX (λhb=>absurd hb (by simp [hne])) (λhb=>?_)
            repeat' ((conv=>whnf);first | exact zf | refine zm ?_ | intro _)
            refine ⟨bU f,⟨by simp;omega,by simp [hf1],rfl⟩,?_⟩
            repeat' ((conv=>whnf);first | exact zf | refine zm ?_ | refine zc w1 ?_ | intro _)
            refine ⟨dw fn,⟨g1,hrow2,rfl⟩,?_⟩
            repeat' ((conv=>whnf);first | exact zf | refine zm ?_ | refine zc w2 ?_ | intro _)
            refine ⟨dZ o,⟨g3,hrow3,rfl⟩,?_⟩
            exact zj2 w3 w4
          |true=>
            rw [h4] at w4
            have w5:=CO im o (λhc=>by
              obtain ⟨k1,k2⟩:=within_iff.1 (pd hc h4)
              obtain ⟨g,hg⟩:∃g,im.fs[o.a.toNat]? = some g:=⟨_,aB (by omega)⟩
              exact ⟨g,k1,hg,hI.args _ _ hg⟩)
            have w6:=y8 c (fU im o) hs
            cases h5:fJ c (fU im o) with
            |false=>
              have hr:mJ im c = .tu [By o0,.d (.bool false)]:=by simp only [mJ,hfit,h3,h4,h5,Bool.and_false,ε]
              rw [hr]
              rw [sI h5] at w6
              refine sh0 Tryz.f105 ?_
              repeat' ((conv=>whnf);first | exact zf | refine zm ?_ | intro _)
              refine aX (λhb=>absurd hb (by simp [hne])) (λhb=>?_)
              repeat' ((conv=>whnf);first | exact zf | refine zm ?_ | intro _)
              refine ⟨bU f,⟨by simp;omega,by simp [hf1],rfl⟩,?_⟩
              repeat' ((conv=>whnf);first | exact zf | refine zm ?_ | refine zc w1 ?_ | intro _)
              refine ⟨dw fn,⟨g1,hrow2,rfl⟩,?_⟩
              repeat' ((conv=>whnf);first | exact zf | refine zm ?_ | refine zc w2 ?_ | intro _)
              refine ⟨dZ o,⟨g3,hrow3,rfl⟩,?_⟩
              repeat' ((conv=>whnf);first | exact zf | refine zm ?_ | refine zc w3 ?_ | refine zc w4 ?_ | refine zc w5 ?_ | refine zc w6 ?_ | intro _)
            |true=>
              have hr:mJ im c = .tu [By o,.d (.bool true)]:=by simp only [mJ,hfit,h3,h4,h5,dy,δ]
              rw [hr]
              rw [lP h5] at w6
              refine sh0 Tryz.f105 ?_
              repeat' ((conv=>whnf);first | exact zf | refine zm ?_ | intro _)
              refine aX (λhb=>absurd hb (by simp [hne])) (λhb=>?_)
              repeat' ((conv=>whnf);first | exact zf | refine zm ?_ | intro _)
              refine ⟨bU f,⟨by simp;omega,by simp [hf1],rfl⟩,?_⟩
              repeat' ((conv=>whnf);first | exact zf | refine zm ?_ | refine zc w1 ?_ | intro _)
              refine ⟨dw fn,⟨g1,hrow2,rfl⟩,?_⟩
              repeat' ((conv=>whnf);first | exact zf | refine zm ?_ | refine zc w2 ?_ | intro _)
              refine ⟨dZ o,⟨g3,hrow3,rfl⟩,?_⟩
              repeat' ((conv=>whnf);first | exact zf | refine zm ?_ | refine zc w3 ?_ | refine zc w4 ?_ | refine zc w5 ?_ | refine zc w6 ?_ | intro _)
structure Mh where
  im:Im
  gL:Co
  o:Op
  fr:Int
  tr:Int
def iZ (m:Mh) (c0:V) (st:List Va) (ts:List Tr) (tk:V) (u:Ou) (wr:Bool) (cd:Int):List V:=
  [.d (.sl 5 (m.im.cs.map cK)), .d (.sl 3 (m.im.fs.map dw)), .d (.sl 5 (m.gL.fr.map bU)), .d (.sl 5 (m.gL.st.map cK)), .d (.sl 3 (m.gL.tr.map eO)),
   c0,.d (.sl 5 (st.map cK)),.d (.sl 3 (ts.map eO)),.d (.int .i64 m.o.c),.d (.int .i64 m.o.a),tk,.d (.int .i64 m.fr),.d (.int .i64 m.tr),
   .d (.int .i64 u.k),.d (.int .i64 u.v.k),.d (.int .i64 u.v.n),.d (.str u.v.nm),.d (.str u.v.ls),.d (.str u.v.li),.d (.int .i64 u.o.c),.d (.int .i64 u.o.a),.d (.bool wr),.d (.int .i64 cd)]
def iI (l:List Va):V:=.d (.sl 5 (l.map cK))
theorem vN {K:KT} (m:Mh) (st:List Va) (ts:List Tr) (tk:List Va) (u:Ou) (wr:Bool) (cd:Int) (rows:List (List D)) (hr:0<rows.length) (hl:rows.length<1000000000)
  (hk:K (.ret (.q 1 5 ((rows.length:Int) - 1).toNat 0)) [.cells (iZ m (.os 1) st ts (iI tk) u wr cd),.rows 5 rows]) :
  Z1 167 [.p 0 0] [.cells (iZ m (.os 1) st ts (iI tk) u wr cd),.rows 5 rows] K:=by
 refine sh0 Tryz.f167 ?_
 exact zh0 hk
theorem mG {K:KT} (m:Mh) (st:List Va) (ts:List Tr) (tk:List Va) (u:Ou) (wr:Bool) (cd:Int) (fs:List Fr) (v:Va) (hs:st.length<1000000000)
  (hk:K (.ret (.tu [])) [.cells (iZ m (.d (.sl 5 (fs.map bU))) (st ++ [v]) ts (iI tk) u wr cd),.no]) :
  Z1 214 [.p 0 0,jl v] [.cells (iZ m (.os 1) st ts (iI tk) u wr cd),.rows 5 (fs.map bU)] K:=by
 refine sh0 Tryz.f214 ?_
 repeat' ((conv=>whnf);first | exact zf | refine jM [1] ?_ | refine zm ?_ | refine zc (tI ⟨fs,st,ts⟩ v hs) ?_ | intro _)
 exact hk
theorem BP {K:KT} (m:Mh) (st:List Va) (ts:List Tr) (tk:List Va) (u:Ou) (wr:Bool) (cd:Int) (fs:List Fr) (v:Va) (hs:st.length<1000000000)
  (hk:K (.ret (.tu [])) [.cells (iZ m (.d (.sl 5 (fs.map bU))) (st ++ [v]) ts (iI tk) u wr cd)]) :
  Z1 214 [.p 0 0,jl v] [.cells (iZ m (.d (.sl 5 (fs.map bU))) st ts (iI tk) u wr cd)] K:=by
 refine sh0 Tryz.f214 ?_
 repeat' ((conv=>whnf);first | exact zf | refine zm ?_ | refine zc (tI ⟨fs,st,ts⟩ v hs) ?_ | intro _)
 exact hk
theorem nV {K:KT} (m:Mh) (st:List Va) (ts:List Tr) (tk:List Va) (u:Ou) (wr:Bool) (cd:Int) (rows:List (List D)) (n:Int)
  (hk:K (.ret (.tu [])) [.cells (iZ m (.os 1) st ts (iI tk) u true n),.rows 5 rows]) :
  Z1 218 [.p 0 0,.d (.int .i64 n)] [.cells (iZ m (.os 1) st ts (iI tk) u wr cd),.rows 5 rows] K:=by
 refine sh0 Tryz.f218 ?_
 exact zh0 hk
def Q3 (m:Mh):List V:=
  [.d (.sl 5 (m.im.cs.map cK)), .d (.sl 3 (m.im.fs.map dw)), .d (.sl 5 (m.gL.fr.map bU)), .d (.sl 5 (m.gL.st.map cK)), .d (.sl 3 (m.gL.tr.map eO)),
   .nl 5,.nl 5,.nl 3,.d (.int .i64 m.o.c),.d (.int .i64 m.o.a),.nl 5,.d (.int .i64 m.fr),.d (.int .i64 m.tr),
   .d (.int .i64 0),.d (.int .i64 0),.d (.int .i64 0),.d (.str []),.d (.str []),.d (.str []),.d (.int .i64 0),.d (.int .i64 0),.d (.bool false),.d (.int .i64 0)]
structure PA (m:Mh) (f:Fr):Prop where
  hl:m.gL.fr.getLast? = some f
  lf:m.gL.fr.length<1000000000
  ls:m.gL.st.length<1000000000
  pc:0≤f.pc∧f.pc<9223372036854775807
  po:fJ m.gL (fU m.im m.o)=true
  ca:m.o.c=17→∃g,0≤m.o.a∧m.im.fs[m.o.a.toNat]? = some g∧e8 .i64 g.args
def b7 (l:List Fr) (f:Fr):List Fr:=l.set (l.length - 1) { f with pc:=f.pc+1 }
def nk (m:Mh):List Va:=lC m.gL (fU m.im m.o)
def j0 (m:Mh):List Va:=(rk m.gL (fU m.im m.o)).st
theorem oL {K:KT} (m:Mh) (f:Fr) (hr:PA m f) (hk:K (.ret (.tu [])) [.cells (iZ m (.os 1) (j0 m) m.gL.tr (iI (nk m)) cJ false 0),.rows 5 ((b7 m.gL.fr f).map bU)]) :
  Z1 108 [.p 0 0] [.cells (Q3 m)] K:=by
 have hne:0<m.gL.fr.length:=by
  cases h:m.gL.fr with
  |nil=>have:=hr.hl;rw [h] at this;cases this
  |cons=>simp
 have hf1:m.gL.fr[m.gL.fr.length - 1]? = some f:=by have:=hr.hl;rw [dc] at this;exact this
 have htk:=CO m.im m.o hr.ca;have hpop:=y8 m.gL (fU m.im m.o) hr.ls;rw [lP hr.po] at hpop;have hlf:=hr.lf;have hpc:=hr.pc;refine sh0 Tryz.f108 ?_
 repeat' ((conv=>whnf);first | exact zf | refine zm ?_ | refine zc htk ?_ | refine zc hpop ?_ | refine sW (m.gL.fr.map bU) (by simp;omega) ?_ | refine zr0 ?_ | refine vN m (j0 m) m.gL.tr (nk m) cJ false 0 _ (by simp;omega) (by simp;omega) ?_ | intro _)
 have hrow:(m.gL.fr.map bU)[(((m.gL.fr.map bU).length:Int) - 1).toNat]? = some (bU f):=by
  rw [aC,aI];have e:((m.gL.fr.length:Int) - 1).toNat=m.gL.fr.length - 1:=by omega
  rw [e,hf1];rfl
 have hset:(m.gL.fr.map bU).set (((m.gL.fr.map bU).length:Int) - 1).toNat (bU { f with pc:=f.pc+1 })=(b7 m.gL.fr f).map bU:=by
  rw [b7,fg,aI];congr 1;omega
 refine ⟨bU f,hrow,?_⟩
 repeat' ((conv=>whnf);first | exact zf | refine zm ?_ | intro _)
 refine ⟨bU f,hrow,⟨rfl,rfl,rfl⟩,?_⟩
 repeat' ((conv=>whnf);first | exact zf | refine zm ?_ | intro _)
 rw [←hset] at hk;exact hk
def F4 (f:Nat) (vs:List V) (m:Mh) (st st':List Va) (ts:List Tr) (tk:List Va) (b9:List Fr):Prop:=
 ∀K:Out→H→Prop,K (.ret (.tu [])) [.cells [.p 1 0],.cells (iZ m (.d (.sl 5 (b9.map bU))) st' ts (iI tk) cJ false 0),.no] →
  Z1 f (vs ++ [.p 0 0]) [.cells [.p 1 0],.cells (iZ m (.os 2) st ts (iI tk) cJ false 0),.rows 5 (b9.map bU)] K
def wH (f:Nat) (vs:List V) (m:Mh) (st:List Va) (ts:List Tr) (tk:List Va) (b9 frs':List Fr) (wr:Bool) (cd:Int):Prop:=
 ∀K:Out→H→Prop,K (.ret (.tu [])) [.cells [.p 1 0],.cells (iZ m (.os 2) st ts (iI tk) cJ wr cd),.rows 5 (frs'.map bU)] →
  Z1 f (vs ++ [.p 0 0]) [.cells [.p 1 0],.cells (iZ m (.os 2) st ts (iI tk) cJ false 0),.rows 5 (b9.map bU)] K
theorem AZ {K:KT} (f:Nat) (hf:Nat.blt f 1000000=true) (m:Mh) (st st':List Va) (ts:List Tr) (a b:Va) (kd:Int) (b9:List Fr) (ha:a.k=kd) (hb:b.k=kd) (hS:F4 f [jl a,jl b] m st st' ts [a,b] b9)
  (hk:K (.ret (.tu [])) [.cells (iZ m (.d (.sl 5 (b9.map bU))) st' ts (iI [a,b]) cJ false 0),.no,.cells [.p 0 0]]) :
  Z1 215 [.p 0 0,.d (.int .i64 kd),.fc f [.p 2 0]] [.cells (iZ m (.os 1) st ts (iI [a,b]) cJ false 0),.rows 5 (b9.map bU),.cells [.p 0 0]] K:=by
 refine sh0 Tryz.f215 ?_
 repeat' ((conv=>whnf);first | exact zf | refine zm ?_ | refine ⟨_,⟨by decide,rfl,rfl⟩,?_⟩ | refine ⟨_,rfl,?_⟩ | intro _)
 refine aX (λh=>absurd h (by simp [ha])) (λh=>?_)
 repeat' ((conv=>whnf);first | exact zf | refine zm ?_ | refine ⟨_,⟨by decide,rfl,rfl⟩,?_⟩ | refine ⟨_,rfl,?_⟩ | intro _)
 refine aX (λh=>absurd h (by simp [hb])) (λh=>?_)
 repeat' ((conv=>whnf);first | exact zf | refine zm ?_ | refine ⟨_,⟨by decide,rfl,rfl⟩,?_⟩ | refine ⟨_,rfl,?_⟩ | intro _)
 conv=>whnf
 rw [hf]
 repeat' ((conv=>whnf);first | exact zf | refine zm ?_ | refine zr0 ?_ | refine hS _ ?_ | intro _)
 exact hk
theorem PT {K:KT} (f:Nat) (hf:Nat.blt f 1000000=true) (m:Mh) (st:List Va) (ts:List Tr) (a b:Va) (kd:Int) (b9 frs':List Fr) (wr:Bool) (cd:Int) (ha:a.k=kd) (hb:b.k=kd) (hS:wH f [jl a,jl b] m st ts [a,b] b9 frs' wr cd)
  (hk:K (.ret (.tu [])) [.cells (iZ m (.os 1) st ts (iI [a,b]) cJ wr cd),.rows 5 (frs'.map bU),.cells [.p 0 0]]) :
  Z1 215 [.p 0 0,.d (.int .i64 kd),.fc f [.p 2 0]] [.cells (iZ m (.os 1) st ts (iI [a,b]) cJ false 0),.rows 5 (b9.map bU),.cells [.p 0 0]] K:=by
 refine sh0 Tryz.f215 ?_
 repeat' ((conv=>whnf);first | exact zf | refine zm ?_ | refine ⟨_,⟨by decide,rfl,rfl⟩,?_⟩ | refine ⟨_,rfl,?_⟩ | intro _)
 refine aX (λh=>absurd h (by simp [ha])) (λh=>?_)
 repeat' ((conv=>whnf);first | exact zf | refine zm ?_ | refine ⟨_,⟨by decide,rfl,rfl⟩,?_⟩ | refine ⟨_,rfl,?_⟩ | intro _)
 refine aX (λh=>absurd h (by simp [hb])) (λh=>?_)
 repeat' ((conv=>whnf);first | exact zf | refine zm ?_ | refine ⟨_,⟨by decide,rfl,rfl⟩,?_⟩ | refine ⟨_,rfl,?_⟩ | intro _)
 conv=>whnf
 rw [hf]
 repeat' ((conv=>whnf);first | exact zf | refine zm ?_ | refine zr0 ?_ | refine hS _ ?_ | intro _)
 exact hk
theorem AY {K:KT} (f:Nat) (m:Mh) (st:List Va) (ts:List Tr) (a b:Va) (kd:Int) (b9:List Fr) (hab:¬(a.k=kd∧b.k=kd))
  (hk:K (.ret (.tu [])) [.cells (iZ m (.os 1) st ts (iI [a,b]) cJ true (-1)),.rows 5 (b9.map bU),.cells [.p 0 0]]) :
  Z1 215 [.p 0 0,.d (.int .i64 kd),.fc f [.p 2 0]] [.cells (iZ m (.os 1) st ts (iI [a,b]) cJ false 0),.rows 5 (b9.map bU),.cells [.p 0 0]] K:=by
 refine sh0 Tryz.f215 ?_
 repeat' ((conv=>whnf);first | exact zf | refine zm ?_ | refine ⟨_,⟨by decide,rfl,rfl⟩,?_⟩ | refine ⟨_,rfl,?_⟩ | intro _)
 refine aX (λh=>?_) (λh=>?_)
 ·skip
  repeat' ((conv=>whnf);first | exact zf | refine zm ?_ | refine zr0 ?_ | refine nV m st ts [a,b] cJ false 0 (b9.map bU) (-1) ?_ | refine ⟨_,⟨by decide,rfl,rfl⟩,?_⟩ | refine ⟨_,rfl,?_⟩ | intro _)
  exact hk
 ·skip
  repeat' ((conv=>whnf);first | exact zf | refine zm ?_ | refine ⟨_,⟨by decide,rfl,rfl⟩,?_⟩ | refine ⟨_,rfl,?_⟩ | intro _)
  refine aX (λh2=>?_) (λh2=>absurd ⟨by simpa using h,by simpa using h2⟩ hab)
  repeat' ((conv=>whnf);first | exact zf | refine zm ?_ | refine zr0 ?_ | refine nV m st ts [a,b] cJ false 0 (b9.map bU) (-1) ?_ | refine ⟨_,⟨by decide,rfl,rfl⟩,?_⟩ | refine ⟨_,rfl,?_⟩ | intro _)
  exact hk
theorem QH {K:KT} (f:Nat) (hf:Nat.blt f 1000000=true) (m:Mh) (st st':List Va) (ts:List Tr) (a:Va) (kd:Int) (b9:List Fr) (ha:a.k=kd) (hS:F4 f [jl a] m st st' ts [a] b9)
  (hk:K (.ret (.tu [])) [.cells (iZ m (.d (.sl 5 (b9.map bU))) st' ts (iI [a]) cJ false 0),.no,.cells [.p 0 0]]) :
  Z1 220 [.p 0 0,.d (.int .i64 kd),.fc f [.p 2 0]] [.cells (iZ m (.os 1) st ts (iI [a]) cJ false 0),.rows 5 (b9.map bU),.cells [.p 0 0]] K:=by
 refine sh0 Tryz.f220 ?_
 repeat' ((conv=>whnf);first | exact zf | refine zm ?_ | refine ⟨_,⟨by decide,rfl,rfl⟩,?_⟩ | refine ⟨_,rfl,?_⟩ | intro _)
 refine aX (λh=>absurd h (by simp [ha])) (λh=>?_)
 repeat' ((conv=>whnf);first | exact zf | refine zm ?_ | refine ⟨_,⟨by decide,rfl,rfl⟩,?_⟩ | refine ⟨_,rfl,?_⟩ | intro _)
 conv=>whnf
 rw [hf]
 repeat' ((conv=>whnf);first | exact zf | refine zm ?_ | refine zr0 ?_ | refine hS _ ?_ | intro _)
 exact hk
theorem Az {K:KT} (f:Nat) (hf:Nat.blt f 1000000=true) (m:Mh) (st:List Va) (ts:List Tr) (a:Va) (kd:Int) (b9 frs':List Fr) (wr:Bool) (cd:Int) (ha:a.k=kd) (hS:wH f [jl a] m st ts [a] b9 frs' wr cd)
  (hk:K (.ret (.tu [])) [.cells (iZ m (.os 1) st ts (iI [a]) cJ wr cd),.rows 5 (frs'.map bU),.cells [.p 0 0]]) :
  Z1 220 [.p 0 0,.d (.int .i64 kd),.fc f [.p 2 0]] [.cells (iZ m (.os 1) st ts (iI [a]) cJ false 0),.rows 5 (b9.map bU),.cells [.p 0 0]] K:=by
 refine sh0 Tryz.f220 ?_
 repeat' ((conv=>whnf);first | exact zf | refine zm ?_ | refine ⟨_,⟨by decide,rfl,rfl⟩,?_⟩ | refine ⟨_,rfl,?_⟩ | intro _)
 refine aX (λh=>absurd h (by simp [ha])) (λh=>?_)
 repeat' ((conv=>whnf);first | exact zf | refine zm ?_ | refine ⟨_,⟨by decide,rfl,rfl⟩,?_⟩ | refine ⟨_,rfl,?_⟩ | intro _)
 conv=>whnf
 rw [hf]
 repeat' ((conv=>whnf);first | exact zf | refine zm ?_ | refine zr0 ?_ | refine hS _ ?_ | intro _)
 exact hk
theorem Ay {K:KT} (f:Nat) (m:Mh) (st:List Va) (ts:List Tr) (a:Va) (kd:Int) (b9:List Fr) (ha:¬a.k=kd)
  (hk:K (.ret (.tu [])) [.cells (iZ m (.os 1) st ts (iI [a]) cJ true (-1)),.rows 5 (b9.map bU),.cells [.p 0 0]]) :
  Z1 220 [.p 0 0,.d (.int .i64 kd),.fc f [.p 2 0]] [.cells (iZ m (.os 1) st ts (iI [a]) cJ false 0),.rows 5 (b9.map bU),.cells [.p 0 0]] K:=by
 refine sh0 Tryz.f220 ?_
 repeat' ((conv=>whnf);first | exact zf | refine zm ?_ | refine ⟨_,⟨by decide,rfl,rfl⟩,?_⟩ | refine ⟨_,rfl,?_⟩ | intro _)
 refine aX (λh=>?_) (λh=>absurd (by simpa using h) ha)
 repeat' ((conv=>whnf);first | exact zf | refine zm ?_ | refine zr0 ?_ | refine nV m st ts [a] cJ false 0 (b9.map bU) (-1) ?_ | refine ⟨_,⟨by decide,rfl,rfl⟩,?_⟩ | refine ⟨_,rfl,?_⟩ | intro _)
 exact hk
def Ki (n:Int):Int:=IntKind.i64.wrap n
def UG (b:Bool):Int:=bif b then 1 else 0
theorem yI (b:Bool):Z0 318 [.d (.bool b)] (.d (.int .i64 (UG b))):=by
 refine sh0 Tryz.f318 ?_;cases b<;>skip
 ·exact zj0
 ·exact zj0
def mC (n:Int):V:=.tu [.d (.int .i64 n),.d (.bool true)]
theorem RX (a b:Int):Z0 312 [.d (.int .i64 a),.d (.int .i64 b)] (mC (Ki (a+b))):=by
 refine sh0 Tryz.f312 ?_
 repeat' ((conv=>whnf);first | exact zf | refine zm ?_ | refine .inr ?_ | intro _)
theorem PY (a b:Int):Z0 313 [.d (.int .i64 a),.d (.int .i64 b)] (mC (Ki (a - b))):=by
 refine sh0 Tryz.f313 ?_
 repeat' ((conv=>whnf);first | exact zf | refine zm ?_ | refine .inr ?_ | intro _)
theorem Q1 (a b:Int):Z0 314 [.d (.int .i64 a),.d (.int .i64 b)] (mC (Ki (a*b))):=by
 refine sh0 Tryz.f314 ?_
 repeat' ((conv=>whnf);first | exact zf | refine zm ?_ | refine .inr ?_ | intro _)
def qe:V:=.tu [.d (.int .i64 0),.d (.bool false)]
theorem Qw (a b:Int):Z0 315 [.d (.int .i64 a),.d (.int .i64 b)] (bif b==0 then qe else mC (Ki (a.tdiv b))):=by
 refine sh0 Tryz.f315 ?_;cases h:(b==0) with
 |true=>
  repeat' ((conv=>whnf);first | exact zf | refine zm ?_ | intro _)
  refine aX (λ_=>?_) (λh2=>by rw [h] at h2;cases h2)
  exact zj0
 |false=>
  repeat' ((conv=>whnf);first | exact zf | refine zm ?_ | intro _)
  refine aX (λh2=>by rw [h] at h2;cases h2) (λ_=>?_)
  conv=>whnf
  refine ⟨by simpa using h,.inr ?_⟩
  exact zj0
theorem Po (a b:Int):Z0 316 [.d (.int .i64 a),.d (.int .i64 b)] (bif b==0 then qe else mC (a.tmod b)):=by
 refine sh0 Tryz.f316 ?_;cases h:(b==0) with
 |true=>
  repeat' ((conv=>whnf);first | exact zf | refine zm ?_ | intro _)
  refine aX (λ_=>?_) (λh2=>by rw [h] at h2;cases h2)
  exact zj0
 |false=>
  repeat' ((conv=>whnf);first | exact zf | refine zm ?_ | intro _)
  refine aX (λh2=>by rw [h] at h2;cases h2) (λ_=>?_)
  conv=>whnf
  refine ⟨by simpa using h,?_⟩
  exact zj0
theorem Tq (a b:Int):Z0 317 [.d (.int .i64 a),.d (.int .i64 b)] (mC (UG (a==b))):=by
 refine sh0 Tryz.f317 ?_
 repeat' ((conv=>whnf);first | exact zf | refine zm ?_ | refine zc (yI _) ?_ | intro _)
theorem Ta (a b:Int):Z0 319 [.d (.int .i64 a),.d (.int .i64 b)] (mC (UG (decide (a<b)))):=by
 refine sh0 Tryz.f319 ?_
 repeat' ((conv=>whnf);first | exact zf | refine zm ?_ | refine zc (yI _) ?_ | intro _)
def VH:List (V×V):=[(.d (.int .i64 7),.d (.fn 312)),(.d (.int .i64 8),.d (.fn 313)),(.d (.int .i64 9),.d (.fn 314)),(.d (.int .i64 10),.d (.fn 315)),(.d (.int .i64 11),.d (.fn 316)),(.d (.int .i64 12),.d (.fn 317)),(.d (.int .i64 13),.d (.fn 319))]
theorem mB {K:KT} (hk:K (.ret (.mp 0)) [.mp VH]):Z1 276 [] [] K:=by
 refine si0 Tryz.f276 ?_
 repeat' ((conv=>whnf);first | exact zf | refine zm ?_ | refine ⟨_,rfl,?_⟩ | intro _)
 exact hk
def pg (c a b:Int):V:=
 bif c==7 then mC (Ki (a+b)) else bif c==8 then mC (Ki (a - b)) else bif c==9 then mC (Ki (a*b)) else bif c==10 then (bif b==0 then qe else mC (Ki (a.tdiv b)))
 else bif c==11 then (bif b==0 then qe else mC (a.tmod b)) else bif c==12 then mC (UG (a==b)) else mC (UG (decide (a<b)))
theorem Tw (c a b:Int) (hc:7≤c∧c≤13):Z0 217 [.d (.int .i64 c),.d (.int .i64 a),.d (.int .i64 b)] (pg c a b):=by
 have h7:c=7∨c=8∨c=9∨c=10∨c=11∨c=12∨c=13:=by omega
 rcases h7 with rfl | rfl | rfl | rfl | rfl | rfl | rfl
 ·refine sh0 Tryz.f217 ?_
  repeat' ((conv=>whnf);first | exact zf | refine zm ?_ | refine zc (RX a b) ?_ | refine mB ?_ | refine ⟨_,rfl,?_⟩ | intro _)
 ·refine sh0 Tryz.f217 ?_
  repeat' ((conv=>whnf);first | exact zf | refine zm ?_ | refine zc (PY a b) ?_ | refine mB ?_ | refine ⟨_,rfl,?_⟩ | intro _)
 ·refine sh0 Tryz.f217 ?_
  repeat' ((conv=>whnf);first | exact zf | refine zm ?_ | refine zc (Q1 a b) ?_ | refine mB ?_ | refine ⟨_,rfl,?_⟩ | intro _)
 ·refine sh0 Tryz.f217 ?_;have h:=Qw a b;cases hb:(b==0) with
  |true=>
   have e:pg 10 a b=qe:=by show (bif b==0 then qe else _)=_;rw [hb];rfl
   rw [e];rw [hb] at h
   repeat' ((conv=>whnf);first | exact zf | refine zm ?_ | refine zc h ?_ | refine mB ?_ | refine ⟨_,rfl,?_⟩ | intro _)
  |false=>
   have e:pg 10 a b=mC (Ki (a.tdiv b)):=by show (bif b==0 then qe else _)=_;rw [hb];rfl
   rw [e];rw [hb] at h
   repeat' ((conv=>whnf);first | exact zf | refine zm ?_ | refine zc h ?_ | refine mB ?_ | refine ⟨_,rfl,?_⟩ | intro _)
 ·refine sh0 Tryz.f217 ?_;have h:=Po a b;cases hb:(b==0) with
  |true=>
   have e:pg 11 a b=qe:=by show (bif b==0 then qe else _)=_;rw [hb];rfl
   rw [e];rw [hb] at h
   repeat' ((conv=>whnf);first | exact zf | refine zm ?_ | refine zc h ?_ | refine mB ?_ | refine ⟨_,rfl,?_⟩ | intro _)
  |false=>
   have e:pg 11 a b=mC (a.tmod b):=by show (bif b==0 then qe else _)=_;rw [hb];rfl
   rw [e];rw [hb] at h
   repeat' ((conv=>whnf);first | exact zf | refine zm ?_ | refine zc h ?_ | refine mB ?_ | refine ⟨_,rfl,?_⟩ | intro _)
 ·refine sh0 Tryz.f217 ?_
  repeat' ((conv=>whnf);first | exact zf | refine zm ?_ | refine zc (Tq a b) ?_ | refine mB ?_ | refine ⟨_,rfl,?_⟩ | intro _)
 ·refine sh0 Tryz.f217 ?_
  repeat' ((conv=>whnf);first | exact zf | refine zm ?_ | refine zc (Ta a b) ?_ | refine mB ?_ | refine ⟨_,rfl,?_⟩ | intro _)
def wW (l:Lb):Lb:=⟨l.s.take 4,l.i.take 4⟩
theorem LA (l:Lb):Z0 76 [jT l] (jT (wW l)):=by
 refine sh0 Tryz.f76 ?_
 repeat' ((conv=>whnf);first | exact zf | refine zm ?_ | intro _)
 have e:∀l:List UInt8,(l.take (min (l.length:Int) 4).toNat).drop (0:Int).toNat=l.take 4:=by
  intro l;show l.take (min (l.length:Int) 4).toNat=_;rcases cq l.length 4 with h | h
  ·rw [dD (by omega),dD (by omega)]
  ·congr 1;omega
 show Out.ret (V.ag [.d (.str ((l.s.take (min (l.s.length:Int) 4).toNat).drop (0:Int).toNat)),.d (.str ((l.i.take (min (l.i.length:Int) 4).toNat).drop (0:Int).toNat))])=_;rw [e,e];rfl
def gz:List (List UInt8):=[[48],[49],[48,46,48],[48,46,49],[50],[49,48],[49,46,48],[48,46,48,46,48]]
theorem Ck:Z0 77 [] (.d (.sl 1 (gz.map λs=>[.str s]))):=by
 refine sh0 Tryz.f77 ?_
 exact zj0
theorem C2 (l:Lb):Z0 122 [jT l] (jT l):=by
 refine sh0 Tryz.f122 ?_
 exact zj0
theorem wu (v:Va):Z0 123 [jl v] (jl v):=by
 have h1:=C2 ⟨v.ls,v.li⟩;refine sh0 Tryz.f123 ?_
 exact zj1 h1
def gg:List Lb:=[⟨[],[]⟩,⟨[1],[]⟩,⟨[2],[]⟩,⟨[1,2],[]⟩,⟨[3],[]⟩,⟨[],[1]⟩,⟨[1],[1]⟩,⟨[0],[]⟩]
theorem BR:Z0 17 [] (.d (.sl 2 (gg.map kz))):=by
 refine sh0 Tryz.f17 ?_
 exact zj0
theorem sP:∀m∈gg,cI m:=by
 intro m hm;simp only [gg,a8,cY,or_false] at hm;unfold cI Ae;rcases hm with rfl | rfl | rfl | rfl | rfl | rfl | rfl | rfl<;>exact ⟨by decide,by decide⟩
def mN (ar:Int):Va:=bif decide (60<ar) then ⟨3+ar.tmod 5,0,(gz[((ar.tdiv 8).tmod 8).toNat]?).getD [],((gg[(ar.tdiv 64).toNat]?).getD oV).s,((gg[(ar.tdiv 64).toNat]?).getD oV).i⟩ else num (ar.tmod 5)
def RM:List Int:=[7,7,3,1]
def Mv (l c:Int):Lb:=db ((gg[(l.tmod 8).toNat]?).getD oV) ((gg[((RM[(c.tmod 4).toNat]?).getD 0).toNat]?).getD oV)
def KF (l c mk fn ar ro:Int):Th:=yj [51] ⟨(gg[(l.tmod 8).toNat]?).getD oV,Mv l c⟩ (gF ⟨[],[],[]⟩ (fn.tmod 3) 7 [mN ar] (mk.tmod 4)) (ro.tmod 16)
theorem uJ {i:Int} (h:0≤i∧i<8):gg[i.toNat]? = some ((gg[i.toNat]?).getD oV):=by
 have:i.toNat<gg.length:=by show i.toNat<8;omega
 rw [aB this];rfl
theorem D8 (l c mk fn ar ro:Int) (im:Im) (h1:0≤l∧l≤255) (h2:0≤c∧c≤255) (h3:0≤mk∧mk≤255) (h4:0≤fn∧fn≤255) (h5:0≤ar∧ar≤255) (h6:0≤ro∧ro≤255) :
  Z0 39 [.ag [.d (.int .u8 l),.d (.int .u8 c),.d (.int .u8 mk),.d (.int .u8 fn),.d (.int .u8 ar),.d (.int .u8 ro)],xm im] (eo (KF l c mk fn ar ro)):=by
 have m1:l.tmod 8=l % 8:=bD h1.1;have m2:c.tmod 4=c % 4:=bD h2.1;have m3:fn.tmod 3=fn % 3:=bD h4.1;have m4:mk.tmod 4=mk % 4:=bD h3.1;have m5:ar.tmod 5=ar % 5:=bD h5.1;have m6:ro.tmod 16=ro % 16:=bD h6.1;have d1:ar.tdiv 8=ar / 8:=Int.tdiv_eq_ediv_of_nonneg h5.1;have d2:ar.tdiv 64=ar / 64:=Int.tdiv_eq_ediv_of_nonneg h5.1;have m7:(ar.tdiv 8).tmod 8=ar / 8 % 8:=by rw [d1];exact bD (by omega)
 have g1:=uJ (i:=l.tmod 8) (by omega);have g2:=uJ (i:=ar.tdiv 64) (by omega);obtain ⟨q,hq,hq2⟩:∃q,RM[(c.tmod 4).toNat]? = some q∧0≤q∧q<8:=by
  rw [m2];have:c % 4=0∨c % 4=1∨c % 4=2∨c % 4=3:=by omega
  rcases this with e | e | e | e<;>rw [e]<;>exact ⟨_,rfl,by decide,by decide⟩
 have g3:=uJ (i:=q) hq2;obtain ⟨nm,hnm⟩:∃nm,gz[((ar.tdiv 8).tmod 8).toNat]? = some nm:=⟨_,aB (show ((ar.tdiv 8).tmod 8).toNat<8 by omega)⟩
 have r1:(gg.map kz)[(l.tmod 8).toNat]? = some (kz ((gg[(l.tmod 8).toNat]?).getD oV)):=by rw [aC,g1];rfl
 have r3:(gg.map kz)[q.toNat]? = some (kz ((gg[q.toNat]?).getD oV)):=by rw [aC,g3];rfl
 have rq:(RM.map λx=>[D.int .i64 x])[(c.tmod 4).toNat]? = some [.int .i64 q]:=by rw [aC,hq];rfl
 have e1:Mv l c=db ((gg[(l.tmod 8).toNat]?).getD oV) ((gg[q.toNat]?).getD oV):=by unfold Mv;rw [hq];rfl
 have h24:=t_ ((gg[(l.tmod 8).toNat]?).getD oV) ((gg[q.toNat]?).getD oV) (sP _ (aH g1)) (sP _ (aH g3));have h20:∀a:Va,Z0 20 [gp ⟨[],[],[]⟩,.d (.int .i64 (fn.tmod 3)),.d (.int .i64 7),.d (.sl 5 ([a].map cK)),.d (.int .u8 (mk.tmod 4))] (.tu [gp (gF ⟨[],[],[]⟩ (fn.tmod 3) 7 [a] (mk.tmod 4)),.d (.bool true)]):=λa=>kj ⟨[],[],[]⟩ (fn.tmod 3) 7 [a] (mk.tmod 4) (by decide) (show 1<_ by decide);have h22:=HY [51] ⟨(gg[(l.tmod 8).toNat]?).getD oV,Mv l c⟩ (gF ⟨[],[],[]⟩ (fn.tmod 3) 7 [mN ar] (mk.tmod 4)) (ro.tmod 16);rw [e1] at h22;unfold KF;rw [e1]
 by_cases h60:60<ar
 ·have ea:mN ar=⟨3+ar.tmod 5,0,nm,((gg[(ar.tdiv 64).toNat]?).getD oV).s,((gg[(ar.tdiv 64).toNat]?).getD oV).i⟩:=by
   unfold mN;rw [φ h60,δ,hnm];rfl
  rw [ea] at h22 ⊢;have h20':=h20 ⟨3+ar.tmod 5,0,nm,((gg[(ar.tdiv 64).toNat]?).getD oV).s,((gg[(ar.tdiv 64).toNat]?).getD oV).i⟩;have r2:(gg.map kz)[(ar.tdiv 64).toNat]? = some (kz ((gg[(ar.tdiv 64).toNat]?).getD oV)):=by rw [aC,g2];rfl
  have rn:(gz.map λs=>[D.str s])[((ar.tdiv 8).tmod 8).toNat]? = some [.str nm]:=by rw [aC,hnm];rfl
  refine sh0 Tryz.f39 ?_
  repeat' ((conv=>whnf);first | exact zf | refine zm ?_ | refine zc BR ?_ | refine zc Ck ?_ | refine ⟨_,⟨by omega,r1,rfl⟩,?_⟩ | refine ⟨_,⟨by omega,rn,rfl⟩,?_⟩ | refine ⟨_,⟨by omega,r2,rfl⟩,?_⟩ | refine ⟨_,⟨by omega,rq,rfl⟩,?_⟩ | refine ⟨_,⟨by omega,r3,rfl⟩,?_⟩ | refine zc h20' ?_ | refine zc h24 ?_ | refine zc h22 ?_ | refine zt ?_ | refine zu ?_ | intro _)
 ·have ea:mN ar=num (ar.tmod 5):=by
   unfold mN;rw [τ h60,ε]
  rw [ea] at h22 ⊢;have h20':=h20 (num (ar.tmod 5));refine sh0 Tryz.f39 ?_
  repeat' ((conv=>whnf);first | exact zf | refine zm ?_ | refine zc BR ?_ | refine ⟨_,⟨by omega,r1,rfl⟩,?_⟩ | refine ⟨_,⟨by omega,rq,rfl⟩,?_⟩ | refine ⟨_,⟨by omega,r3,rfl⟩,?_⟩ | refine zc h20' ?_ | refine zc h24 ?_ | refine zc h22 ?_ | refine zt ?_ | refine zu ?_ | intro _)
theorem UE (s:Gs) (l:Lb) (p:Int) (hs:jX s) (hl:cI l):Z0 293 [.e (ri s) 0,.e (kz l) 0,.e [.int .u8 p] 0] (.d (.bool (fL s.cur l p))):=by
 have h:=vY s.cur l p hs.1 hl;refine sh0 Tryz.f293 ?_
 exact zj1 h
theorem UD (s:Gs) (l:Lb) (p:Int) (hs:jX s) (hl:cI l):Z0 295 [.e (kz l) 0,.e (ri s) 0,.e [.int .u8 p] 0] (.d (.bool (fL l s.gH p))):=by
 have h:=vY l s.gH p hl hs.2;refine sh0 Tryz.f295 ?_
 exact zj1 h
def VZ (s:Gs) (l:Lb) (p:Int):Mu:=⟨293,[.pt (ri s) 0,.pt (kz l) 0,.pt [.int .u8 p] 0],fL s.cur l p,-3⟩
def VY (s:Gs) (l:Lb) (p:Int):Mu:=⟨295,[.pt (kz l) 0,.pt (ri s) 0,.pt [.int .u8 p] 0],fL l s.gH p,-4⟩
def l5 (s:Gs) (l:Lb) (p:Int):Int:=firstM [VZ s l p,vd s l]
def lU (s:Gs) (l:Lb) (p:Int):Int:=firstM [VY s l p,yp s l]
def wC (s:Gs) (l:Lb) (p:Int):Gs:=bif l5 s l p==0 then ⟨fA l,s.gH⟩ else s
def vi (s:Gs) (l:Lb) (p:Int):Gs:=bif lU s l p==0 then ⟨s.cur,fA l⟩ else s
def uR (s:Gs) (l:Lb) (p:Int):Bool:=bif l5 s l p==0 then !ao s.cur l else false
def tf (s:Gs) (l:Lb) (p:Int):Bool:=bif lU s l p==0 then !ao l s.gH else false
def Uc (s:Gs) (e:Int) (b:Bool):V:=.tu [Fh s,.d (.int .i64 e),.d (.bool b)]
theorem MY (s:Gs) (l:Lb) (p:Int) (hs:jX s) (hl:cI l):Z0 255 [Fh s,jT l,.d (.int .u8 p)] (Uc (wC s l p) (l5 s l p) (uR s l p)):=by
 have h2:=mM s l;have h3:=nU [VZ s l p,vd s l] (by
  intro m hm;simp only [a8,cY,or_false] at hm;rcases hm with rfl | rfl
  ·exact ⟨.inr ⟨_,_,_,.inl rfl,rfl⟩,UE s l p hs hl⟩
  ·exact xD s l hs hl)
 have h4:=j_ l hl;have h5:=gQ s.cur l hs.1 hl;have he:firstM [VZ s l p,vd s l]=l5 s l p:=rfl;rw [he] at h3;unfold wC uR;refine sh0 Tryz.f255 ?_
 repeat' ((conv=>whnf);first | exact zf | refine (jM [0,1,2] ?_) | refine zm ?_ | refine zc h2 ?_ | refine zc h3 ?_ | intro _)
 cases hb:l5 s l p==0 with
 |true=>
  have hz:=eq_of_beq hb
  repeat' ((conv=>whnf);first | exact zf | refine zm ?_ | refine zc h4 ?_ | refine zc h5 ?_ | refine zt ?_ | refine zu ?_ | intro _)
  show Out.ret (Uc ⟨fA l,s.gH⟩ 0 (!ao s.cur l))=_;rw [hz];rfl
 |false=>
  exact zk0
theorem Lo (s:Gs) (l:Lb) (p:Int) (hs:jX s) (hl:cI l):Z0 257 [Fh s,jT l,.d (.int .u8 p)] (Uc (vi s l p) (lU s l p) (tf s l p)):=by
 have h2:=ub s l;have h3:=nU [VY s l p,yp s l] (by
  intro m hm;simp only [a8,cY,or_false] at hm;rcases hm with rfl | rfl
  ·exact ⟨.inr ⟨_,_,_,.inr rfl,rfl⟩,UD s l p hs hl⟩
  ·exact BI s l hs hl)
 have h4:=j_ l hl;have h5:=gQ l s.gH hl hs.2;have he:firstM [VY s l p,yp s l]=lU s l p:=rfl;rw [he] at h3;unfold vi tf;refine sh0 Tryz.f257 ?_
 repeat' ((conv=>whnf);first | exact zf | refine (jM [0,1,2] ?_) | refine zm ?_ | refine zc h2 ?_ | refine zc h3 ?_ | intro _)
 cases hb:lU s l p==0 with
 |true=>
  have hz:=eq_of_beq hb
  repeat' ((conv=>whnf);first | exact zf | refine zm ?_ | refine zc h4 ?_ | refine zc h5 ?_ | refine zt ?_ | refine zu ?_ | intro _)
  show Out.ret (Uc ⟨s.cur,fA l⟩ 0 (!ao l s.gH))=_;rw [hz];rfl
 |false=>
  exact zk0
theorem z8 {K:KT} (l:List (List D)) (hl:l.length<100000000) (hk:K (.ret (.os 0)) [.rows 7 l]):Z1 85 [.d (.sl 7 l)] [] K:=by
 refine si0 Tryz.f85 ?_;cases l with
 |nil=>
  repeat' ((conv=>whnf);first | exact zf | refine zm ?_ | refine And.intro ?_ ?_ | intro _)
  all_goals exact hk
 |cons r l=>
  repeat' ((conv=>whnf);first | exact zf | refine zm ?_ | intro _)
  all_goals exact hk
theorem Kf (l:List (List D)) (i:List UInt8) (b:Bool) (k n:Int) (x y z:List UInt8) (hl:l.length<100000000):Z0 287 [.d (.sl 7 l),.ag [.d (.str i),.d (.bool b),.d (.int .i64 k),.d (.int .i64 n),.d (.str x),.d (.str y),.d (.str z)]] (.d (.sl 7 (l ++ [[.str i,.bool b,.int .i64 k,.int .i64 n,.str x,.str y,.str z]]))):=by
 have hc:=λ{K:KT}=>z8 (K:=K) l hl;refine sh0 Tryz.f287 ?_
 repeat' ((conv=>whnf);first | exact zf | refine (c_ ?_) | refine zm ?_ | refine (hc ?_) | refine (And.intro ⟨rfl,rfl,by simp only [aV,ak];omega,by simp only [aV,ak];omega⟩ ?_) | refine And.intro ?_ ?_ | intro _)
theorem Pv (i:List UInt8) (b:Bool) (k n:Int) (x y z:List UInt8):Z0 289 [.ag [.d (.str i),.d (.bool b),.d (.int .i64 k),.d (.int .i64 n),.d (.str x),.d (.str y),.d (.str z)]] (.d (.bool b)):=by
 refine sh0 Tryz.f289 ?_
 exact zj0
theorem Kr (i:List UInt8) (b:Bool) (k n:Int) (x y z:List UInt8):Z0 291 [.ag [.d (.str i),.d (.bool b),.d (.int .i64 k),.d (.int .i64 n),.d (.str x),.d (.str y),.d (.str z)]] (.d (.bool (!b))):=by
 refine sh0 Tryz.f291 ?_
 exact zj0
structure Ws where
  i:List UInt8
  b:Bool
  k:Int
  n:Int
  x:List UInt8
  y:List UInt8
  z:List UInt8
def Ws.row (w:Ws):List D:=[.str w.i,.bool w.b,.int .i64 w.k,.int .i64 w.n,.str w.x,.str w.y,.str w.z]
def kL (p:Bool):List Ws→Nat
 |[]=>0
 |w :: r=>bif w.b==p then 0 else kL p r+1
def ki (p:Bool) (l:List Ws):Int:=if kL p l<l.length then kL p l else -1
theorem jP {p:Bool}:∀{l:List Ws} {i:Nat},(∀s∈l.take i,(s.b==p)=false)→i≤l.length→kL p l=i+kL p (l.drop i)
 |l,0,_,_=>by simp
 |[],i+1,_,h=>by simp at h
 |s :: l,i+1,h,hi=>by
  rw [kL,h s (by simp),ε,mT,jP (i:=i) (λx hx=>h x (by rw [dk];exact cQ _ hx)) (by simpa using hi)];omega
theorem JZ (p:Bool) (l:List Ws):Z0 288 [.d (.sl 7 (l.map Ws.row)),.d (.fn (bif p then 289 else 291))] (.d (.int .i64 (ki p l))):=by
 have hl:(l.map Ws.row).length=l.length:=aI _;cases p
 all_goals (
  refine sh0 Tryz.f288 ?_
  )
 ·skip
  repeat' ((conv=>whnf);first | exact zf | refine zm ?_ | intro _)
  conv=>whnf
  refine bN [(1,.d (.fn 291)),(7,.d (.sl 7 (l.map Ws.row))),(8,.d (.int .i64 (l.map Ws.row).length))] (λi:Nat=>i≤l.length∧∀s∈l.take i,(s.b==false)=false) (λi=>[(9,.d (.int .i64 i))]) (λ_=>[]) (λi=>l.length - i) 0 ⟨ah _,λ_ h=>nomatch h⟩ ?_ ?_ ?_ (λi hi=>?_)
  ·exact zzz
  ·exact zzz
  ·exact rfl
  repeat' ((conv=>whnf);first | exact zf | refine zm ?_ | intro _)
  refine aX (λhlt=>?_) (λhge=>?_)
  ·have hlt:i<l.length:=by rw [←hl];simpa using hlt
   obtain ⟨⟨a1,a2,a3,a4,a5,a6,a7⟩,hm⟩:∃m,l[i]? = some m:=⟨_,aB hlt⟩
   have hs:=Kr a1 a2 a3 a4 a5 a6 a7;have htk:l.take (i+1)=l.take i ++ [⟨a1,a2,a3,a4,a5,a6,a7⟩]:=by rw [bu,hm];rfl
   have hdr:l.drop i=⟨a1,a2,a3,a4,a5,a6,a7⟩ :: l.drop (i+1):=by
    rw [bR hlt];rw [aB hlt] at hm;rw [an hm]
   have hk:=jP hi.2 hi.1;rw [hdr,kL] at hk;have hrow:(l.map Ws.row)[i]? = some [D.str a1,.bool a2,.int .i64 a3,.int .i64 a4,.str a5,.str a6,.str a7]:=by rw [aC,hm];rfl
   cases a2 with
   |false=>
    repeat' ((conv=>whnf);first | exact zf | refine zm ?_ | refine ⟨_,⟨by omega,hrow,rfl⟩,?_⟩ | refine zc hs ?_ | intro _)
    refine cS (κ (λx=>V.d (D.int .i64 x)) ?_);unfold ki;rw [hk,ζ (by simp;omega)];simp
   |true=>
    repeat' ((conv=>whnf);first | exact zf | refine zm ?_ | refine ⟨_,⟨by omega,hrow,rfl⟩,?_⟩ | refine zc hs ?_ | intro _)
    refine ⟨i+1,⟨hlt,?_⟩,bG hlt (bP i),zzz,zzz,rfl⟩;rw [htk];intro x hx;exact (aS.1 hx).elim (hi.2 x) λh=>by rw [aM.1 h];rfl
  ·have hge:i=l.length:=by
    have:¬i<l.length:=by rw [←hl];simpa using hge
    omega
   have hk:=jP hi.2 hi.1;rw [hge,lH] at hk;have:ki false l = -1:=by unfold ki;rw [hk,η (by simp [kL])]
   rw [this]
   exact zj0
 ·skip
  repeat' ((conv=>whnf);first | exact zf | refine zm ?_ | intro _)
  conv=>whnf
  refine bN [(1,.d (.fn 289)),(7,.d (.sl 7 (l.map Ws.row))),(8,.d (.int .i64 (l.map Ws.row).length))] (λi:Nat=>i≤l.length∧∀s∈l.take i,(s.b==true)=false) (λi=>[(9,.d (.int .i64 i))]) (λ_=>[]) (λi=>l.length - i) 0 ⟨ah _,λ_ h=>nomatch h⟩ ?_ ?_ ?_ (λi hi=>?_)
  ·exact zzz
  ·exact zzz
  ·exact rfl
  repeat' ((conv=>whnf);first | exact zf | refine zm ?_ | intro _)
  refine aX (λhlt=>?_) (λhge=>?_)
  ·have hlt:i<l.length:=by rw [←hl];simpa using hlt
   obtain ⟨⟨a1,a2,a3,a4,a5,a6,a7⟩,hm⟩:∃m,l[i]? = some m:=⟨_,aB hlt⟩
   have hs:=Pv a1 a2 a3 a4 a5 a6 a7;have htk:l.take (i+1)=l.take i ++ [⟨a1,a2,a3,a4,a5,a6,a7⟩]:=by rw [bu,hm];rfl
   have hdr:l.drop i=⟨a1,a2,a3,a4,a5,a6,a7⟩ :: l.drop (i+1):=by
    rw [bR hlt];rw [aB hlt] at hm;rw [an hm]
   have hk:=jP hi.2 hi.1;rw [hdr,kL] at hk;have hrow:(l.map Ws.row)[i]? = some [D.str a1,.bool a2,.int .i64 a3,.int .i64 a4,.str a5,.str a6,.str a7]:=by rw [aC,hm];rfl
   cases a2 with
   |true=>
    repeat' ((conv=>whnf);first | exact zf | refine zm ?_ | refine ⟨_,⟨by omega,hrow,rfl⟩,?_⟩ | refine zc hs ?_ | intro _)
    refine cS (κ (λx=>V.d (D.int .i64 x)) ?_);unfold ki;rw [hk,ζ (by simp;omega)];simp
   |false=>
    repeat' ((conv=>whnf);first | exact zf | refine zm ?_ | refine ⟨_,⟨by omega,hrow,rfl⟩,?_⟩ | refine zc hs ?_ | intro _)
    refine ⟨i+1,⟨hlt,?_⟩,bG hlt (bP i),zzz,zzz,rfl⟩;rw [htk];intro x hx;exact (aS.1 hx).elim (hi.2 x) λh=>by rw [aM.1 h];rfl
  ·have hge:i=l.length:=by
    have:¬i<l.length:=by rw [←hl];simpa using hge
    omega
   have hk:=jP hi.2 hi.1;rw [hge,lH] at hk;have:ki true l = -1:=by unfold ki;rw [hk,η (by simp [kL])]
   rw [this]
   exact zj0
end Go.Proofs.YtjpgfgajkjhonaaGreatDoor