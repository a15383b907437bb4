/- What is known of the ops: the table's rows. Conditions: none. -/
import Derived.Test.YtjpgfgajkjhonaaGreatDoorQEAX
import Derived.Test.YtjpgfgajkjhonaaGreatDoorQEAT
import Derived.Test.YtjpgfgajkjhonaaGreatDoorQEAV
namespace Go.Proofs.YtjpgfgajkjhonaaGreatDoor
open Go.Vx
set_option maxRecDepth 100000
structure Info where
  nm:List UInt8
  ar:Int
  po:Int
  pu:Int
def r_:List D→Option Info
 |[.str s,.int .u8 a,.int .u8 p,.int .u8 q]=>some ⟨s,a,p,q⟩
 |_=>none
def LM (r:List D):Bool:=match r_ r with
 |some i=>decide (0≤i.ar)&&(decide (i.ar≤5)&&(decide (0≤i.po)&&(decide (i.po≤4)&&(decide (0≤i.pu)&&decide (i.pu≤2)))))
 |none=>false
theorem EL:gr.all LM=true:=rfl
theorem Ct {r:List D} {i:Info} (h:r_ r=some i):r = [.str i.nm,.int .u8 i.ar,.int .u8 i.po,.int .u8 i.pu]:=by
 unfold r_ at h;split at h
 ·cases h;rfl
 ·cases h
def inf (c:Int):Option Info:=bif decide (1≤c)&&decide (c≤47) then (gr[(c - 1).toNat]?).bind r_ else none
def last (c:Int):Bool:=(c==15)||((c==18)||(c==19))
def nz (c:Int):V:=match inf c with
 |some i=>.tu [.ag [.d (.str i.nm),.d (.int .i64 i.ar),.d (.int .i64 i.po),.d (.int .i64 i.pu),.d (.bool (last c))],.d (.bool true)]
 |none=>.tu [.ag [.d (.str []),.d (.int .i64 0),.d (.int .i64 0),.d (.int .i64 0),.d (.bool false)],.d (.bool false)]
theorem v7 {c:Int} (h1:1≤c) (h2:c≤47):∃i,inf c=some i∧(chunk 4 47 (gr.flatten.drop 0))[(c - 1).toNat]? = some [.str i.nm,.int .u8 i.ar,.int .u8 i.po,.int .u8 i.pu] ∧
  0≤i.ar∧i.ar≤5∧0≤i.po∧i.po≤4∧0≤i.pu∧i.pu≤2:=by
 have hlen:gr.length=47:=rfl;have hc:chunk 4 47 (gr.flatten.drop 0)=gr:=rfl;obtain ⟨r,hr⟩:∃r,gr[(c - 1).toNat]? = some r:=⟨_,aB (by omega)⟩
 have hf:=aR.1 EL r (aH hr);unfold LM at hf;cases hi:r_ r with
 |none=>rw [hi] at hf;cases hf
 |some i=>
  rw [hi] at hf;simp only [aS,decide_eq_true_eq] at hf;refine ⟨i,by unfold inf;rw [show (decide (1≤c)&&decide (c≤47))=true by simp [h1,h2]];simp only [cond_true,hr,Option.bind_some,hi],?_,hf.1,hf.2.1,hf.2.2.1,hf.2.2.2.1,hf.2.2.2.2.1,hf.2.2.2.2.2⟩;rw [hc,hr,Ct hi]
theorem F7 {c:Int} (h:c<1∨47<c):inf c=none:=by
 have:(decide (1≤c)&&decide (c≤47))=false:=by
  cases hh:(decide (1≤c)&&decide (c≤47)) with
  |false=>rfl
  |true=>simp at hh;omega
 simp [inf,this]
theorem sA {c:Int} {i:Info} (h:inf c=some i):1≤c∧c≤47∧0≤i.ar∧i.ar≤5∧0≤i.po∧i.po≤4∧0≤i.pu∧i.pu≤2:=by
 by_cases h0:1≤c∧c≤47
 ·obtain ⟨i',h1,_,h2⟩:=v7 h0.1 h0.2;rw [h] at h1;cases h1;exact ⟨h0.1,h0.2,h2⟩
 ·rw [F7 (by omega)] at h;cases h
theorem Bu (c:Int):bJ Tryz.prog 112 [.d (.int .i64 c)] (nz c):=by
  by_cases h0:1≤c∧c≤47
  · obtain ⟨i,h1,h2,h3⟩:=v7 h0.1 h0.2
    have hr:nz c = .tu [.ag [.d (.str i.nm),.d (.int .i64 i.ar),.d (.int .i64 i.po),.d (.int .i64 i.pu),.d (.bool (last c))],.d (.bool true)]:=by simp only [nz,h1]
    rw [hr]
    refine s112.go (keep:=false) rfl ?_
    repeat' ((conv=>whnf);first | exact zf | refine zm ?_ | intro _)
    refine aW (λhb=>absurd hb (by simp;omega)) (λhb=>?_)
    repeat' ((conv=>whnf);first | exact zf | refine zm ?_ | intro _)
    refine aW (λhb=>absurd hb (by simp;omega)) (λhb=>?_)
    repeat' ((conv=>whnf);first | exact zf | refine zm ?_ | intro _)
    refine ⟨_,⟨by omega,h2,by decide +kernel⟩,?_⟩
    repeat' ((conv=>whnf);first | exact zf | refine zm ?_ | refine aW (λhb=>?_) (λhb=>?_) | intro _)
    all_goals
      refine cQ (congrArg (λb=>V.tu [V.ag [V.d (.str i.nm),V.d (.int .i64 i.ar),V.d (.int .i64 i.po),V.d (.int .i64 i.pu),V.d (.bool b)],V.d (.bool true)]) ?_)
      first
        |(simp_all [last];done)
        | (have a1 : (c == 15) = false := by simp_all
           have a2:(c==18)=false:=by simp_all
           simp [last,a1,a2])
  · have hr:nz c = .tu [.ag [.d (.str []),.d (.int .i64 0),.d (.int .i64 0),.d (.int .i64 0),.d (.bool false)],.d (.bool false)]:=by simp only [nz,F7 (c:=c) (by omega)]
    rw [hr]
    refine s112.go (keep:=false) rfl ?_
    repeat' ((conv=>whnf);first | exact zf | refine zm ?_ | refine aW (λhb=>?_) (λhb=>?_) | intro _)
    all_goals
      exfalso
      simp at *
      omega
end Go.Proofs.YtjpgfgajkjhonaaGreatDoor
namespace Go.Proofs.YtjpgfgajkjhonaaGreatDoor
open Go.Vx
structure Op where
  c:Int
  a:Int
def dN (o:Op):List D:=[.int .i64 o.c,.int .i64 o.a]
def AO (o:Op):V:=.ag [.d (.int .i64 o.c),.d (.int .i64 o.a)]
structure Fn where
  args:Int
  vars:Int
  code:List Op
def da (f:Fn):List D:=[.int .i64 f.args,.int .i64 f.vars,.sl 2 (f.code.map dN)]
structure Im where
  cs:List Va
  fs:List Fn
def wF (im:Im):V:=.ag [.d (.sl 5 (im.cs.map cE)),.d (.sl 3 (im.fs.map da))]
theorem nJ {c:Int} {i:Info} (h:inf c=some i):bJ Tryz.prog 112 [.d (.int .i64 c)] (.tu [.ag [.d (.str i.nm),.d (.int .i64 i.ar),.d (.int .i64 i.po),.d (.int .i64 i.pu),.d (.bool (last c))],.d (.bool true)]):=by
 have:=Bu c;simp only [nz,h] at this;exact this
theorem sq {c:Int} (h:inf c=none):bJ Tryz.prog 112 [.d (.int .i64 c)] (.tu [.ag [.d (.str []),.d (.int .i64 0),.d (.int .i64 0),.d (.int .i64 0),.d (.bool false)],.d (.bool false)]):=by
 have:=Bu c;simp only [nz,h] at this;exact this
def iy (o:Op):Bool:=match inf o.c with
 |some i=>bif i.ar==0 then o.a==0 else decide (0≤o.a)&&decide (o.a≤65535)
 |none=>false
theorem Hq (o:Op):bJ Tryz.prog 142 [AO o] (.d (.bool (iy o))):=by
 refine s142.go (keep:=false) rfl ?_;cases hi:inf o.c with
 |none=>
  have h:=sq hi
  repeat' ((conv=>whnf);first | exact zf | refine zm ?_ | refine zc h ?_ | refine aW (λhb=>?_) (λhb=>?_) | intro _)
  refine cQ (congrArg (λx=>V.d (.bool x)) ?_);simp [iy,hi]
 |some i=>
  have h:=nJ hi
  repeat' ((conv=>whnf);first | exact zf | refine zm ?_ | refine zc h ?_ | refine aW (λhb=>?_) (λhb=>?_) | intro _)
  all_goals
   refine cQ (congrArg (λx=>V.d (.bool x)) ?_);simp only [iy,hi];rcases Decidable.em (i.ar=0) with e0 | e0
   ·simp_all
   ·have e1:(i.ar==0)=false:=by simpa using e0
    rw [e1,cond_false];clear e1;simp_all
    try omega
def within (n m:Int):Bool:=decide (0≤n)&&decide (n<m)
theorem kP (n m:Int):bJ Tryz.prog 141 [.d (.int .i64 n),.d (.int .i64 m)] (.d (.bool (within n m))):=by
 refine s141.go (keep:=false) rfl ?_
 repeat' ((conv=>whnf);first | exact zf | refine zm ?_ | refine aW (λhb=>?_) (λhb=>?_) | intro _)
 all_goals
  refine cQ (congrArg (λx=>V.d (.bool x)) ?_);simp_all [within]
  try omega
def fN (im:Im) (f:Fr) (fn:Fn) (o:Op):Bool:=match inf o.c with
 |some i=>bif i.ar==1 then within o.a im.cs.length else bif i.ar==2 then within o.a f.vars.length else bif i.ar==3 then within o.a fn.code.length else bif i.ar==4 then within o.a im.fs.length else true
 |none=>true
theorem C0 (im:Im) (f:Fr) (fn:Fn) (o:Op) (h0:0≤f.fu) (hf:im.fs[f.fu.toNat]? = some fn):bJ Tryz.prog 143 [wF im,Um f,AO o] (.d (.bool (fN im f fn o))):=by
  refine s143.go (keep:=false) rfl ?_
  have w1:=kP o.a (im.cs.map cE).length
  have w2:=kP o.a (f.vars.map cE).length
  have w3:=kP o.a (fn.code.map dN).length
  have w4:=kP o.a (im.fs.map da).length
  have hrow:(im.fs.map da)[f.fu.toNat]? = some (da fn):=by simp [hf]
  cases hi:inf o.c with
  |none=>
    have h:=sq hi
    repeat' ((conv=>whnf);first | exact zf | refine zm ?_ | refine zc h ?_ | refine zc w1 ?_ | refine zc w2 ?_ | refine zc w3 ?_ | refine zc w4 ?_ | refine aW (λhb=>?_) (λhb=>?_) | intro _)
    all_goals
      first
        |(refine cQ (congrArg (λx=>V.d (.bool x)) ?_);simp_all [fN];done)
        |(exfalso;simp_all;done)
  |some i=>
    have h:=nJ hi
    repeat' ((conv=>whnf);first | exact zf | refine zm ?_ | refine zc h ?_ | refine zc w1 ?_ | refine zc w2 ?_ | refine zc w3 ?_ | refine zc w4 ?_ | refine aW (λhb=>?_) (λhb=>?_) | intro _)
    all_goals try
      (refine cQ (congrArg (fun x => V.d (.bool x)) ?_)
       simp_all [fN]
       done)
    all_goals
      refine ⟨da fn,⟨h0,hrow,rfl⟩,?_⟩
      repeat' ((conv=>whnf);first | exact zf | refine zm ?_ | refine zc w3 ?_ | refine aW (λhb=>?_) (λhb=>?_) | intro _)
      refine cQ (congrArg (λx=>V.d (.bool x)) ?_)
      simp_all [fN]
def fH (im:Im) (o:Op):Int:=match inf o.c with
 |some i=>bif o.c==17 then i.po+(match im.fs[o.a.toNat]? with | some g=>g.args | none=>0) else i.po
 |none=>0
theorem A5 (im:Im) (o:Op) (hg:o.c=17→∃g,0≤o.a∧im.fs[o.a.toNat]? = some g∧eN .i64 g.args):bJ Tryz.prog 144 [wF im,AO o] (.d (.int .i64 (fH im o))):=by
 refine s144.go (keep:=false) rfl ?_;cases hi:inf o.c with
 |none=>
  have h:=sq hi;have hc:o.c≠17:=by
   intro e;rw [e] at hi;obtain ⟨i,h1,_⟩:=v7 (c:=17) (by omega) (by omega);rw [h1] at hi;cases hi
  repeat' ((conv=>whnf);first | exact zf | refine zm ?_ | refine zc h ?_ | intro _)
  refine aW (λhb=>absurd hb (by simp [hc])) (λhb=>?_)
  repeat' ((conv=>whnf);first | exact zf | refine zm ?_ | intro _)
  refine cQ (congrArg (λx=>V.d (.int .i64 x)) ?_);simp only [fH,hi]
 |some i=>
  have h:=nJ hi
  by_cases hc:o.c=17
  ·obtain ⟨g,h0,h1,h2⟩:=hg hc;have hp:i.po=0:=by
    rw [hc] at hi;have:inf 17=some ⟨[99,97,108,108],4,0,1⟩:=rfl;rw [this] at hi;cases hi;rfl
   have hrow:(im.fs.map da)[o.a.toNat]? = some (da g):=by simp [h1]
   replace h2 : -9223372036854775808≤g.args∧g.args≤9223372036854775807:=h2
   repeat' ((conv=>whnf);first | exact zf | refine zm ?_ | refine zc h ?_ | intro _)
   refine aW (λhb=>?_) (λhb=>absurd hc (by simpa using hb))
   repeat' ((conv=>whnf);first | exact zf | refine zm ?_ | intro _)
   refine ⟨da g,⟨h0,hrow,rfl⟩,?_⟩
   repeat' ((conv=>whnf);first | exact zf | refine zm ?_ | intro _)
   refine cQ (congrArg (λx=>V.d (.int .i64 x)) ?_);simp only [fH,hi,hb,cond_true,h1]
  ·have hcb:(o.c==17)=false:=by simpa using hc
   repeat' ((conv=>whnf);first | exact zf | refine zm ?_ | refine zc h ?_ | intro _)
   refine aW (λhb=>absurd hb (by simp [hc])) (λhb=>?_)
   repeat' ((conv=>whnf);first | exact zf | refine zm ?_ | intro _)
   refine cQ (congrArg (λx=>V.d (.int .i64 x)) ?_);simp only [fH,hi,hcb,cond_false]
theorem mZ (n:Int):bJ Tryz.prog 106 [.d (.int .i64 n)] (jT (num n)):=by
 refine s106.go (keep:=false) rfl ?_
 repeat' ((conv=>whnf);first | exact zf | refine zm ?_ | intro _)
def iK (b:Bool):Va:=num (bif b then 1 else 0)
theorem A2 (b:Bool):bJ Tryz.prog 219 [.d (.bool b)] (jT (iK b)):=by
 refine s219.go (keep:=false) rfl ?_;cases b
 ·skip
  repeat' ((conv=>whnf);first | exact zf | refine zm ?_ | refine zc (mZ 0) ?_ | intro _)
 ·skip
  repeat' ((conv=>whnf);first | exact zf | refine zm ?_ | refine zc (mZ 1) ?_ | intro _)
structure Ou where
  k:Int
  v:Va
  o:Op
def te (u:Ou):V:=.ag [.d (.int .i64 u.k),.d (.int .i64 u.v.k),.d (.int .i64 u.v.n),.d (.str u.v.nm),.d (.str u.v.ls),.d (.str u.v.li),.d (.int .i64 u.o.c),.d (.int .i64 u.o.a)]
def o0:Op:=⟨0,0⟩
def cD:Ou:=⟨0,zeroV,o0⟩
def failed (n:Int):Ou:=⟨2,num n,o0⟩
def ll (c:Co) (code kp:Int):Option Co:=
 bif decide ((c.tr.length:Int) - 1<max kp 0) then none else
 match c.tr.getLast? with
 |none=>none
 |some t=>bif pw c t then some (rC c t code) else none
theorem wY {c c':Co} {code kp:Int} (h:ll c code kp=some c'):jY c code kp = .tu [gN c',.d (.bool true)]:=by
 unfold ll at h;unfold jY;cases h1:decide ((c.tr.length:Int) - 1<max kp 0)<;>rw [h1] at h<;>simp only [cond_true,cond_false] at h ⊢
 ·split at h
  ·cases h
  ·rename_i t ht;rw [ht];simp only;cases h2:pw c t<;>rw [h2] at h<;>simp only [cond_true,cond_false] at h ⊢<;>cases h;rfl
 ·cases h
theorem wZ {c:Co} {code kp:Int} (h:ll c code kp=none):jY c code kp = .tu [gN c,.d (.bool false)]:=by
 unfold ll at h;unfold jY;cases h1:decide ((c.tr.length:Int) - 1<max kp 0)<;>rw [h1] at h<;>simp only [cond_true,cond_false] at h ⊢;split at h
 ·rename_i ht;rw [ht]
 ·rename_i t ht;rw [ht];simp only;cases h2:pw c t<;>rw [h2] at h<;>simp only [cond_true,cond_false] at h ⊢;cases h
def raise (c:Co) (code kp:Int):Co×Ou:=match ll c code kp with
 |some c'=>(c',cD)
 |none=>(c,failed code)
theorem qc (c:Co) (code kp:Int) (hf:c.fr.length<1000000000) (hs:c.st.length<1000000000):bJ Tryz.prog 109 [gN c,.d (.int .i64 code),.d (.int .i64 kp)] (.tu [gN (raise c code kp).1,te (raise c code kp).2]):=by
 have h:=HY c code kp hf hs;refine s109.go (keep:=false) rfl ?_;cases ht:ll c code kp with
 |some c'=>
  rw [wY ht] at h;simp only [raise,ht]
  repeat' ((conv=>whnf);first | exact zf | refine zm ?_ | refine zc h ?_ | intro _)
 |none=>
  rw [wZ ht] at h;simp only [raise,ht]
  repeat' ((conv=>whnf);first | exact zf | refine zm ?_ | refine zc h ?_ | refine zc (mZ code) ?_ | intro _)
end Go.Proofs.YtjpgfgajkjhonaaGreatDoor
namespace Go.Proofs.YtjpgfgajkjhonaaGreatDoor
open Go.Vx
structure C3 (im:Im):Prop where
  args:∀(i:Nat) (g:Fn),im.fs[i]? = some g→eN .i64 g.args
def fit (im:Im) (c:Co):Option Op:=
 match c.fr.getLast? with
 |none=>none
 |some f=>bif within f.fu im.fs.length then (match im.fs[f.fu.toNat]? with
  |none=>none
  |some fn=>bif within f.pc fn.code.length then (match fn.code[f.pc.toNat]? with
   |none=>none
   |some o=>bif iy o&&(fN im f fn o&&et c (fH im o)) then some o else none) else none) else none
def lO (im:Im) (c:Co):V:=match fit im c with
 |some o=>.tu [AO o,.d (.bool true)]
 |none=>.tu [AO o0,.d (.bool false)]
theorem within_iff {n m:Int}:within n m=true↔0≤n∧n<m:=by simp [within]
theorem oS {im:Im} {f:Fr} {fn:Fn} {o:Op} (hc:o.c=17) (h:fN im f fn o=true):within o.a im.fs.length=true:=by
 unfold fN at h;rw [hc] at h;have:inf 17=some ⟨[99,97,108,108],4,0,1⟩:=rfl;rw [this] at h;exact h
set_option maxRecDepth 100000 in
set_option maxHeartbeats 4000000 in
theorem lX (im:Im) (c:Co) (hI:C3 im) (hs:c.st.length<1000000000):bJ Tryz.prog 105 [wF im,gN c] (lO im c):=by
  cases hl:c.fr.getLast? with
  |none=>
    have hz:c.fr = []:=by simpa using hl
    have hr:lO im c = .tu [AO o0,.d (.bool false)]:=by simp only [lO,fit,hl]
    rw [hr]
    refine s105.go (keep:=false) rfl ?_
    repeat' ((conv=>whnf);first | exact zf | refine zm ?_ | intro _)
    refine aW (λhb=>?_) (λhb=>absurd hb (by simp [hz]))
    repeat' ((conv=>whnf);first | exact zf | refine zm ?_ | intro _)
  |some f=>
    have hlen:0<c.fr.length:=by
      cases h:c.fr with
      |nil=>rw [h] at hl;cases hl
      |cons=>simp
    have hne:c.fr≠[]:=λe=>by simp [e] at hlen
    have hf1:c.fr[c.fr.length - 1]? = some f:=by rw [dQ] at hl;exact hl
    have hrow:(c.fr.map bQ)[c.fr.length - 1]? = some (bQ f):=by simp [hf1]
    have w1:=kP f.fu (im.fs.map da).length
    have e1:within f.fu (im.fs.map da).length=within f.fu im.fs.length:=by rw [aL]
    rw [e1] at w1
    cases h1:within f.fu im.fs.length with
    |false=>
      have hr:lO im c = .tu [AO o0,.d (.bool false)]:=by simp only [lO,fit,hl,h1,cond_false]
      rw [hr]
      rw [h1] at w1
      refine s105.go (keep:=false) rfl ?_
      repeat' ((conv=>whnf);first | exact zf | refine zm ?_ | intro _)
      refine aW (λhb=>absurd hb (by simp [hne])) (λhb=>?_)
      repeat' ((conv=>whnf);first | exact zf | refine zm ?_ | intro _)
      refine ⟨bQ f,⟨by simp;omega,by simp [hf1],rfl⟩,?_⟩
      repeat' ((conv=>whnf);first | exact zf | refine zm ?_ | refine zc w1 ?_ | intro _)
    |true=>
      obtain ⟨g1,g2⟩:=within_iff.1 h1
      obtain ⟨fn,hfn⟩:∃fn,im.fs[f.fu.toNat]? = some fn:=⟨_,aB (by omega)⟩
      rw [h1] at w1
      have w2:=kP f.pc (fn.code.map dN).length
      have e2:within f.pc (fn.code.map dN).length=within f.pc fn.code.length:=by rw [aL]
      rw [e2] at w2
      have hrow2:(im.fs.map da)[f.fu.toNat]? = some (da fn):=by simp [hfn]
      cases h2:within f.pc fn.code.length with
      |false=>
        have hr:lO im c = .tu [AO o0,.d (.bool false)]:=by simp only [lO,fit,hl,h1,cond_true,hfn,h2,cond_false]
        rw [hr]
        rw [h2] at w2
        refine s105.go (keep:=false) rfl ?_
        repeat' ((conv=>whnf);first | exact zf | refine zm ?_ | intro _)
        refine aW (λhb=>absurd hb (by simp [hne])) (λhb=>?_)
        repeat' ((conv=>whnf);first | exact zf | refine zm ?_ | intro _)
        refine ⟨bQ f,⟨by simp;omega,by simp [hf1],rfl⟩,?_⟩
        repeat' ((conv=>whnf);first | exact zf | refine zm ?_ | refine zc w1 ?_ | intro _)
        refine ⟨da fn,⟨g1,hrow2,rfl⟩,?_⟩
        repeat' ((conv=>whnf);first | exact zf | refine zm ?_ | refine zc w2 ?_ | intro _)
      |true=>
        obtain ⟨g3,g4⟩:=within_iff.1 h2
        obtain ⟨o,ho⟩:∃o,fn.code[f.pc.toNat]? = some o:=⟨_,aB (by omega)⟩
        have hrow3:(fn.code.map dN)[f.pc.toNat]? = some (dN o):=by simp [ho]
        rw [h2] at w2
        have w3:=Hq o
        have w4:=C0 im f fn o g1 hfn
        have hfit:fit im c=bif iy o&&(fN im f fn o&&et c (fH im o)) then some o else none:=by simp only [fit,hl,h1,cond_true,hfn,h2,ho]
        cases h3:iy o with
        |false=>
          have hr:lO im c = .tu [AO o0,.d (.bool false)]:=by simp only [lO,hfit,h3,mY,cond_false]
          rw [hr]
          rw [h3] at w3
          refine s105.go (keep:=false) rfl ?_
          repeat' ((conv=>whnf);first | exact zf | refine zm ?_ | intro _)
          refine aW (λhb=>absurd hb (by simp [hne])) (λhb=>?_)
          repeat' ((conv=>whnf);first | exact zf | refine zm ?_ | intro _)
          refine ⟨bQ f,⟨by simp;omega,by simp [hf1],rfl⟩,?_⟩
          repeat' ((conv=>whnf);first | exact zf | refine zm ?_ | refine zc w1 ?_ | intro _)
          refine ⟨da fn,⟨g1,hrow2,rfl⟩,?_⟩
          repeat' ((conv=>whnf);first | exact zf | refine zm ?_ | refine zc w2 ?_ | intro _)
          refine ⟨dN o,⟨g3,hrow3,rfl⟩,?_⟩
          repeat' ((conv=>whnf);first | exact zf | refine zm ?_ | refine zc w3 ?_ | intro _)
        |true=>
          rw [h3] at w3
          cases h4:fN im f fn o with
          |false=>
            have hr:lO im c = .tu [AO o0,.d (.bool false)]:=by simp only [lO,hfit,h3,h4,mY,Bool.and_false,cond_false]
            rw [hr]
            rw [h4] at w4
            refine s105.go (keep:=false) rfl ?_
            repeat' ((conv=>whnf);first | exact zf | refine zm ?_ | intro _)
            refine aW (λhb=>absurd hb (by simp [hne])) (λhb=>?_)
            repeat' ((conv=>whnf);first | exact zf | refine zm ?_ | intro _)
            refine ⟨bQ f,⟨by simp;omega,by simp [hf1],rfl⟩,?_⟩
            repeat' ((conv=>whnf);first | exact zf | refine zm ?_ | refine zc w1 ?_ | intro _)
            refine ⟨da fn,⟨g1,hrow2,rfl⟩,?_⟩
            repeat' ((conv=>whnf);first | exact zf | refine zm ?_ | refine zc w2 ?_ | intro _)
            refine ⟨dN o,⟨g3,hrow3,rfl⟩,?_⟩
            repeat' ((conv=>whnf);first | exact zf | refine zm ?_ | refine zc w3 ?_ | refine zc w4 ?_ | intro _)
          |true=>
            rw [h4] at w4
            have w5:=A5 im o (λhc=>by
              obtain ⟨k1,k2⟩:=within_iff.1 (oS hc h4)
              obtain ⟨g,hg⟩:∃g,im.fs[o.a.toNat]? = some g:=⟨_,aB (by omega)⟩
              exact ⟨g,k1,hg,hI.args _ _ hg⟩)
            have w6:=xB c (fH im o) hs
            cases h5:et c (fH im o) with
            |false=>
              have hr:lO im c = .tu [AO o0,.d (.bool false)]:=by simp only [lO,hfit,h3,h4,h5,Bool.and_false,cond_false]
              rw [hr]
              rw [qd h5] at w6
              refine s105.go (keep:=false) rfl ?_
              repeat' ((conv=>whnf);first | exact zf | refine zm ?_ | intro _)
              refine aW (λhb=>absurd hb (by simp [hne])) (λhb=>?_)
              repeat' ((conv=>whnf);first | exact zf | refine zm ?_ | intro _)
              refine ⟨bQ f,⟨by simp;omega,by simp [hf1],rfl⟩,?_⟩
              repeat' ((conv=>whnf);first | exact zf | refine zm ?_ | refine zc w1 ?_ | intro _)
              refine ⟨da fn,⟨g1,hrow2,rfl⟩,?_⟩
              repeat' ((conv=>whnf);first | exact zf | refine zm ?_ | refine zc w2 ?_ | intro _)
              refine ⟨dN o,⟨g3,hrow3,rfl⟩,?_⟩
              repeat' ((conv=>whnf);first | exact zf | refine zm ?_ | refine zc w3 ?_ | refine zc w4 ?_ | refine zc w5 ?_ | refine zc w6 ?_ | intro _)
            |true=>
              have hr:lO im c = .tu [AO o,.d (.bool true)]:=by simp only [lO,hfit,h3,h4,h5,dc,cond_true]
              rw [hr]
              rw [kT h5] at w6
              refine s105.go (keep:=false) rfl ?_
              repeat' ((conv=>whnf);first | exact zf | refine zm ?_ | intro _)
              refine aW (λhb=>absurd hb (by simp [hne])) (λhb=>?_)
              repeat' ((conv=>whnf);first | exact zf | refine zm ?_ | intro _)
              refine ⟨bQ f,⟨by simp;omega,by simp [hf1],rfl⟩,?_⟩
              repeat' ((conv=>whnf);first | exact zf | refine zm ?_ | refine zc w1 ?_ | intro _)
              refine ⟨da fn,⟨g1,hrow2,rfl⟩,?_⟩
              repeat' ((conv=>whnf);first | exact zf | refine zm ?_ | refine zc w2 ?_ | intro _)
              refine ⟨dN o,⟨g3,hrow3,rfl⟩,?_⟩
              repeat' ((conv=>whnf);first | exact zf | refine zm ?_ | refine zc w3 ?_ | refine zc w4 ?_ | refine zc w5 ?_ | refine zc w6 ?_ | intro _)
end Go.Proofs.YtjpgfgajkjhonaaGreatDoor
namespace Go.Proofs.YtjpgfgajkjhonaaGreatDoor
open Go.Vx
structure Mh where
  im:Im
  gA:Co
  o:Op
  fr:Int
  tr:Int
def iE (m:Mh) (c0:V) (st:List Va) (ts:List Tr) (tk:V) (u:Ou) (wr:Bool) (cd:Int):List V:=
  [.d (.sl 5 (m.im.cs.map cE)), .d (.sl 3 (m.im.fs.map da)), .d (.sl 5 (m.gA.fr.map bQ)), .d (.sl 5 (m.gA.st.map cE)), .d (.sl 3 (m.gA.tr.map eC)),
   c0,.d (.sl 5 (st.map cE)),.d (.sl 3 (ts.map eC)),.d (.int .i64 m.o.c),.d (.int .i64 m.o.a),tk,.d (.int .i64 m.fr),.d (.int .i64 m.tr),
   .d (.int .i64 u.k),.d (.int .i64 u.v.k),.d (.int .i64 u.v.n),.d (.str u.v.nm),.d (.str u.v.ls),.d (.str u.v.li),.d (.int .i64 u.o.c),.d (.int .i64 u.o.a),.d (.bool wr),.d (.int .i64 cd)]
def gj (l:List Va):V:=.d (.sl 5 (l.map cE))
theorem tp {K:Out→H→Prop} (m:Mh) (st:List Va) (ts:List Tr) (tk:List Va) (u:Ou) (wr:Bool) (cd:Int) (rows:List (List D)) (hr:0<rows.length) (hl:rows.length<1000000000)
  (hk:K (.ret (.q 1 5 ((rows.length:Int) - 1).toNat 0)) [.cells (iE m (.os 1) st ts (gj tk) u wr cd),.rows 5 rows]) :
  Sat Tryz.prog 167 [.p 0 0] [.cells (iE m (.os 1) st ts (gj tk) u wr cd),.rows 5 rows] K:=by
 refine s167.go (keep:=false) rfl ?_
 repeat' ((conv=>whnf);first | exact zf | refine zm ?_ | intro _)
 exact hk
theorem lL {K:Out→H→Prop} (m:Mh) (st:List Va) (ts:List Tr) (tk:List Va) (u:Ou) (wr:Bool) (cd:Int) (fs:List Fr) (v:Va) (hs:st.length<1000000000)
  (hk:K (.ret (.tu [])) [.cells (iE m (.d (.sl 5 (fs.map bQ))) (st ++ [v]) ts (gj tk) u wr cd),.no]) :
  Sat Tryz.prog 214 [.p 0 0,jT v] [.cells (iE m (.os 1) st ts (gj tk) u wr cd),.rows 5 (fs.map bQ)] K:=by
 refine s214.go (keep:=false) rfl ?_
 repeat' ((conv=>whnf);first | exact zf | refine iW [1] ?_ | refine zm ?_ | refine zc (rQ ⟨fs,st,ts⟩ v hs) ?_ | intro _)
 exact hk
theorem zS {K:Out→H→Prop} (m:Mh) (st:List Va) (ts:List Tr) (tk:List Va) (u:Ou) (wr:Bool) (cd:Int) (fs:List Fr) (v:Va) (hs:st.length<1000000000)
  (hk:K (.ret (.tu [])) [.cells (iE m (.d (.sl 5 (fs.map bQ))) (st ++ [v]) ts (gj tk) u wr cd)]) :
  Sat Tryz.prog 214 [.p 0 0,jT v] [.cells (iE m (.d (.sl 5 (fs.map bQ))) st ts (gj tk) u wr cd)] K:=by
 refine s214.go (keep:=false) rfl ?_
 repeat' ((conv=>whnf);first | exact zf | refine zm ?_ | refine zc (rQ ⟨fs,st,ts⟩ v hs) ?_ | intro _)
 exact hk
theorem mR {K:Out→H→Prop} (m:Mh) (st:List Va) (ts:List Tr) (tk:List Va) (u:Ou) (wr:Bool) (cd:Int) (rows:List (List D)) (n:Int)
  (hk:K (.ret (.tu [])) [.cells (iE m (.os 1) st ts (gj tk) u true n),.rows 5 rows]) :
  Sat Tryz.prog 218 [.p 0 0,.d (.int .i64 n)] [.cells (iE m (.os 1) st ts (gj tk) u wr cd),.rows 5 rows] K:=by
 refine s218.go (keep:=false) rfl ?_
 repeat' ((conv=>whnf);first | exact zf | refine zm ?_ | intro _)
 exact hk
end Go.Proofs.YtjpgfgajkjhonaaGreatDoor
namespace Go.Proofs.YtjpgfgajkjhonaaGreatDoor
open Go.Vx
def Mn (m:Mh):List V:=
  [.d (.sl 5 (m.im.cs.map cE)), .d (.sl 3 (m.im.fs.map da)), .d (.sl 5 (m.gA.fr.map bQ)), .d (.sl 5 (m.gA.st.map cE)), .d (.sl 3 (m.gA.tr.map eC)),
   .nl 5,.nl 5,.nl 3,.d (.int .i64 m.o.c),.d (.int .i64 m.o.a),.nl 5,.d (.int .i64 m.fr),.d (.int .i64 m.tr),
   .d (.int .i64 0),.d (.int .i64 0),.d (.int .i64 0),.d (.str []),.d (.str []),.d (.str []),.d (.int .i64 0),.d (.int .i64 0),.d (.bool false),.d (.int .i64 0)]
structure L0 (m:Mh) (f:Fr):Prop where
  hl:m.gA.fr.getLast? = some f
  lf:m.gA.fr.length<1000000000
  ls:m.gA.st.length<1000000000
  pc:0≤f.pc∧f.pc<9223372036854775807
  po:et m.gA (fH m.im m.o)=true
  ca:m.o.c=17→∃g,0≤m.o.a∧m.im.fs[m.o.a.toNat]? = some g∧eN .i64 g.args
def bU (l:List Fr) (f:Fr):List Fr:=l.set (l.length - 1) { f with pc:=f.pc+1 }
def mc (m:Mh):List Va:=kK m.gA (fH m.im m.o)
def jA (m:Mh):List Va:=(qP m.gA (fH m.im m.o)).st
theorem nG {K:Out→H→Prop} (m:Mh) (f:Fr) (hr:L0 m f) (hk:K (.ret (.tu [])) [.cells (iE m (.os 1) (jA m) m.gA.tr (gj (mc m)) cD false 0),.rows 5 ((bU m.gA.fr f).map bQ)]) :
  Sat Tryz.prog 108 [.p 0 0] [.cells (Mn m)] K:=by
 have hne:0<m.gA.fr.length:=by
  cases h:m.gA.fr with
  |nil=>have:=hr.hl;rw [h] at this;cases this
  |cons=>simp
 have hf1:m.gA.fr[m.gA.fr.length - 1]? = some f:=by have:=hr.hl;rw [dQ] at this;exact this
 have htk:=A5 m.im m.o hr.ca;have hpop:=xB m.gA (fH m.im m.o) hr.ls;rw [kT hr.po] at hpop;have hlf:=hr.lf;have hpc:=hr.pc;refine s108.go (keep:=false) rfl ?_
 repeat' ((conv=>whnf);first | exact zf | refine zm ?_ | refine zc htk ?_ | refine zc hpop ?_ | refine qq (m.gA.fr.map bQ) (by simp;omega) ?_ | refine (.inr ?_:(∃_,_)∨_) | refine tp m (jA m) m.gA.tr (mc m) cD false 0 _ (by simp;omega) (by simp;omega) ?_ | intro _)
 have hrow:(m.gA.fr.map bQ)[(((m.gA.fr.map bQ).length:Int) - 1).toNat]? = some (bQ f):=by
  rw [aC,aL];have e:((m.gA.fr.length:Int) - 1).toNat=m.gA.fr.length - 1:=by omega
  rw [e,hf1];rfl
 have hset:(m.gA.fr.map bQ).set (((m.gA.fr.map bQ).length:Int) - 1).toNat (bQ { f with pc:=f.pc+1 })=(bU m.gA.fr f).map bQ:=by
  rw [bU,fQ,aL];congr 1;omega
 refine ⟨bQ f,hrow,?_⟩
 repeat' ((conv=>whnf);first | exact zf | refine zm ?_ | intro _)
 refine ⟨bQ f,hrow,⟨rfl,rfl,rfl⟩,?_⟩
 repeat' ((conv=>whnf);first | exact zf | refine zm ?_ | intro _)
 rw [←hset] at hk;exact hk
end Go.Proofs.YtjpgfgajkjhonaaGreatDoor
namespace Go.Proofs.YtjpgfgajkjhonaaGreatDoor
open Go.Vx
def DZ (f:Nat) (vs:List V) (m:Mh) (st st':List Va) (ts:List Tr) (tk:List Va) (bW:List Fr):Prop:=
 ∀K:Out→H→Prop,K (.ret (.tu [])) [.cells [.p 1 0],.cells (iE m (.d (.sl 5 (bW.map bQ))) st' ts (gj tk) cD false 0),.no] →
  Sat Tryz.prog f (vs ++ [.p 0 0]) [.cells [.p 1 0],.cells (iE m (.os 2) st ts (gj tk) cD false 0),.rows 5 (bW.map bQ)] K
def u6 (f:Nat) (vs:List V) (m:Mh) (st:List Va) (ts:List Tr) (tk:List Va) (bW frs':List Fr) (wr:Bool) (cd:Int):Prop:=
 ∀K:Out→H→Prop,K (.ret (.tu [])) [.cells [.p 1 0],.cells (iE m (.os 2) st ts (gj tk) cD wr cd),.rows 5 (frs'.map bQ)] →
  Sat Tryz.prog f (vs ++ [.p 0 0]) [.cells [.p 1 0],.cells (iE m (.os 2) st ts (gj tk) cD false 0),.rows 5 (bW.map bQ)] K
theorem yW {K:Out→H→Prop} (f:Nat) (hf:Nat.blt f 1000000=true) (m:Mh) (st st':List Va) (ts:List Tr) (a b:Va) (kd:Int) (bW:List Fr) (ha:a.k=kd) (hb:b.k=kd) (hS:DZ f [jT a,jT b] m st st' ts [a,b] bW)
  (hk:K (.ret (.tu [])) [.cells (iE m (.d (.sl 5 (bW.map bQ))) st' ts (gj [a,b]) cD false 0),.no,.cells [.p 0 0]]) :
  Sat Tryz.prog 215 [.p 0 0,.d (.int .i64 kd),.fc f [.p 2 0]] [.cells (iE m (.os 1) st ts (gj [a,b]) cD false 0),.rows 5 (bW.map bQ),.cells [.p 0 0]] K:=by
 refine s215.go (keep:=false) rfl ?_
 repeat' ((conv=>whnf);first | exact zf | refine zm ?_ | refine ⟨_,⟨by decide,rfl,rfl⟩,?_⟩ | refine ⟨_,rfl,?_⟩ | intro _)
 refine aW (λh=>absurd h (by simp [ha])) (λh=>?_)
 repeat' ((conv=>whnf);first | exact zf | refine zm ?_ | refine ⟨_,⟨by decide,rfl,rfl⟩,?_⟩ | refine ⟨_,rfl,?_⟩ | intro _)
 refine aW (λh=>absurd h (by simp [hb])) (λh=>?_)
 repeat' ((conv=>whnf);first | exact zf | refine zm ?_ | refine ⟨_,⟨by decide,rfl,rfl⟩,?_⟩ | refine ⟨_,rfl,?_⟩ | intro _)
 conv=>whnf
 rw [hf]
 repeat' ((conv=>whnf);first | exact zf | refine zm ?_ | refine (.inr ?_:(∃_,_)∨_) | refine hS _ ?_ | intro _)
 exact hk
theorem Lf {K:Out→H→Prop} (f:Nat) (hf:Nat.blt f 1000000=true) (m:Mh) (st:List Va) (ts:List Tr) (a b:Va) (kd:Int) (bW frs':List Fr) (wr:Bool) (cd:Int) (ha:a.k=kd) (hb:b.k=kd) (hS:u6 f [jT a,jT b] m st ts [a,b] bW frs' wr cd)
  (hk:K (.ret (.tu [])) [.cells (iE m (.os 1) st ts (gj [a,b]) cD wr cd),.rows 5 (frs'.map bQ),.cells [.p 0 0]]) :
  Sat Tryz.prog 215 [.p 0 0,.d (.int .i64 kd),.fc f [.p 2 0]] [.cells (iE m (.os 1) st ts (gj [a,b]) cD false 0),.rows 5 (bW.map bQ),.cells [.p 0 0]] K:=by
 refine s215.go (keep:=false) rfl ?_
 repeat' ((conv=>whnf);first | exact zf | refine zm ?_ | refine ⟨_,⟨by decide,rfl,rfl⟩,?_⟩ | refine ⟨_,rfl,?_⟩ | intro _)
 refine aW (λh=>absurd h (by simp [ha])) (λh=>?_)
 repeat' ((conv=>whnf);first | exact zf | refine zm ?_ | refine ⟨_,⟨by decide,rfl,rfl⟩,?_⟩ | refine ⟨_,rfl,?_⟩ | intro _)
 refine aW (λh=>absurd h (by simp [hb])) (λh=>?_)
 repeat' ((conv=>whnf);first | exact zf | refine zm ?_ | refine ⟨_,⟨by decide,rfl,rfl⟩,?_⟩ | refine ⟨_,rfl,?_⟩ | intro _)
 conv=>whnf
 rw [hf]
 repeat' ((conv=>whnf);first | exact zf | refine zm ?_ | refine (.inr ?_:(∃_,_)∨_) | refine hS _ ?_ | intro _)
 exact hk
theorem yV {K:Out→H→Prop} (f:Nat) (m:Mh) (st:List Va) (ts:List Tr) (a b:Va) (kd:Int) (bW:List Fr) (hab:¬(a.k=kd∧b.k=kd))
  (hk:K (.ret (.tu [])) [.cells (iE m (.os 1) st ts (gj [a,b]) cD true (-1)),.rows 5 (bW.map bQ),.cells [.p 0 0]]) :
  Sat Tryz.prog 215 [.p 0 0,.d (.int .i64 kd),.fc f [.p 2 0]] [.cells (iE m (.os 1) st ts (gj [a,b]) cD false 0),.rows 5 (bW.map bQ),.cells [.p 0 0]] K:=by
 refine s215.go (keep:=false) rfl ?_
 repeat' ((conv=>whnf);first | exact zf | refine zm ?_ | refine ⟨_,⟨by decide,rfl,rfl⟩,?_⟩ | refine ⟨_,rfl,?_⟩ | intro _)
 refine aW (λh=>?_) (λh=>?_)
 ·skip
  repeat' ((conv=>whnf);first | exact zf | refine zm ?_ | refine (.inr ?_:(∃_,_)∨_) | refine mR m st ts [a,b] cD false 0 (bW.map bQ) (-1) ?_ | refine ⟨_,⟨by decide,rfl,rfl⟩,?_⟩ | refine ⟨_,rfl,?_⟩ | intro _)
  exact hk
 ·skip
  repeat' ((conv=>whnf);first | exact zf | refine zm ?_ | refine ⟨_,⟨by decide,rfl,rfl⟩,?_⟩ | refine ⟨_,rfl,?_⟩ | intro _)
  refine aW (λh2=>?_) (λh2=>absurd ⟨by simpa using h,by simpa using h2⟩ hab)
  repeat' ((conv=>whnf);first | exact zf | refine zm ?_ | refine (.inr ?_:(∃_,_)∨_) | refine mR m st ts [a,b] cD false 0 (bW.map bQ) (-1) ?_ | refine ⟨_,⟨by decide,rfl,rfl⟩,?_⟩ | refine ⟨_,rfl,?_⟩ | intro _)
  exact hk
theorem M1 {K:Out→H→Prop} (f:Nat) (hf:Nat.blt f 1000000=true) (m:Mh) (st st':List Va) (ts:List Tr) (a:Va) (kd:Int) (bW:List Fr) (ha:a.k=kd) (hS:DZ f [jT a] m st st' ts [a] bW)
  (hk:K (.ret (.tu [])) [.cells (iE m (.d (.sl 5 (bW.map bQ))) st' ts (gj [a]) cD false 0),.no,.cells [.p 0 0]]) :
  Sat Tryz.prog 220 [.p 0 0,.d (.int .i64 kd),.fc f [.p 2 0]] [.cells (iE m (.os 1) st ts (gj [a]) cD false 0),.rows 5 (bW.map bQ),.cells [.p 0 0]] K:=by
 refine s220.go (keep:=false) rfl ?_
 repeat' ((conv=>whnf);first | exact zf | refine zm ?_ | refine ⟨_,⟨by decide,rfl,rfl⟩,?_⟩ | refine ⟨_,rfl,?_⟩ | intro _)
 refine aW (λh=>absurd h (by simp [ha])) (λh=>?_)
 repeat' ((conv=>whnf);first | exact zf | refine zm ?_ | refine ⟨_,⟨by decide,rfl,rfl⟩,?_⟩ | refine ⟨_,rfl,?_⟩ | intro _)
 conv=>whnf
 rw [hf]
 repeat' ((conv=>whnf);first | exact zf | refine zm ?_ | refine (.inr ?_:(∃_,_)∨_) | refine hS _ ?_ | intro _)
 exact hk
theorem zC {K:Out→H→Prop} (f:Nat) (hf:Nat.blt f 1000000=true) (m:Mh) (st:List Va) (ts:List Tr) (a:Va) (kd:Int) (bW frs':List Fr) (wr:Bool) (cd:Int) (ha:a.k=kd) (hS:u6 f [jT a] m st ts [a] bW frs' wr cd)
  (hk:K (.ret (.tu [])) [.cells (iE m (.os 1) st ts (gj [a]) cD wr cd),.rows 5 (frs'.map bQ),.cells [.p 0 0]]) :
  Sat Tryz.prog 220 [.p 0 0,.d (.int .i64 kd),.fc f [.p 2 0]] [.cells (iE m (.os 1) st ts (gj [a]) cD false 0),.rows 5 (bW.map bQ),.cells [.p 0 0]] K:=by
 refine s220.go (keep:=false) rfl ?_
 repeat' ((conv=>whnf);first | exact zf | refine zm ?_ | refine ⟨_,⟨by decide,rfl,rfl⟩,?_⟩ | refine ⟨_,rfl,?_⟩ | intro _)
 refine aW (λh=>absurd h (by simp [ha])) (λh=>?_)
 repeat' ((conv=>whnf);first | exact zf | refine zm ?_ | refine ⟨_,⟨by decide,rfl,rfl⟩,?_⟩ | refine ⟨_,rfl,?_⟩ | intro _)
 conv=>whnf
 rw [hf]
 repeat' ((conv=>whnf);first | exact zf | refine zm ?_ | refine (.inr ?_:(∃_,_)∨_) | refine hS _ ?_ | intro _)
 exact hk
theorem zB {K:Out→H→Prop} (f:Nat) (m:Mh) (st:List Va) (ts:List Tr) (a:Va) (kd:Int) (bW:List Fr) (ha:¬a.k=kd)
  (hk:K (.ret (.tu [])) [.cells (iE m (.os 1) st ts (gj [a]) cD true (-1)),.rows 5 (bW.map bQ),.cells [.p 0 0]]) :
  Sat Tryz.prog 220 [.p 0 0,.d (.int .i64 kd),.fc f [.p 2 0]] [.cells (iE m (.os 1) st ts (gj [a]) cD false 0),.rows 5 (bW.map bQ),.cells [.p 0 0]] K:=by
 refine s220.go (keep:=false) rfl ?_
 repeat' ((conv=>whnf);first | exact zf | refine zm ?_ | refine ⟨_,⟨by decide,rfl,rfl⟩,?_⟩ | refine ⟨_,rfl,?_⟩ | intro _)
 refine aW (λh=>?_) (λh=>absurd (by simpa using h) ha)
 repeat' ((conv=>whnf);first | exact zf | refine zm ?_ | refine (.inr ?_:(∃_,_)∨_) | refine mR m st ts [a] cD false 0 (bW.map bQ) (-1) ?_ | refine ⟨_,⟨by decide,rfl,rfl⟩,?_⟩ | refine ⟨_,rfl,?_⟩ | intro _)
 exact hk
end Go.Proofs.YtjpgfgajkjhonaaGreatDoor
namespace Go.Proofs.YtjpgfgajkjhonaaGreatDoor
open Go.Vx
def HT (n:Int):Int:=IntKind.i64.wrap n
def RZ (b:Bool):Int:=bif b then 1 else 0
theorem wW (b:Bool):bJ Tryz.prog 318 [.d (.bool b)] (.d (.int .i64 (RZ b))):=by
 refine s318.go (keep:=false) rfl ?_;cases b<;>skip
 ·skip
  repeat' ((conv=>whnf);first | exact zf | refine zm ?_ | intro _)
 ·skip
  repeat' ((conv=>whnf);first | exact zf | refine zm ?_ | intro _)
def lH (n:Int):V:=.tu [.d (.int .i64 n),.d (.bool true)]
theorem Nc (a b:Int):bJ Tryz.prog 312 [.d (.int .i64 a),.d (.int .i64 b)] (lH (HT (a+b))):=by
 refine s312.go (keep:=false) rfl ?_
 repeat' ((conv=>whnf);first | exact zf | refine zm ?_ | refine .inr ?_ | intro _)
theorem Lk (a b:Int):bJ Tryz.prog 313 [.d (.int .i64 a),.d (.int .i64 b)] (lH (HT (a - b))):=by
 refine s313.go (keep:=false) rfl ?_
 repeat' ((conv=>whnf);first | exact zf | refine zm ?_ | refine .inr ?_ | intro _)
theorem Ml (a b:Int):bJ Tryz.prog 314 [.d (.int .i64 a),.d (.int .i64 b)] (lH (HT (a*b))):=by
 refine s314.go (keep:=false) rfl ?_
 repeat' ((conv=>whnf);first | exact zf | refine zm ?_ | refine .inr ?_ | intro _)
def pQ:V:=.tu [.d (.int .i64 0),.d (.bool false)]
theorem NN (a b:Int):bJ Tryz.prog 315 [.d (.int .i64 a),.d (.int .i64 b)] (bif b==0 then pQ else lH (HT (a.tdiv b))):=by
 refine s315.go (keep:=false) rfl ?_;cases h:(b==0) with
 |true=>
  repeat' ((conv=>whnf);first | exact zf | refine zm ?_ | intro _)
  refine aW (λ_=>?_) (λh2=>by rw [h] at h2;cases h2)
  repeat' ((conv=>whnf);first | exact zf | refine zm ?_ | intro _)
 |false=>
  repeat' ((conv=>whnf);first | exact zf | refine zm ?_ | intro _)
  refine aW (λh2=>by rw [h] at h2;cases h2) (λ_=>?_)
  conv=>whnf
  refine ⟨by simpa using h,.inr ?_⟩
  repeat' ((conv=>whnf);first | exact zf | refine zm ?_ | intro _)
theorem MH (a b:Int):bJ Tryz.prog 316 [.d (.int .i64 a),.d (.int .i64 b)] (bif b==0 then pQ else lH (a.tmod b)):=by
 refine s316.go (keep:=false) rfl ?_;cases h:(b==0) with
 |true=>
  repeat' ((conv=>whnf);first | exact zf | refine zm ?_ | intro _)
  refine aW (λ_=>?_) (λh2=>by rw [h] at h2;cases h2)
  repeat' ((conv=>whnf);first | exact zf | refine zm ?_ | intro _)
 |false=>
  repeat' ((conv=>whnf);first | exact zf | refine zm ?_ | intro _)
  refine aW (λh2=>by rw [h] at h2;cases h2) (λ_=>?_)
  conv=>whnf
  refine ⟨by simpa using h,?_⟩
  repeat' ((conv=>whnf);first | exact zf | refine zm ?_ | intro _)
theorem RE (a b:Int):bJ Tryz.prog 317 [.d (.int .i64 a),.d (.int .i64 b)] (lH (RZ (a==b))):=by
 refine s317.go (keep:=false) rfl ?_
 repeat' ((conv=>whnf);first | exact zf | refine zm ?_ | refine zc (wW _) ?_ | intro _)
theorem Qq (a b:Int):bJ Tryz.prog 319 [.d (.int .i64 a),.d (.int .i64 b)] (lH (RZ (decide (a<b)))):=by
 refine s319.go (keep:=false) rfl ?_
 repeat' ((conv=>whnf);first | exact zf | refine zm ?_ | refine zc (wW _) ?_ | intro _)
def S4:List (V×V):=[(.d (.int .i64 7),.d (.fn 312)),(.d (.int .i64 8),.d (.fn 313)),(.d (.int .i64 9),.d (.fn 314)),(.d (.int .i64 10),.d (.fn 315)),(.d (.int .i64 11),.d (.fn 316)),(.d (.int .i64 12),.d (.fn 317)),(.d (.int .i64 13),.d (.fn 319))]
theorem lG {K:Out→H→Prop} (hk:K (.ret (.mp 0)) [.mp S4]):Sat Tryz.prog 276 [] [] K:=by
 refine s276.go (keep:=true) rfl ?_
 repeat' ((conv=>whnf);first | exact zf | refine zm ?_ | refine ⟨_,rfl,?_⟩ | intro _)
 exact hk
def oV (c a b:Int):V:=
 bif c==7 then lH (HT (a+b)) else bif c==8 then lH (HT (a - b)) else bif c==9 then lH (HT (a*b)) else bif c==10 then (bif b==0 then pQ else lH (HT (a.tdiv b)))
 else bif c==11 then (bif b==0 then pQ else lH (a.tmod b)) else bif c==12 then lH (RZ (a==b)) else lH (RZ (decide (a<b)))
theorem RN (c a b:Int) (hc:7≤c∧c≤13):bJ Tryz.prog 217 [.d (.int .i64 c),.d (.int .i64 a),.d (.int .i64 b)] (oV c a b):=by
 have h7:c=7∨c=8∨c=9∨c=10∨c=11∨c=12∨c=13:=by omega
 rcases h7 with rfl | rfl | rfl | rfl | rfl | rfl | rfl
 ·refine s217.go (keep:=false) rfl ?_
  repeat' ((conv=>whnf);first | exact zf | refine zm ?_ | refine zc (Nc a b) ?_ | refine lG ?_ | refine ⟨_,rfl,?_⟩ | intro _)
 ·refine s217.go (keep:=false) rfl ?_
  repeat' ((conv=>whnf);first | exact zf | refine zm ?_ | refine zc (Lk a b) ?_ | refine lG ?_ | refine ⟨_,rfl,?_⟩ | intro _)
 ·refine s217.go (keep:=false) rfl ?_
  repeat' ((conv=>whnf);first | exact zf | refine zm ?_ | refine zc (Ml a b) ?_ | refine lG ?_ | refine ⟨_,rfl,?_⟩ | intro _)
 ·refine s217.go (keep:=false) rfl ?_;have h:=NN a b;cases hb:(b==0) with
  |true=>
   have e:oV 10 a b=pQ:=by show (bif b==0 then pQ else _)=_;rw [hb];rfl
   rw [e];rw [hb] at h
   repeat' ((conv=>whnf);first | exact zf | refine zm ?_ | refine zc h ?_ | refine lG ?_ | refine ⟨_,rfl,?_⟩ | intro _)
  |false=>
   have e:oV 10 a b=lH (HT (a.tdiv b)):=by show (bif b==0 then pQ else _)=_;rw [hb];rfl
   rw [e];rw [hb] at h
   repeat' ((conv=>whnf);first | exact zf | refine zm ?_ | refine zc h ?_ | refine lG ?_ | refine ⟨_,rfl,?_⟩ | intro _)
 ·refine s217.go (keep:=false) rfl ?_;have h:=MH a b;cases hb:(b==0) with
  |true=>
   have e:oV 11 a b=pQ:=by show (bif b==0 then pQ else _)=_;rw [hb];rfl
   rw [e];rw [hb] at h
   repeat' ((conv=>whnf);first | exact zf | refine zm ?_ | refine zc h ?_ | refine lG ?_ | refine ⟨_,rfl,?_⟩ | intro _)
  |false=>
   have e:oV 11 a b=lH (a.tmod b):=by show (bif b==0 then pQ else _)=_;rw [hb];rfl
   rw [e];rw [hb] at h
   repeat' ((conv=>whnf);first | exact zf | refine zm ?_ | refine zc h ?_ | refine lG ?_ | refine ⟨_,rfl,?_⟩ | intro _)
 ·refine s217.go (keep:=false) rfl ?_
  repeat' ((conv=>whnf);first | exact zf | refine zm ?_ | refine zc (RE a b) ?_ | refine lG ?_ | refine ⟨_,rfl,?_⟩ | intro _)
 ·refine s217.go (keep:=false) rfl ?_
  repeat' ((conv=>whnf);first | exact zf | refine zm ?_ | refine zc (Qq a b) ?_ | refine lG ?_ | refine ⟨_,rfl,?_⟩ | intro _)
end Go.Proofs.YtjpgfgajkjhonaaGreatDoor
namespace Go.Proofs.YtjpgfgajkjhonaaGreatDoor
open Go.Vx
set_option maxRecDepth 100000
def ur (l:Lb):Lb:=⟨l.s.take 4,l.i.take 4⟩
theorem Hf (l:Lb):bJ Tryz.prog 76 [jr l] (jr (ur l)):=by
 refine s76.go (keep:=false) rfl ?_
 repeat' ((conv=>whnf);first | exact zf | refine zm ?_ | intro _)
 have e:∀l:List UInt8,(l.take (min (l.length:Int) 4).toNat).drop (0:Int).toNat=l.take 4:=by
  intro l;show l.take (min (l.length:Int) 4).toNat=_;rcases cp l.length 4 with h | h
  ·rw [cq (by omega),cq (by omega)]
  ·congr 1;omega
 show Out.ret (V.ag [.d (.str ((l.s.take (min (l.s.length:Int) 4).toNat).drop (0:Int).toNat)),.d (.str ((l.i.take (min (l.i.length:Int) 4).toNat).drop (0:Int).toNat))])=_;rw [e,e];rfl
def gS:List (List UInt8):=[[48],[49],[48,46,48],[48,46,49],[50],[49,48],[49,46,48],[48,46,48,46,48]]
theorem Ay:bJ Tryz.prog 77 [] (.d (.sl 1 (gS.map λs=>[.str s]))):=by
 refine s77.go (keep:=false) rfl ?_
 repeat' ((conv=>whnf);first | exact zf | refine zm ?_ | intro _)
theorem Aj (l:Lb):bJ Tryz.prog 122 [jr l] (jr l):=by
 refine s122.go (keep:=false) rfl ?_
 repeat' ((conv=>whnf);first | exact zf | refine zm ?_ | intro _)
theorem vI (v:Va):bJ Tryz.prog 123 [jT v] (jT v):=by
 have h1:=Aj ⟨v.ls,v.li⟩;refine s123.go (keep:=false) rfl ?_
 repeat' ((conv=>whnf);first | exact zf | refine zm ?_ | refine zc h1 ?_ | intro _)
def gE:List Lb:=[⟨[],[]⟩,⟨[1],[]⟩,⟨[2],[]⟩,⟨[1,2],[]⟩,⟨[3],[]⟩,⟨[],[1]⟩,⟨[1],[1]⟩,⟨[0],[]⟩]
theorem FT:bJ Tryz.prog 17 [] (.d (.sl 2 (gE.map lE))):=by
 refine s17.go (keep:=false) rfl ?_
 repeat' ((conv=>whnf);first | exact zf | refine zm ?_ | intro _)
theorem vX:∀m∈gE,cL m:=by
 intro m hm;simp only [gE,ae,cT,or_false] at hm;unfold cL yg;rcases hm with rfl | rfl | rfl | rfl | rfl | rfl | rfl | rfl<;>exact ⟨by decide,by decide⟩
def lS (ar:Int):Va:=bif decide (60<ar) then ⟨3+ar.tmod 5,0,(gS[((ar.tdiv 8).tmod 8).toNat]?).getD [],((gE[(ar.tdiv 64).toNat]?).getD nL).s,((gE[(ar.tdiv 64).toNat]?).getD nL).i⟩ else num (ar.tmod 5)
def N3:List Int:=[7,7,3,1]
def Gb (l c:Int):Lb:=dU ((gE[(l.tmod 8).toNat]?).getD nL) ((gE[((N3[(c.tmod 4).toNat]?).getD 0).toNat]?).getD nL)
def Ga (l c mk fn ar ro:Int):Th:=xK [51] ⟨(gE[(l.tmod 8).toNat]?).getD nL,Gb l c⟩ (ft ⟨[],[],[]⟩ (fn.tmod 3) 7 [lS ar] (mk.tmod 4)) (ro.tmod 16)
theorem sG {i:Int} (h:0≤i∧i<8):gE[i.toNat]? = some ((gE[i.toNat]?).getD nL):=by
 have:i.toNat<gE.length:=by show i.toNat<8;omega
 rw [aB this];rfl
theorem Bh (l c mk fn ar ro:Int) (im:Im) (h1:0≤l∧l≤255) (h2:0≤c∧c≤255) (h3:0≤mk∧mk≤255) (h4:0≤fn∧fn≤255) (h5:0≤ar∧ar≤255) (h6:0≤ro∧ro≤255) :
  bJ Tryz.prog 39 [.ag [.d (.int .u8 l),.d (.int .u8 c),.d (.int .u8 mk),.d (.int .u8 fn),.d (.int .u8 ar),.d (.int .u8 ro)],wF im] (eX (Ga l c mk fn ar ro)):=by
 have m1:l.tmod 8=l % 8:=bE h1.1;have m2:c.tmod 4=c % 4:=bE h2.1;have m3:fn.tmod 3=fn % 3:=bE h4.1;have m4:mk.tmod 4=mk % 4:=bE h3.1;have m5:ar.tmod 5=ar % 5:=bE h5.1;have m6:ro.tmod 16=ro % 16:=bE h6.1;have d1:ar.tdiv 8=ar / 8:=Int.tdiv_eq_ediv_of_nonneg h5.1;have d2:ar.tdiv 64=ar / 64:=Int.tdiv_eq_ediv_of_nonneg h5.1;have m7:(ar.tdiv 8).tmod 8=ar / 8 % 8:=by rw [d1];exact bE (by omega)
 have g1:=sG (i:=l.tmod 8) (by omega);have g2:=sG (i:=ar.tdiv 64) (by omega);obtain ⟨q,hq,hq2⟩:∃q,N3[(c.tmod 4).toNat]? = some q∧0≤q∧q<8:=by
  rw [m2];have:c % 4=0∨c % 4=1∨c % 4=2∨c % 4=3:=by omega
  rcases this with e | e | e | e<;>rw [e]<;>exact ⟨_,rfl,by decide,by decide⟩
 have g3:=sG (i:=q) hq2;obtain ⟨nm,hnm⟩:∃nm,gS[((ar.tdiv 8).tmod 8).toNat]? = some nm:=⟨_,aB (show ((ar.tdiv 8).tmod 8).toNat<8 by omega)⟩
 have r1:(gE.map lE)[(l.tmod 8).toNat]? = some (lE ((gE[(l.tmod 8).toNat]?).getD nL)):=by rw [aC,g1];rfl
 have r3:(gE.map lE)[q.toNat]? = some (lE ((gE[q.toNat]?).getD nL)):=by rw [aC,g3];rfl
 have rq:(N3.map λx=>[D.int .i64 x])[(c.tmod 4).toNat]? = some [.int .i64 q]:=by rw [aC,hq];rfl
 have e1:Gb l c=dU ((gE[(l.tmod 8).toNat]?).getD nL) ((gE[q.toNat]?).getD nL):=by unfold Gb;rw [hq];rfl
 have h24:=rz ((gE[(l.tmod 8).toNat]?).getD nL) ((gE[q.toNat]?).getD nL) (vX _ (aH g1)) (vX _ (aH g3));have h20:∀a:Va,bJ Tryz.prog 20 [gN ⟨[],[],[]⟩,.d (.int .i64 (fn.tmod 3)),.d (.int .i64 7),.d (.sl 5 ([a].map cE)),.d (.int .u8 (mk.tmod 4))] (.tu [gN (ft ⟨[],[],[]⟩ (fn.tmod 3) 7 [a] (mk.tmod 4)),.d (.bool true)]):=λa=>kB ⟨[],[],[]⟩ (fn.tmod 3) 7 [a] (mk.tmod 4) (by decide) (show 1<_ by decide);have h22:=FC [51] ⟨(gE[(l.tmod 8).toNat]?).getD nL,Gb l c⟩ (ft ⟨[],[],[]⟩ (fn.tmod 3) 7 [lS ar] (mk.tmod 4)) (ro.tmod 16);rw [e1] at h22;unfold Ga;rw [e1]
 by_cases h60:60<ar
 ·have ea:lS ar=⟨3+ar.tmod 5,0,nm,((gE[(ar.tdiv 64).toNat]?).getD nL).s,((gE[(ar.tdiv 64).toNat]?).getD nL).i⟩:=by
   unfold lS;rw [decide_eq_true h60,cond_true,hnm];rfl
  rw [ea] at h22 ⊢;have h20':=h20 ⟨3+ar.tmod 5,0,nm,((gE[(ar.tdiv 64).toNat]?).getD nL).s,((gE[(ar.tdiv 64).toNat]?).getD nL).i⟩;have r2:(gE.map lE)[(ar.tdiv 64).toNat]? = some (lE ((gE[(ar.tdiv 64).toNat]?).getD nL)):=by rw [aC,g2];rfl
  have rn:(gS.map λs=>[D.str s])[((ar.tdiv 8).tmod 8).toNat]? = some [.str nm]:=by rw [aC,hnm];rfl
  refine s39.go (keep:=false) rfl ?_
  repeat' ((conv=>whnf);first | exact zf | refine zm ?_ | refine zc FT ?_ | refine zc Ay ?_ | refine ⟨_,⟨by omega,r1,rfl⟩,?_⟩ | refine ⟨_,⟨by omega,rn,rfl⟩,?_⟩ | refine ⟨_,⟨by omega,r2,rfl⟩,?_⟩ | refine ⟨_,⟨by omega,rq,rfl⟩,?_⟩ | refine ⟨_,⟨by omega,r3,rfl⟩,?_⟩ | refine zc h20' ?_ | refine zc h24 ?_ | refine zc h22 ?_ | refine zt ?_ | refine zu ?_ | intro _)
 ·have ea:lS ar=num (ar.tmod 5):=by
   unfold lS;rw [decide_eq_false h60,cond_false]
  rw [ea] at h22 ⊢;have h20':=h20 (num (ar.tmod 5));refine s39.go (keep:=false) rfl ?_
  repeat' ((conv=>whnf);first | exact zf | refine zm ?_ | refine zc FT ?_ | refine ⟨_,⟨by omega,r1,rfl⟩,?_⟩ | refine ⟨_,⟨by omega,rq,rfl⟩,?_⟩ | refine ⟨_,⟨by omega,r3,rfl⟩,?_⟩ | refine zc h20' ?_ | refine zc h24 ?_ | refine zc h22 ?_ | refine zt ?_ | refine zu ?_ | intro _)
end Go.Proofs.YtjpgfgajkjhonaaGreatDoor
namespace Go.Proofs.YtjpgfgajkjhonaaGreatDoor
open Go.Vx
set_option maxRecDepth 100000
theorem RX (s:Gs) (l:Lb) (p:Int) (hs:iv s) (hl:cL l):bJ Tryz.prog 293 [.e (qN s) 0,.e (lE l) 0,.e [.int .u8 p] 0] (.d (.bool (fY s.cur l p))):=by
 have h:=uE s.cur l p hs.1 hl;refine s293.go (keep:=false) rfl ?_
 repeat' ((conv=>whnf);first | exact zf | refine zm ?_ | refine zc h ?_ | intro _)
theorem RW (s:Gs) (l:Lb) (p:Int) (hs:iv s) (hl:cL l):bJ Tryz.prog 295 [.e (lE l) 0,.e (qN s) 0,.e [.int .u8 p] 0] (.d (.bool (fY l s.fU p))):=by
 have h:=uE l s.fU p hl hs.2;refine s295.go (keep:=false) rfl ?_
 repeat' ((conv=>whnf);first | exact zf | refine zm ?_ | refine zc h ?_ | intro _)
def So (s:Gs) (l:Lb) (p:Int):Mu:=⟨293,[.pt (qN s) 0,.pt (lE l) 0,.pt [.int .u8 p] 0],fY s.cur l p,-3⟩
def Sn (s:Gs) (l:Lb) (p:Int):Mu:=⟨295,[.pt (lE l) 0,.pt (qN s) 0,.pt [.int .u8 p] 0],fY l s.fU p,-4⟩
def ki (s:Gs) (l:Lb) (p:Int):Int:=firstM [So s l p,uJ s l]
def kX (s:Gs) (l:Lb) (p:Int):Int:=firstM [Sn s l p,xO s l]
def uY (s:Gs) (l:Lb) (p:Int):Gs:=bif ki s l p==0 then ⟨gI l,s.fU⟩ else s
def uN (s:Gs) (l:Lb) (p:Int):Gs:=bif kX s l p==0 then ⟨s.cur,gI l⟩ else s
def sP (s:Gs) (l:Lb) (p:Int):Bool:=bif ki s l p==0 then !b7 s.cur l else false
def rh (s:Gs) (l:Lb) (p:Int):Bool:=bif kX s l p==0 then !b7 l s.fU else false
def Rr (s:Gs) (e:Int) (b:Bool):V:=.tu [D8 s,.d (.int .i64 e),.d (.bool b)]
theorem Jq (s:Gs) (l:Lb) (p:Int) (hs:iv s) (hl:cL l):bJ Tryz.prog 255 [D8 s,jr l,.d (.int .u8 p)] (Rr (uY s l p) (ki s l p) (sP s l p)):=by
 have h2:=lR s l;have h3:=mQ [So s l p,uJ s l] (by
  intro m hm;simp only [ae,cT,or_false] at hm;rcases hm with rfl | rfl
  ·exact ⟨.inr ⟨_,_,_,.inl rfl,rfl⟩,RX s l p hs hl⟩
  ·exact vR s l hs hl)
 have h4:=j3 l hl;have h5:=kh s.cur l hs.1 hl;have he:firstM [So s l p,uJ s l]=ki s l p:=rfl;rw [he] at h3;unfold uY sP;refine s255.go (keep:=false) rfl ?_
 repeat' ((conv=>whnf);first | exact zf | refine (iW [0,1,2] ?_) | refine zm ?_ | refine zc h2 ?_ | refine zc h3 ?_ | intro _)
 cases hb:ki s l p==0 with
 |true=>
  have hz:=eq_of_beq hb
  repeat' ((conv=>whnf);first | exact zf | refine zm ?_ | refine zc h4 ?_ | refine zc h5 ?_ | refine zt ?_ | refine zu ?_ | intro _)
  show Out.ret (Rr ⟨gI l,s.fU⟩ 0 (!b7 s.cur l))=_;rw [hz];rfl
 |false=>
  repeat' ((conv=>whnf);first | exact zf | refine zm ?_ | refine zt ?_ | refine zu ?_ | intro _)
theorem JW (s:Gs) (l:Lb) (p:Int) (hs:iv s) (hl:cL l):bJ Tryz.prog 257 [D8 s,jr l,.d (.int .u8 p)] (Rr (uN s l p) (kX s l p) (rh s l p)):=by
 have h2:=sk s l;have h3:=mQ [Sn s l p,xO s l] (by
  intro m hm;simp only [ae,cT,or_false] at hm;rcases hm with rfl | rfl
  ·exact ⟨.inr ⟨_,_,_,.inr rfl,rfl⟩,RW s l p hs hl⟩
  ·exact zN s l hs hl)
 have h4:=j3 l hl;have h5:=kh l s.fU hl hs.2;have he:firstM [Sn s l p,xO s l]=kX s l p:=rfl;rw [he] at h3;unfold uN rh;refine s257.go (keep:=false) rfl ?_
 repeat' ((conv=>whnf);first | exact zf | refine (iW [0,1,2] ?_) | refine zm ?_ | refine zc h2 ?_ | refine zc h3 ?_ | intro _)
 cases hb:kX s l p==0 with
 |true=>
  have hz:=eq_of_beq hb
  repeat' ((conv=>whnf);first | exact zf | refine zm ?_ | refine zc h4 ?_ | refine zc h5 ?_ | refine zt ?_ | refine zu ?_ | intro _)
  show Out.ret (Rr ⟨s.cur,gI l⟩ 0 (!b7 l s.fU))=_;rw [hz];rfl
 |false=>
  repeat' ((conv=>whnf);first | exact zf | refine zm ?_ | refine zt ?_ | refine zu ?_ | intro _)
end Go.Proofs.YtjpgfgajkjhonaaGreatDoor
namespace Go.Proofs.YtjpgfgajkjhonaaGreatDoor
open Go.Vx
set_option maxRecDepth 100000
theorem xl {K:Out→H→Prop} (l:List (List D)) (hl:l.length<100000000) (hk:K (.ret (.os 0)) [.rows 7 l]):Sat Tryz.prog 85 [.d (.sl 7 l)] [] K:=by
 refine s85.go (keep:=true) rfl ?_;cases l with
 |nil=>
  repeat' ((conv=>whnf);first | exact zf | refine zm ?_ | refine And.intro ?_ ?_ | intro _)
  all_goals exact hk
 |cons r l=>
  repeat' ((conv=>whnf);first | exact zf | refine zm ?_ | intro _)
  all_goals exact hk
theorem HN (l:List (List D)) (i:List UInt8) (b:Bool) (k n:Int) (x y z:List UInt8) (hl:l.length<100000000):bJ Tryz.prog 287 [.d (.sl 7 l),.ag [.d (.str i),.d (.bool b),.d (.int .i64 k),.d (.int .i64 n),.d (.str x),.d (.str y),.d (.str z)]] (.d (.sl 7 (l ++ [[.str i,.bool b,.int .i64 k,.int .i64 n,.str x,.str y,.str z]]))):=by
 have hc:=λ{K:Out→H→Prop}=>xl (K:=K) l hl;refine s287.go (keep:=false) rfl ?_
 repeat' ((conv=>whnf);first | exact zf | refine (dp ?_) | refine zm ?_ | refine (hc ?_) | refine (And.intro ⟨rfl,rfl,by simp only [aU,af];omega,by simp only [aU,af];omega⟩ ?_) | refine And.intro ?_ ?_ | intro _)
theorem MO (i:List UInt8) (b:Bool) (k n:Int) (x y z:List UInt8):bJ Tryz.prog 289 [.ag [.d (.str i),.d (.bool b),.d (.int .i64 k),.d (.int .i64 n),.d (.str x),.d (.str y),.d (.str z)]] (.d (.bool b)):=by
 refine s289.go (keep:=false) rfl ?_
 repeat' ((conv=>whnf);first | exact zf | refine zm ?_ | intro _)
theorem H5 (i:List UInt8) (b:Bool) (k n:Int) (x y z:List UInt8):bJ Tryz.prog 291 [.ag [.d (.str i),.d (.bool b),.d (.int .i64 k),.d (.int .i64 n),.d (.str x),.d (.str y),.d (.str z)]] (.d (.bool (!b))):=by
 refine s291.go (keep:=false) rfl ?_
 repeat' ((conv=>whnf);first | exact zf | refine zm ?_ | intro _)
structure Ws where
  i:List UInt8
  b:Bool
  k:Int
  n:Int
  x:List UInt8
  y:List UInt8
  z:List UInt8
def Ws.row (w:Ws):List D:=[.str w.i,.bool w.b,.int .i64 w.k,.int .i64 w.n,.str w.x,.str w.y,.str w.z]
def jc (p:Bool):List Ws→Nat
 |[]=>0
 |w :: r=>bif w.b==p then 0 else jc p r+1
def kA (p:Bool) (l:List Ws):Int:=if jc p l<l.length then jc p l else -1
theorem iY {p:Bool}:∀{l:List Ws} {i:Nat},(∀s∈l.take i,(s.b==p)=false)→i≤l.length→jc p l=i+jc p (l.drop i)
 |l,0,_,_=>by simp
 |[],i+1,_,h=>by simp at h
 |s :: l,i+1,h,hi=>by
  rw [jc,h s (by simp),cond_false,lY,iY (i:=i) (λx hx=>h x (by rw [dT];exact cM _ hx)) (by simpa using hi)];omega
theorem Fs (p:Bool) (l:List Ws):bJ Tryz.prog 288 [.d (.sl 7 (l.map Ws.row)),.d (.fn (bif p then 289 else 291))] (.d (.int .i64 (kA p l))):=by
 have hl:(l.map Ws.row).length=l.length:=aL _;cases p
 all_goals (
  refine s288.go (keep:=false) rfl ?_
  )
 ·skip
  repeat' ((conv=>whnf);first | exact zf | refine zm ?_ | intro _)
  conv=>whnf
  refine bV [(1,.d (.fn 291)),(7,.d (.sl 7 (l.map Ws.row))),(8,.d (.int .i64 (l.map Ws.row).length))] (λi:Nat=>i≤l.length∧∀s∈l.take i,(s.b==false)=false) (λi=>[(9,.d (.int .i64 i))]) (λ_=>[]) (λi=>l.length - i) 0 ⟨ak _,λ_ h=>nomatch h⟩ ?_ ?_ ?_ (λi hi=>?_)
  ·exact zzz
  ·exact zzz
  ·exact rfl
  repeat' ((conv=>whnf);first | exact zf | refine zm ?_ | intro _)
  refine aW (λhlt=>?_) (λhge=>?_)
  ·have hlt:i<l.length:=by rw [←hl];simpa using hlt
   obtain ⟨⟨a1,a2,a3,a4,a5,a6,a7⟩,hm⟩:∃m,l[i]? = some m:=⟨_,aB hlt⟩
   have hs:=H5 a1 a2 a3 a4 a5 a6 a7;have htk:l.take (i+1)=l.take i ++ [⟨a1,a2,a3,a4,a5,a6,a7⟩]:=by rw [cF,hm];rfl
   have hdr:l.drop i=⟨a1,a2,a3,a4,a5,a6,a7⟩ :: l.drop (i+1):=by
    rw [bO hlt];rw [aB hlt] at hm;rw [aj hm]
   have hk:=iY hi.2 hi.1;rw [hdr,jc] at hk;have hrow:(l.map Ws.row)[i]? = some [D.str a1,.bool a2,.int .i64 a3,.int .i64 a4,.str a5,.str a6,.str a7]:=by rw [aC,hm];rfl
   cases a2 with
   |false=>
    repeat' ((conv=>whnf);first | exact zf | refine zm ?_ | refine ⟨_,⟨by omega,hrow,rfl⟩,?_⟩ | refine zc hs ?_ | intro _)
    refine cQ (congrArg (λx=>V.d (D.int .i64 x)) ?_);unfold kA;rw [hk,if_pos (by simp;omega)];simp
   |true=>
    repeat' ((conv=>whnf);first | exact zf | refine zm ?_ | refine ⟨_,⟨by omega,hrow,rfl⟩,?_⟩ | refine zc hs ?_ | intro _)
    refine ⟨i+1,⟨hlt,?_⟩,bC hlt (bL i),zzz,zzz,rfl⟩;rw [htk];intro x hx;exact (aT.1 hx).elim (hi.2 x) λh=>by rw [aO.1 h];rfl
  ·have hge:i=l.length:=by
    have:¬i<l.length:=by rw [←hl];simpa using hge
    omega
   have hk:=iY hi.2 hi.1;rw [hge,kN] at hk;have:kA false l = -1:=by unfold kA;rw [hk,if_neg (by simp [jc])]
   rw [this]
   repeat' ((conv=>whnf);first | exact zf | refine zm ?_ | intro _)
 ·skip
  repeat' ((conv=>whnf);first | exact zf | refine zm ?_ | intro _)
  conv=>whnf
  refine bV [(1,.d (.fn 289)),(7,.d (.sl 7 (l.map Ws.row))),(8,.d (.int .i64 (l.map Ws.row).length))] (λi:Nat=>i≤l.length∧∀s∈l.take i,(s.b==true)=false) (λi=>[(9,.d (.int .i64 i))]) (λ_=>[]) (λi=>l.length - i) 0 ⟨ak _,λ_ h=>nomatch h⟩ ?_ ?_ ?_ (λi hi=>?_)
  ·exact zzz
  ·exact zzz
  ·exact rfl
  repeat' ((conv=>whnf);first | exact zf | refine zm ?_ | intro _)
  refine aW (λhlt=>?_) (λhge=>?_)
  ·have hlt:i<l.length:=by rw [←hl];simpa using hlt
   obtain ⟨⟨a1,a2,a3,a4,a5,a6,a7⟩,hm⟩:∃m,l[i]? = some m:=⟨_,aB hlt⟩
   have hs:=MO a1 a2 a3 a4 a5 a6 a7;have htk:l.take (i+1)=l.take i ++ [⟨a1,a2,a3,a4,a5,a6,a7⟩]:=by rw [cF,hm];rfl
   have hdr:l.drop i=⟨a1,a2,a3,a4,a5,a6,a7⟩ :: l.drop (i+1):=by
    rw [bO hlt];rw [aB hlt] at hm;rw [aj hm]
   have hk:=iY hi.2 hi.1;rw [hdr,jc] at hk;have hrow:(l.map Ws.row)[i]? = some [D.str a1,.bool a2,.int .i64 a3,.int .i64 a4,.str a5,.str a6,.str a7]:=by rw [aC,hm];rfl
   cases a2 with
   |true=>
    repeat' ((conv=>whnf);first | exact zf | refine zm ?_ | refine ⟨_,⟨by omega,hrow,rfl⟩,?_⟩ | refine zc hs ?_ | intro _)
    refine cQ (congrArg (λx=>V.d (D.int .i64 x)) ?_);unfold kA;rw [hk,if_pos (by simp;omega)];simp
   |false=>
    repeat' ((conv=>whnf);first | exact zf | refine zm ?_ | refine ⟨_,⟨by omega,hrow,rfl⟩,?_⟩ | refine zc hs ?_ | intro _)
    refine ⟨i+1,⟨hlt,?_⟩,bC hlt (bL i),zzz,zzz,rfl⟩;rw [htk];intro x hx;exact (aT.1 hx).elim (hi.2 x) λh=>by rw [aO.1 h];rfl
  ·have hge:i=l.length:=by
    have:¬i<l.length:=by rw [←hl];simpa using hge
    omega
   have hk:=iY hi.2 hi.1;rw [hge,kN] at hk;have:kA true l = -1:=by unfold kA;rw [hk,if_neg (by simp [jc])]
   rw [this]
   repeat' ((conv=>whnf);first | exact zf | refine zm ?_ | intro _)
end Go.Proofs.YtjpgfgajkjhonaaGreatDoor
