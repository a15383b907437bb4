/- What is known of the ops: the table's rows. Conditions: none. -/
import Derived.Test.YtjpgfgajkjhonaaGreatDoorQFAX
import Derived.Test.YtjpgfgajkjhonaaGreatDoorQFAT
import Derived.Test.YtjpgfgajkjhonaaGreatDoorQFAV
namespace Go.Proofs.YtjpgfgajkjhonaaGreatDoor
open Go.Vx
set_option maxRecDepth 100000
structure Info where
  nm:List UInt8
  ar:Int
  po:Int
  pu:Int
def sU:List D→Option Info
 |[.str s,.int .u8 a,.int .u8 p,.int .u8 q]=>some ⟨s,a,p,q⟩
 |_=>none
def Lu (r:List D):Bool:=match sU r with
 |some i=>decide (0≤i.ar)&&(decide (i.ar≤5)&&(decide (0≤i.po)&&(decide (i.po≤4)&&(decide (0≤i.pu)&&decide (i.pu≤2)))))
 |none=>false
theorem Eu:g_.all Lu=true:=rfl
theorem D6 {r:List D} {i:Info} (h:sU r=some i):r = [.str i.nm,.int .u8 i.ar,.int .u8 i.po,.int .u8 i.pu]:=by
 unfold sU at h;split at h
 ·cases h;rfl
 ·cases h
def inf (c:Int):Option Info:=bif decide (1≤c)&&decide (c≤47) then (g_[(c - 1).toNat]?).bind sU else none
def last (c:Int):Bool:=(c==15)||((c==18)||(c==19))
def oU (c:Int):V:=match inf c with
 |some i=>.tu [.ag [.d (.str i.nm),.d (.int .i64 i.ar),.d (.int .i64 i.po),.d (.int .i64 i.pu),.d (.bool (last c))],.d (.bool true)]
 |none=>.tu [.ag [.d (.str []),.d (.int .i64 0),.d (.int .i64 0),.d (.int .i64 0),.d (.bool false)],.d (.bool false)]
theorem wF {c:Int} (h1:1≤c) (h2:c≤47):∃i,inf c=some i∧(chunk 4 47 (g_.flatten.drop 0))[(c - 1).toNat]? = some [.str i.nm,.int .u8 i.ar,.int .u8 i.po,.int .u8 i.pu] ∧
  0≤i.ar∧i.ar≤5∧0≤i.po∧i.po≤4∧0≤i.pu∧i.pu≤2:=by
 have hlen:g_.length=47:=rfl;have hc:chunk 4 47 (g_.flatten.drop 0)=g_:=rfl;obtain ⟨r,hr⟩:∃r,g_[(c - 1).toNat]? = some r:=⟨_,aB (by omega)⟩
 have hf:=aT.1 Eu r (aH hr);unfold Lu at hf;cases hi:sU r with
 |none=>rw [hi] at hf;cases hf
 |some i=>
  rw [hi] at hf;simp only [aS,decide_eq_true_eq] at hf;refine ⟨i,by unfold inf;rw [show (decide (1≤c)&&decide (c≤47))=true by simp [h1,h2]];simp only [cond_true,hr,Option.bind_some,hi],?_,hf.1,hf.2.1,hf.2.2.1,hf.2.2.2.1,hf.2.2.2.2.1,hf.2.2.2.2.2⟩;rw [hc,hr,D6 hi]
theorem GO {c:Int} (h:c<1∨47<c):inf c=none:=by
 have:(decide (1≤c)&&decide (c≤47))=false:=by
  cases hh:(decide (1≤c)&&decide (c≤47)) with
  |false=>rfl
  |true=>simp at hh;omega
 simp [inf,this]
theorem sV {c:Int} {i:Info} (h:inf c=some i):1≤c∧c≤47∧0≤i.ar∧i.ar≤5∧0≤i.po∧i.po≤4∧0≤i.pu∧i.pu≤2:=by
 by_cases h0:1≤c∧c≤47
 ·obtain ⟨i',h1,_,h2⟩:=wF h0.1 h0.2;rw [h] at h1;cases h1;exact ⟨h0.1,h0.2,h2⟩
 ·rw [GO (by omega)] at h;cases h
theorem C6 (c:Int):bJ Tryz.prog 112 [.d (.int .i64 c)] (oU c):=by
  by_cases h0:1≤c∧c≤47
  · obtain ⟨i,h1,h2,h3⟩:=wF h0.1 h0.2
    have hr:oU c = .tu [.ag [.d (.str i.nm),.d (.int .i64 i.ar),.d (.int .i64 i.po),.d (.int .i64 i.pu),.d (.bool (last c))],.d (.bool true)]:=by simp only [oU,h1]
    rw [hr]
    refine s112.go (keep:=false) rfl ?_
    repeat' ((conv=>whnf);first | exact zf | refine zm ?_ | intro _)
    refine aX (λhb=>absurd hb (by simp;omega)) (λhb=>?_)
    repeat' ((conv=>whnf);first | exact zf | refine zm ?_ | intro _)
    refine aX (λhb=>absurd hb (by simp;omega)) (λhb=>?_)
    repeat' ((conv=>whnf);first | exact zf | refine zm ?_ | intro _)
    refine ⟨_,⟨by omega,h2,by decide +kernel⟩,?_⟩
    repeat' ((conv=>whnf);first | exact zf | refine zm ?_ | refine aX (λhb=>?_) (λhb=>?_) | intro _)
    all_goals
      refine cR (congrArg (λb=>V.tu [V.ag [V.d (.str i.nm),V.d (.int .i64 i.ar),V.d (.int .i64 i.po),V.d (.int .i64 i.pu),V.d (.bool b)],V.d (.bool true)]) ?_)
      first
        |(simp_all [last];done)
        | (have a1 : (c == 15) = false := by simp_all
           have a2:(c==18)=false:=by simp_all
           simp [last,a1,a2])
  · have hr:oU c = .tu [.ag [.d (.str []),.d (.int .i64 0),.d (.int .i64 0),.d (.int .i64 0),.d (.bool false)],.d (.bool false)]:=by simp only [oU,GO (c:=c) (by omega)]
    rw [hr]
    refine s112.go (keep:=false) rfl ?_
    repeat' ((conv=>whnf);first | exact zf | refine zm ?_ | refine aX (λhb=>?_) (λhb=>?_) | intro _)
    all_goals
      exfalso
      simp at *
      omega
end Go.Proofs.YtjpgfgajkjhonaaGreatDoor
namespace Go.Proofs.YtjpgfgajkjhonaaGreatDoor
open Go.Vx
structure Op where
  c:Int
  a:Int
def dO (o:Op):List D:=[.int .i64 o.c,.int .i64 o.a]
def Ao (o:Op):V:=.ag [.d (.int .i64 o.c),.d (.int .i64 o.a)]
structure Fn where
  args:Int
  vars:Int
  code:List Op
def db (f:Fn):List D:=[.int .i64 f.args,.int .i64 f.vars,.sl 2 (f.code.map dO)]
structure Im where
  cs:List Va
  fs:List Fn
def wb (im:Im):V:=.ag [.d (.sl 5 (im.cs.map cE)),.d (.sl 3 (im.fs.map db))]
theorem nW {c:Int} {i:Info} (h:inf c=some i):bJ Tryz.prog 112 [.d (.int .i64 c)] (.tu [.ag [.d (.str i.nm),.d (.int .i64 i.ar),.d (.int .i64 i.po),.d (.int .i64 i.pu),.d (.bool (last c))],.d (.bool true)]):=by
 have:=C6 c;simp only [oU,h] at this;exact this
theorem tT {c:Int} (h:inf c=none):bJ Tryz.prog 112 [.d (.int .i64 c)] (.tu [.ag [.d (.str []),.d (.int .i64 0),.d (.int .i64 0),.d (.int .i64 0),.d (.bool false)],.d (.bool false)]):=by
 have:=C6 c;simp only [oU,h] at this;exact this
def jJ (o:Op):Bool:=match inf o.c with
 |some i=>bif i.ar==0 then o.a==0 else decide (0≤o.a)&&decide (o.a≤65535)
 |none=>false
theorem J2 (o:Op):bJ Tryz.prog 142 [Ao o] (.d (.bool (jJ o))):=by
 refine s142.go (keep:=false) rfl ?_;cases hi:inf o.c with
 |none=>
  have h:=tT hi
  repeat' ((conv=>whnf);first | exact zf | refine zm ?_ | refine zc h ?_ | refine aX (λhb=>?_) (λhb=>?_) | intro _)
  refine cR (congrArg (λx=>V.d (.bool x)) ?_);simp [jJ,hi]
 |some i=>
  have h:=nW hi
  repeat' ((conv=>whnf);first | exact zf | refine zm ?_ | refine zc h ?_ | refine aX (λhb=>?_) (λhb=>?_) | intro _)
  all_goals
   refine cR (congrArg (λx=>V.d (.bool x)) ?_);simp only [jJ,hi];rcases Decidable.em (i.ar=0) with e0 | e0
   ·simp_all
   ·have e1:(i.ar==0)=false:=by simpa using e0
    rw [e1,cond_false];clear e1;simp_all
    try omega
def within (n m:Int):Bool:=decide (0≤n)&&decide (n<m)
theorem kg (n m:Int):bJ Tryz.prog 141 [.d (.int .i64 n),.d (.int .i64 m)] (.d (.bool (within n m))):=by
 refine s141.go (keep:=false) rfl ?_
 repeat' ((conv=>whnf);first | exact zf | refine zm ?_ | refine aX (λhb=>?_) (λhb=>?_) | intro _)
 all_goals
  refine cR (congrArg (λx=>V.d (.bool x)) ?_);simp_all [within]
  try omega
def fT (im:Im) (f:Fr) (fn:Fn) (o:Op):Bool:=match inf o.c with
 |some i=>bif i.ar==1 then within o.a im.cs.length else bif i.ar==2 then within o.a f.vars.length else bif i.ar==3 then within o.a fn.code.length else bif i.ar==4 then within o.a im.fs.length else true
 |none=>true
theorem DF (im:Im) (f:Fr) (fn:Fn) (o:Op) (h0:0≤f.fu) (hf:im.fs[f.fu.toNat]? = some fn):bJ Tryz.prog 143 [wb im,VY f,Ao o] (.d (.bool (fT im f fn o))):=by
  refine s143.go (keep:=false) rfl ?_
  have w1:=kg o.a (im.cs.map cE).length
  have w2:=kg o.a (f.vars.map cE).length
  have w3:=kg o.a (fn.code.map dO).length
  have w4:=kg o.a (im.fs.map db).length
  have hrow:(im.fs.map db)[f.fu.toNat]? = some (db fn):=by simp [hf]
  cases hi:inf o.c with
  |none=>
    have h:=tT hi
    repeat' ((conv=>whnf);first | exact zf | refine zm ?_ | refine zc h ?_ | refine zc w1 ?_ | refine zc w2 ?_ | refine zc w3 ?_ | refine zc w4 ?_ | refine aX (λhb=>?_) (λhb=>?_) | intro _)
    all_goals
      first
        |(refine cR (congrArg (λx=>V.d (.bool x)) ?_);simp_all [fT];done)
        |(exfalso;simp_all;done)
  |some i=>
    have h:=nW hi
    repeat' ((conv=>whnf);first | exact zf | refine zm ?_ | refine zc h ?_ | refine zc w1 ?_ | refine zc w2 ?_ | refine zc w3 ?_ | refine zc w4 ?_ | refine aX (λhb=>?_) (λhb=>?_) | intro _)
    all_goals try
      (refine cR (congrArg (fun x => V.d (.bool x)) ?_)
       simp_all [fT]
       done)
    all_goals
      refine ⟨db fn,⟨h0,hrow,rfl⟩,?_⟩
      repeat' ((conv=>whnf);first | exact zf | refine zm ?_ | refine zc w3 ?_ | refine aX (λhb=>?_) (λhb=>?_) | intro _)
      refine cR (congrArg (λx=>V.d (.bool x)) ?_)
      simp_all [fT]
def fM (im:Im) (o:Op):Int:=match inf o.c with
 |some i=>bif o.c==17 then i.po+(match im.fs[o.a.toNat]? with | some g=>g.args | none=>0) else i.po
 |none=>0
theorem BF (im:Im) (o:Op) (hg:o.c=17→∃g,0≤o.a∧im.fs[o.a.toNat]? = some g∧eW .i64 g.args):bJ Tryz.prog 144 [wb im,Ao o] (.d (.int .i64 (fM im o))):=by
 refine s144.go (keep:=false) rfl ?_;cases hi:inf o.c with
 |none=>
  have h:=tT hi;have hc:o.c≠17:=by
   intro e;rw [e] at hi;obtain ⟨i,h1,_⟩:=wF (c:=17) (by omega) (by omega);rw [h1] at hi;cases hi
  repeat' ((conv=>whnf);first | exact zf | refine zm ?_ | refine zc h ?_ | intro _)
  refine aX (λhb=>absurd hb (by simp [hc])) (λhb=>?_)
  repeat' ((conv=>whnf);first | exact zf | refine zm ?_ | intro _)
  refine cR (congrArg (λx=>V.d (.int .i64 x)) ?_);simp only [fM,hi]
 |some i=>
  have h:=nW hi
  by_cases hc:o.c=17
  ·obtain ⟨g,h0,h1,h2⟩:=hg hc;have hp:i.po=0:=by
    rw [hc] at hi;have:inf 17=some ⟨[99,97,108,108],4,0,1⟩:=rfl;rw [this] at hi;cases hi;rfl
   have hrow:(im.fs.map db)[o.a.toNat]? = some (db g):=by simp [h1]
   replace h2 : -9223372036854775808≤g.args∧g.args≤9223372036854775807:=h2
   repeat' ((conv=>whnf);first | exact zf | refine zm ?_ | refine zc h ?_ | intro _)
   refine aX (λhb=>?_) (λhb=>absurd hc (by simpa using hb))
   repeat' ((conv=>whnf);first | exact zf | refine zm ?_ | intro _)
   refine ⟨db g,⟨h0,hrow,rfl⟩,?_⟩
   repeat' ((conv=>whnf);first | exact zf | refine zm ?_ | intro _)
   refine cR (congrArg (λx=>V.d (.int .i64 x)) ?_);simp only [fM,hi,hb,cond_true,h1]
  ·have hcb:(o.c==17)=false:=by simpa using hc
   repeat' ((conv=>whnf);first | exact zf | refine zm ?_ | refine zc h ?_ | intro _)
   refine aX (λhb=>absurd hb (by simp [hc])) (λhb=>?_)
   repeat' ((conv=>whnf);first | exact zf | refine zm ?_ | intro _)
   refine cR (congrArg (λx=>V.d (.int .i64 x)) ?_);simp only [fM,hi,hcb,cond_false]
theorem nC (n:Int):bJ Tryz.prog 106 [.d (.int .i64 n)] (j5 (num n)):=by
 refine s106.go (keep:=false) rfl ?_
 repeat' ((conv=>whnf);first | exact zf | refine zm ?_ | intro _)
def iV (b:Bool):Va:=num (bif b then 1 else 0)
theorem BC (b:Bool):bJ Tryz.prog 219 [.d (.bool b)] (j5 (iV b)):=by
 refine s219.go (keep:=false) rfl ?_;cases b
 ·skip
  repeat' ((conv=>whnf);first | exact zf | refine zm ?_ | refine zc (nC 0) ?_ | intro _)
 ·skip
  repeat' ((conv=>whnf);first | exact zf | refine zm ?_ | refine zc (nC 1) ?_ | intro _)
structure Ou where
  k:Int
  v:Va
  o:Op
def uI (u:Ou):V:=.ag [.d (.int .i64 u.k),.d (.int .i64 u.v.k),.d (.int .i64 u.v.n),.d (.str u.v.nm),.d (.str u.v.ls),.d (.str u.v.li),.d (.int .i64 u.o.c),.d (.int .i64 u.o.a)]
def o0:Op:=⟨0,0⟩
def cC:Ou:=⟨0,zeroV,o0⟩
def failed (n:Int):Ou:=⟨2,num n,o0⟩
def mI (c:Co) (code kp:Int):Option Co:=
 bif decide ((c.tr.length:Int) - 1<max kp 0) then none else
 match c.tr.getLast? with
 |none=>none
 |some t=>bif qO c t then some (rW c t code) else none
theorem xF {c c':Co} {code kp:Int} (h:mI c code kp=some c'):jb c code kp = .tu [gT c',.d (.bool true)]:=by
 unfold mI at h;unfold jb;cases h1:decide ((c.tr.length:Int) - 1<max kp 0)<;>rw [h1] at h<;>simp only [cond_true,cond_false] at h ⊢
 ·split at h
  ·cases h
  ·rename_i t ht;rw [ht];simp only;cases h2:qO c t<;>rw [h2] at h<;>simp only [cond_true,cond_false] at h ⊢<;>cases h;rfl
 ·cases h
theorem xG {c:Co} {code kp:Int} (h:mI c code kp=none):jb c code kp = .tu [gT c,.d (.bool false)]:=by
 unfold mI at h;unfold jb;cases h1:decide ((c.tr.length:Int) - 1<max kp 0)<;>rw [h1] at h<;>simp only [cond_true,cond_false] at h ⊢;split at h
 ·rename_i ht;rw [ht]
 ·rename_i t ht;rw [ht];simp only;cases h2:qO c t<;>rw [h2] at h<;>simp only [cond_true,cond_false] at h ⊢;cases h
def raise (c:Co) (code kp:Int):Co×Ou:=match mI c code kp with
 |some c'=>(c',cC)
 |none=>(c,failed code)
theorem rB (c:Co) (code kp:Int) (hf:c.fr.length<1000000000) (hs:c.st.length<1000000000):bJ Tryz.prog 109 [gT c,.d (.int .i64 code),.d (.int .i64 kp)] (.tu [gT (raise c code kp).1,uI (raise c code kp).2]):=by
 have h:=JD c code kp hf hs;refine s109.go (keep:=false) rfl ?_;cases ht:mI c code kp with
 |some c'=>
  rw [xF ht] at h;simp only [raise,ht]
  repeat' ((conv=>whnf);first | exact zf | refine zm ?_ | refine zc h ?_ | intro _)
 |none=>
  rw [xG ht] at h;simp only [raise,ht]
  repeat' ((conv=>whnf);first | exact zf | refine zm ?_ | refine zc h ?_ | refine zc (nC code) ?_ | intro _)
end Go.Proofs.YtjpgfgajkjhonaaGreatDoor
namespace Go.Proofs.YtjpgfgajkjhonaaGreatDoor
open Go.Vx
structure DI (im:Im):Prop where
  args:∀(i:Nat) (g:Fn),im.fs[i]? = some g→eW .i64 g.args
def fit (im:Im) (c:Co):Option Op:=
 match c.fr.getLast? with
 |none=>none
 |some f=>bif within f.fu im.fs.length then (match im.fs[f.fu.toNat]? with
  |none=>none
  |some fn=>bif within f.pc fn.code.length then (match fn.code[f.pc.toNat]? with
   |none=>none
   |some o=>bif jJ o&&(fT im f fn o&&fB c (fM im o)) then some o else none) else none) else none
def l7 (im:Im) (c:Co):V:=match fit im c with
 |some o=>.tu [Ao o,.d (.bool true)]
 |none=>.tu [Ao o0,.d (.bool false)]
theorem within_iff {n m:Int}:within n m=true↔0≤n∧n<m:=by simp [within]
theorem pA {im:Im} {f:Fr} {fn:Fn} {o:Op} (hc:o.c=17) (h:fT im f fn o=true):within o.a im.fs.length=true:=by
 unfold fT at h;rw [hc] at h;have:inf 17=some ⟨[99,97,108,108],4,0,1⟩:=rfl;rw [this] at h;exact h
set_option maxRecDepth 100000 in
set_option maxHeartbeats 4000000 in
theorem lv (im:Im) (c:Co) (hI:DI im) (hs:c.st.length<1000000000):bJ Tryz.prog 105 [wb im,gT c] (l7 im c):=by
  cases hl:c.fr.getLast? with
  |none=>
    have hz:c.fr = []:=by simpa using hl
    have hr:l7 im c = .tu [Ao o0,.d (.bool false)]:=by simp only [l7,fit,hl]
    rw [hr]
    refine s105.go (keep:=false) rfl ?_
    repeat' ((conv=>whnf);first | exact zf | refine zm ?_ | intro _)
    refine aX (λhb=>?_) (λhb=>absurd hb (by simp [hz]))
    repeat' ((conv=>whnf);first | exact zf | refine zm ?_ | intro _)
  |some f=>
    have hlen:0<c.fr.length:=by
      cases h:c.fr with
      |nil=>rw [h] at hl;cases hl
      |cons=>simp
    have hne:c.fr≠[]:=λe=>by simp [e] at hlen
    have hf1:c.fr[c.fr.length - 1]? = some f:=by rw [dS] at hl;exact hl
    have hrow:(c.fr.map bR)[c.fr.length - 1]? = some (bR f):=by simp [hf1]
    have w1:=kg f.fu (im.fs.map db).length
    have e1:within f.fu (im.fs.map db).length=within f.fu im.fs.length:=by rw [aK]
    rw [e1] at w1
    cases h1:within f.fu im.fs.length with
    |false=>
      have hr:l7 im c = .tu [Ao o0,.d (.bool false)]:=by simp only [l7,fit,hl,h1,cond_false]
      rw [hr]
      rw [h1] at w1
      refine s105.go (keep:=false) rfl ?_
      repeat' ((conv=>whnf);first | exact zf | refine zm ?_ | intro _)
      refine aX (λhb=>absurd hb (by simp [hne])) (λhb=>?_)
      repeat' ((conv=>whnf);first | exact zf | refine zm ?_ | intro _)
      refine ⟨bR f,⟨by simp;omega,by simp [hf1],rfl⟩,?_⟩
      repeat' ((conv=>whnf);first | exact zf | refine zm ?_ | refine zc w1 ?_ | intro _)
    |true=>
      obtain ⟨g1,g2⟩:=within_iff.1 h1
      obtain ⟨fn,hfn⟩:∃fn,im.fs[f.fu.toNat]? = some fn:=⟨_,aB (by omega)⟩
      rw [h1] at w1
      have w2:=kg f.pc (fn.code.map dO).length
      have e2:within f.pc (fn.code.map dO).length=within f.pc fn.code.length:=by rw [aK]
      rw [e2] at w2
      have hrow2:(im.fs.map db)[f.fu.toNat]? = some (db fn):=by simp [hfn]
      cases h2:within f.pc fn.code.length with
      |false=>
        have hr:l7 im c = .tu [Ao o0,.d (.bool false)]:=by simp only [l7,fit,hl,h1,cond_true,hfn,h2,cond_false]
        rw [hr]
        rw [h2] at w2
        refine s105.go (keep:=false) rfl ?_
        repeat' ((conv=>whnf);first | exact zf | refine zm ?_ | intro _)
        refine aX (λhb=>absurd hb (by simp [hne])) (λhb=>?_)
        repeat' ((conv=>whnf);first | exact zf | refine zm ?_ | intro _)
        refine ⟨bR f,⟨by simp;omega,by simp [hf1],rfl⟩,?_⟩
        repeat' ((conv=>whnf);first | exact zf | refine zm ?_ | refine zc w1 ?_ | intro _)
        refine ⟨db fn,⟨g1,hrow2,rfl⟩,?_⟩
        repeat' ((conv=>whnf);first | exact zf | refine zm ?_ | refine zc w2 ?_ | intro _)
      |true=>
        obtain ⟨g3,g4⟩:=within_iff.1 h2
        obtain ⟨o,ho⟩:∃o,fn.code[f.pc.toNat]? = some o:=⟨_,aB (by omega)⟩
        have hrow3:(fn.code.map dO)[f.pc.toNat]? = some (dO o):=by simp [ho]
        rw [h2] at w2
        have w3:=J2 o
        have w4:=DF im f fn o g1 hfn
        have hfit:fit im c=bif jJ o&&(fT im f fn o&&fB c (fM im o)) then some o else none:=by simp only [fit,hl,h1,cond_true,hfn,h2,ho]
        cases h3:jJ o with
        |false=>
          have hr:l7 im c = .tu [Ao o0,.d (.bool false)]:=by simp only [l7,hfit,h3,nB,cond_false]
          rw [hr]
          rw [h3] at w3
          refine s105.go (keep:=false) rfl ?_
          repeat' ((conv=>whnf);first | exact zf | refine zm ?_ | intro _)
          refine aX (λhb=>absurd hb (by simp [hne])) (λhb=>?_)
          repeat' ((conv=>whnf);first | exact zf | refine zm ?_ | intro _)
          refine ⟨bR f,⟨by simp;omega,by simp [hf1],rfl⟩,?_⟩
          repeat' ((conv=>whnf);first | exact zf | refine zm ?_ | refine zc w1 ?_ | intro _)
          refine ⟨db fn,⟨g1,hrow2,rfl⟩,?_⟩
          repeat' ((conv=>whnf);first | exact zf | refine zm ?_ | refine zc w2 ?_ | intro _)
          refine ⟨dO o,⟨g3,hrow3,rfl⟩,?_⟩
          repeat' ((conv=>whnf);first | exact zf | refine zm ?_ | refine zc w3 ?_ | intro _)
        |true=>
          rw [h3] at w3
          cases h4:fT im f fn o with
          |false=>
            have hr:l7 im c = .tu [Ao o0,.d (.bool false)]:=by simp only [l7,hfit,h3,h4,nB,Bool.and_false,cond_false]
            rw [hr]
            rw [h4] at w4
            refine s105.go (keep:=false) rfl ?_
            repeat' ((conv=>whnf);first | exact zf | refine zm ?_ | intro _)
            refine aX (λhb=>absurd hb (by simp [hne])) (λhb=>?_)
            repeat' ((conv=>whnf);first | exact zf | refine zm ?_ | intro _)
            refine ⟨bR f,⟨by simp;omega,by simp [hf1],rfl⟩,?_⟩
            repeat' ((conv=>whnf);first | exact zf | refine zm ?_ | refine zc w1 ?_ | intro _)
            refine ⟨db fn,⟨g1,hrow2,rfl⟩,?_⟩
            repeat' ((conv=>whnf);first | exact zf | refine zm ?_ | refine zc w2 ?_ | intro _)
            refine ⟨dO o,⟨g3,hrow3,rfl⟩,?_⟩
            repeat' ((conv=>whnf);first | exact zf | refine zm ?_ | refine zc w3 ?_ | refine zc w4 ?_ | intro _)
          |true=>
            rw [h4] at w4
            have w5:=BF im o (λhc=>by
              obtain ⟨k1,k2⟩:=within_iff.1 (pA hc h4)
              obtain ⟨g,hg⟩:∃g,im.fs[o.a.toNat]? = some g:=⟨_,aB (by omega)⟩
              exact ⟨g,k1,hg,hI.args _ _ hg⟩)
            have w6:=x4 c (fM im o) hs
            cases h5:fB c (fM im o) with
            |false=>
              have hr:l7 im c = .tu [Ao o0,.d (.bool false)]:=by simp only [l7,hfit,h3,h4,h5,Bool.and_false,cond_false]
              rw [hr]
              rw [rC h5] at w6
              refine s105.go (keep:=false) rfl ?_
              repeat' ((conv=>whnf);first | exact zf | refine zm ?_ | intro _)
              refine aX (λhb=>absurd hb (by simp [hne])) (λhb=>?_)
              repeat' ((conv=>whnf);first | exact zf | refine zm ?_ | intro _)
              refine ⟨bR f,⟨by simp;omega,by simp [hf1],rfl⟩,?_⟩
              repeat' ((conv=>whnf);first | exact zf | refine zm ?_ | refine zc w1 ?_ | intro _)
              refine ⟨db fn,⟨g1,hrow2,rfl⟩,?_⟩
              repeat' ((conv=>whnf);first | exact zf | refine zm ?_ | refine zc w2 ?_ | intro _)
              refine ⟨dO o,⟨g3,hrow3,rfl⟩,?_⟩
              repeat' ((conv=>whnf);first | exact zf | refine zm ?_ | refine zc w3 ?_ | refine zc w4 ?_ | refine zc w5 ?_ | refine zc w6 ?_ | intro _)
            |true=>
              have hr:l7 im c = .tu [Ao o,.d (.bool true)]:=by simp only [l7,hfit,h3,h4,h5,de,cond_true]
              rw [hr]
              rw [ko h5] at w6
              refine s105.go (keep:=false) rfl ?_
              repeat' ((conv=>whnf);first | exact zf | refine zm ?_ | intro _)
              refine aX (λhb=>absurd hb (by simp [hne])) (λhb=>?_)
              repeat' ((conv=>whnf);first | exact zf | refine zm ?_ | intro _)
              refine ⟨bR f,⟨by simp;omega,by simp [hf1],rfl⟩,?_⟩
              repeat' ((conv=>whnf);first | exact zf | refine zm ?_ | refine zc w1 ?_ | intro _)
              refine ⟨db fn,⟨g1,hrow2,rfl⟩,?_⟩
              repeat' ((conv=>whnf);first | exact zf | refine zm ?_ | refine zc w2 ?_ | intro _)
              refine ⟨dO o,⟨g3,hrow3,rfl⟩,?_⟩
              repeat' ((conv=>whnf);first | exact zf | refine zm ?_ | refine zc w3 ?_ | refine zc w4 ?_ | refine zc w5 ?_ | refine zc w6 ?_ | intro _)
end Go.Proofs.YtjpgfgajkjhonaaGreatDoor
namespace Go.Proofs.YtjpgfgajkjhonaaGreatDoor
open Go.Vx
structure Mh where
  im:Im
  gE:Co
  o:Op
  fr:Int
  tr:Int
def iO (m:Mh) (c0:V) (st:List Va) (ts:List Tr) (tk:V) (u:Ou) (wr:Bool) (cd:Int):List V:=
  [.d (.sl 5 (m.im.cs.map cE)), .d (.sl 3 (m.im.fs.map db)), .d (.sl 5 (m.gE.fr.map bR)), .d (.sl 5 (m.gE.st.map cE)), .d (.sl 3 (m.gE.tr.map eE)),
   c0,.d (.sl 5 (st.map cE)),.d (.sl 3 (ts.map eE)),.d (.int .i64 m.o.c),.d (.int .i64 m.o.a),tk,.d (.int .i64 m.fr),.d (.int .i64 m.tr),
   .d (.int .i64 u.k),.d (.int .i64 u.v.k),.d (.int .i64 u.v.n),.d (.str u.v.nm),.d (.str u.v.ls),.d (.str u.v.li),.d (.int .i64 u.o.c),.d (.int .i64 u.o.a),.d (.bool wr),.d (.int .i64 cd)]
def gp (l:List Va):V:=.d (.sl 5 (l.map cE))
theorem uO {K:Out→H→Prop} (m:Mh) (st:List Va) (ts:List Tr) (tk:List Va) (u:Ou) (wr:Bool) (cd:Int) (rows:List (List D)) (hr:0<rows.length) (hl:rows.length<1000000000)
  (hk:K (.ret (.q 1 5 ((rows.length:Int) - 1).toNat 0)) [.cells (iO m (.os 1) st ts (gp tk) u wr cd),.rows 5 rows]) :
  Sat Tryz.prog 167 [.p 0 0] [.cells (iO m (.os 1) st ts (gp tk) u wr cd),.rows 5 rows] K:=by
 refine s167.go (keep:=false) rfl ?_
 repeat' ((conv=>whnf);first | exact zf | refine zm ?_ | intro _)
 exact hk
theorem lX {K:Out→H→Prop} (m:Mh) (st:List Va) (ts:List Tr) (tk:List Va) (u:Ou) (wr:Bool) (cd:Int) (fs:List Fr) (v:Va) (hs:st.length<1000000000)
  (hk:K (.ret (.tu [])) [.cells (iO m (.d (.sl 5 (fs.map bR))) (st ++ [v]) ts (gp tk) u wr cd),.no]) :
  Sat Tryz.prog 214 [.p 0 0,j5 v] [.cells (iO m (.os 1) st ts (gp tk) u wr cd),.rows 5 (fs.map bR)] K:=by
 refine s214.go (keep:=false) rfl ?_
 repeat' ((conv=>whnf);first | exact zf | refine iw [1] ?_ | refine zm ?_ | refine zc (rz ⟨fs,st,ts⟩ v hs) ?_ | intro _)
 exact hk
theorem AI {K:Out→H→Prop} (m:Mh) (st:List Va) (ts:List Tr) (tk:List Va) (u:Ou) (wr:Bool) (cd:Int) (fs:List Fr) (v:Va) (hs:st.length<1000000000)
  (hk:K (.ret (.tu [])) [.cells (iO m (.d (.sl 5 (fs.map bR))) (st ++ [v]) ts (gp tk) u wr cd)]) :
  Sat Tryz.prog 214 [.p 0 0,j5 v] [.cells (iO m (.d (.sl 5 (fs.map bR))) st ts (gp tk) u wr cd)] K:=by
 refine s214.go (keep:=false) rfl ?_
 repeat' ((conv=>whnf);first | exact zf | refine zm ?_ | refine zc (rz ⟨fs,st,ts⟩ v hs) ?_ | intro _)
 exact hk
theorem mo {K:Out→H→Prop} (m:Mh) (st:List Va) (ts:List Tr) (tk:List Va) (u:Ou) (wr:Bool) (cd:Int) (rows:List (List D)) (n:Int)
  (hk:K (.ret (.tu [])) [.cells (iO m (.os 1) st ts (gp tk) u true n),.rows 5 rows]) :
  Sat Tryz.prog 218 [.p 0 0,.d (.int .i64 n)] [.cells (iO m (.os 1) st ts (gp tk) u wr cd),.rows 5 rows] K:=by
 refine s218.go (keep:=false) rfl ?_
 repeat' ((conv=>whnf);first | exact zf | refine zm ?_ | intro _)
 exact hk
end Go.Proofs.YtjpgfgajkjhonaaGreatDoor
namespace Go.Proofs.YtjpgfgajkjhonaaGreatDoor
open Go.Vx
def N4 (m:Mh):List V:=
  [.d (.sl 5 (m.im.cs.map cE)), .d (.sl 3 (m.im.fs.map db)), .d (.sl 5 (m.gE.fr.map bR)), .d (.sl 5 (m.gE.st.map cE)), .d (.sl 3 (m.gE.tr.map eE)),
   .nl 5,.nl 5,.nl 3,.d (.int .i64 m.o.c),.d (.int .i64 m.o.a),.nl 5,.d (.int .i64 m.fr),.d (.int .i64 m.tr),
   .d (.int .i64 0),.d (.int .i64 0),.d (.int .i64 0),.d (.str []),.d (.str []),.d (.str []),.d (.int .i64 0),.d (.int .i64 0),.d (.bool false),.d (.int .i64 0)]
structure MI (m:Mh) (f:Fr):Prop where
  hl:m.gE.fr.getLast? = some f
  lf:m.gE.fr.length<1000000000
  ls:m.gE.st.length<1000000000
  pc:0≤f.pc∧f.pc<9223372036854775807
  po:fB m.gE (fM m.im m.o)=true
  ca:m.o.c=17→∃g,0≤m.o.a∧m.im.fs[m.o.a.toNat]? = some g∧eW .i64 g.args
def bW (l:List Fr) (f:Fr):List Fr:=l.set (l.length - 1) { f with pc:=f.pc+1 }
def nD (m:Mh):List Va:=kX m.gE (fM m.im m.o)
def jL (m:Mh):List Va:=(qf m.gE (fM m.im m.o)).st
theorem nT {K:Out→H→Prop} (m:Mh) (f:Fr) (hr:MI m f) (hk:K (.ret (.tu [])) [.cells (iO m (.os 1) (jL m) m.gE.tr (gp (nD m)) cC false 0),.rows 5 ((bW m.gE.fr f).map bR)]) :
  Sat Tryz.prog 108 [.p 0 0] [.cells (N4 m)] K:=by
 have hne:0<m.gE.fr.length:=by
  cases h:m.gE.fr with
  |nil=>have:=hr.hl;rw [h] at this;cases this
  |cons=>simp
 have hf1:m.gE.fr[m.gE.fr.length - 1]? = some f:=by have:=hr.hl;rw [dS] at this;exact this
 have htk:=BF m.im m.o hr.ca;have hpop:=x4 m.gE (fM m.im m.o) hr.ls;rw [ko hr.po] at hpop;have hlf:=hr.lf;have hpc:=hr.pc;refine s108.go (keep:=false) rfl ?_
 repeat' ((conv=>whnf);first | exact zf | refine zm ?_ | refine zc htk ?_ | refine zc hpop ?_ | refine rN (m.gE.fr.map bR) (by simp;omega) ?_ | refine (.inr ?_:(∃_,_)∨_) | refine uO m (jL m) m.gE.tr (nD m) cC false 0 _ (by simp;omega) (by simp;omega) ?_ | intro _)
 have hrow:(m.gE.fr.map bR)[(((m.gE.fr.map bR).length:Int) - 1).toNat]? = some (bR f):=by
  rw [aC,aK];have e:((m.gE.fr.length:Int) - 1).toNat=m.gE.fr.length - 1:=by omega
  rw [e,hf1];rfl
 have hset:(m.gE.fr.map bR).set (((m.gE.fr.map bR).length:Int) - 1).toNat (bR { f with pc:=f.pc+1 })=(bW m.gE.fr f).map bR:=by
  rw [bW,fW,aK];congr 1;omega
 refine ⟨bR f,hrow,?_⟩
 repeat' ((conv=>whnf);first | exact zf | refine zm ?_ | intro _)
 refine ⟨bR f,hrow,⟨rfl,rfl,rfl⟩,?_⟩
 repeat' ((conv=>whnf);first | exact zf | refine zm ?_ | intro _)
 rw [←hset] at hk;exact hk
end Go.Proofs.YtjpgfgajkjhonaaGreatDoor
namespace Go.Proofs.YtjpgfgajkjhonaaGreatDoor
open Go.Vx
def EC (f:Nat) (vs:List V) (m:Mh) (st st':List Va) (ts:List Tr) (tk:List Va) (bY:List Fr):Prop:=
 ∀K:Out→H→Prop,K (.ret (.tu [])) [.cells [.p 1 0],.cells (iO m (.d (.sl 5 (bY.map bR))) st' ts (gp tk) cC false 0),.no] →
  Sat Tryz.prog f (vs ++ [.p 0 0]) [.cells [.p 1 0],.cells (iO m (.os 2) st ts (gp tk) cC false 0),.rows 5 (bY.map bR)] K
def vC (f:Nat) (vs:List V) (m:Mh) (st:List Va) (ts:List Tr) (tk:List Va) (bY frs':List Fr) (wr:Bool) (cd:Int):Prop:=
 ∀K:Out→H→Prop,K (.ret (.tu [])) [.cells [.p 1 0],.cells (iO m (.os 2) st ts (gp tk) cC wr cd),.rows 5 (frs'.map bR)] →
  Sat Tryz.prog f (vs ++ [.p 0 0]) [.cells [.p 1 0],.cells (iO m (.os 2) st ts (gp tk) cC false 0),.rows 5 (bY.map bR)] K
theorem yz {K:Out→H→Prop} (f:Nat) (hf:Nat.blt f 1000000=true) (m:Mh) (st st':List Va) (ts:List Tr) (a b:Va) (kd:Int) (bY:List Fr) (ha:a.k=kd) (hb:b.k=kd) (hS:EC f [j5 a,j5 b] m st st' ts [a,b] bY)
  (hk:K (.ret (.tu [])) [.cells (iO m (.d (.sl 5 (bY.map bR))) st' ts (gp [a,b]) cC false 0),.no,.cells [.p 0 0]]) :
  Sat Tryz.prog 215 [.p 0 0,.d (.int .i64 kd),.fc f [.p 2 0]] [.cells (iO m (.os 1) st ts (gp [a,b]) cC false 0),.rows 5 (bY.map bR),.cells [.p 0 0]] K:=by
 refine s215.go (keep:=false) rfl ?_
 repeat' ((conv=>whnf);first | exact zf | refine zm ?_ | refine ⟨_,⟨by decide,rfl,rfl⟩,?_⟩ | refine ⟨_,rfl,?_⟩ | intro _)
 refine aX (λh=>absurd h (by simp [ha])) (λh=>?_)
 repeat' ((conv=>whnf);first | exact zf | refine zm ?_ | refine ⟨_,⟨by decide,rfl,rfl⟩,?_⟩ | refine ⟨_,rfl,?_⟩ | intro _)
 refine aX (λh=>absurd h (by simp [hb])) (λh=>?_)
 repeat' ((conv=>whnf);first | exact zf | refine zm ?_ | refine ⟨_,⟨by decide,rfl,rfl⟩,?_⟩ | refine ⟨_,rfl,?_⟩ | intro _)
 conv=>whnf
 rw [hf]
 repeat' ((conv=>whnf);first | exact zf | refine zm ?_ | refine (.inr ?_:(∃_,_)∨_) | refine hS _ ?_ | intro _)
 exact hk
theorem MW {K:Out→H→Prop} (f:Nat) (hf:Nat.blt f 1000000=true) (m:Mh) (st:List Va) (ts:List Tr) (a b:Va) (kd:Int) (bY frs':List Fr) (wr:Bool) (cd:Int) (ha:a.k=kd) (hb:b.k=kd) (hS:vC f [j5 a,j5 b] m st ts [a,b] bY frs' wr cd)
  (hk:K (.ret (.tu [])) [.cells (iO m (.os 1) st ts (gp [a,b]) cC wr cd),.rows 5 (frs'.map bR),.cells [.p 0 0]]) :
  Sat Tryz.prog 215 [.p 0 0,.d (.int .i64 kd),.fc f [.p 2 0]] [.cells (iO m (.os 1) st ts (gp [a,b]) cC false 0),.rows 5 (bY.map bR),.cells [.p 0 0]] K:=by
 refine s215.go (keep:=false) rfl ?_
 repeat' ((conv=>whnf);first | exact zf | refine zm ?_ | refine ⟨_,⟨by decide,rfl,rfl⟩,?_⟩ | refine ⟨_,rfl,?_⟩ | intro _)
 refine aX (λh=>absurd h (by simp [ha])) (λh=>?_)
 repeat' ((conv=>whnf);first | exact zf | refine zm ?_ | refine ⟨_,⟨by decide,rfl,rfl⟩,?_⟩ | refine ⟨_,rfl,?_⟩ | intro _)
 refine aX (λh=>absurd h (by simp [hb])) (λh=>?_)
 repeat' ((conv=>whnf);first | exact zf | refine zm ?_ | refine ⟨_,⟨by decide,rfl,rfl⟩,?_⟩ | refine ⟨_,rfl,?_⟩ | intro _)
 conv=>whnf
 rw [hf]
 repeat' ((conv=>whnf);first | exact zf | refine zm ?_ | refine (.inr ?_:(∃_,_)∨_) | refine hS _ ?_ | intro _)
 exact hk
theorem yy {K:Out→H→Prop} (f:Nat) (m:Mh) (st:List Va) (ts:List Tr) (a b:Va) (kd:Int) (bY:List Fr) (hab:¬(a.k=kd∧b.k=kd))
  (hk:K (.ret (.tu [])) [.cells (iO m (.os 1) st ts (gp [a,b]) cC true (-1)),.rows 5 (bY.map bR),.cells [.p 0 0]]) :
  Sat Tryz.prog 215 [.p 0 0,.d (.int .i64 kd),.fc f [.p 2 0]] [.cells (iO m (.os 1) st ts (gp [a,b]) cC false 0),.rows 5 (bY.map bR),.cells [.p 0 0]] K:=by
 refine s215.go (keep:=false) rfl ?_
 repeat' ((conv=>whnf);first | exact zf | refine zm ?_ | refine ⟨_,⟨by decide,rfl,rfl⟩,?_⟩ | refine ⟨_,rfl,?_⟩ | intro _)
 refine aX (λh=>?_) (λh=>?_)
 ·skip
  repeat' ((conv=>whnf);first | exact zf | refine zm ?_ | refine (.inr ?_:(∃_,_)∨_) | refine mo m st ts [a,b] cC false 0 (bY.map bR) (-1) ?_ | refine ⟨_,⟨by decide,rfl,rfl⟩,?_⟩ | refine ⟨_,rfl,?_⟩ | intro _)
  exact hk
 ·skip
  repeat' ((conv=>whnf);first | exact zf | refine zm ?_ | refine ⟨_,⟨by decide,rfl,rfl⟩,?_⟩ | refine ⟨_,rfl,?_⟩ | intro _)
  refine aX (λh2=>?_) (λh2=>absurd ⟨by simpa using h,by simpa using h2⟩ hab)
  repeat' ((conv=>whnf);first | exact zf | refine zm ?_ | refine (.inr ?_:(∃_,_)∨_) | refine mo m st ts [a,b] cC false 0 (bY.map bR) (-1) ?_ | refine ⟨_,⟨by decide,rfl,rfl⟩,?_⟩ | refine ⟨_,rfl,?_⟩ | intro _)
  exact hk
theorem NK {K:Out→H→Prop} (f:Nat) (hf:Nat.blt f 1000000=true) (m:Mh) (st st':List Va) (ts:List Tr) (a:Va) (kd:Int) (bY:List Fr) (ha:a.k=kd) (hS:EC f [j5 a] m st st' ts [a] bY)
  (hk:K (.ret (.tu [])) [.cells (iO m (.d (.sl 5 (bY.map bR))) st' ts (gp [a]) cC false 0),.no,.cells [.p 0 0]]) :
  Sat Tryz.prog 220 [.p 0 0,.d (.int .i64 kd),.fc f [.p 2 0]] [.cells (iO m (.os 1) st ts (gp [a]) cC false 0),.rows 5 (bY.map bR),.cells [.p 0 0]] K:=by
 refine s220.go (keep:=false) rfl ?_
 repeat' ((conv=>whnf);first | exact zf | refine zm ?_ | refine ⟨_,⟨by decide,rfl,rfl⟩,?_⟩ | refine ⟨_,rfl,?_⟩ | intro _)
 refine aX (λh=>absurd h (by simp [ha])) (λh=>?_)
 repeat' ((conv=>whnf);first | exact zf | refine zm ?_ | refine ⟨_,⟨by decide,rfl,rfl⟩,?_⟩ | refine ⟨_,rfl,?_⟩ | intro _)
 conv=>whnf
 rw [hf]
 repeat' ((conv=>whnf);first | exact zf | refine zm ?_ | refine (.inr ?_:(∃_,_)∨_) | refine hS _ ?_ | intro _)
 exact hk
theorem zn {K:Out→H→Prop} (f:Nat) (hf:Nat.blt f 1000000=true) (m:Mh) (st:List Va) (ts:List Tr) (a:Va) (kd:Int) (bY frs':List Fr) (wr:Bool) (cd:Int) (ha:a.k=kd) (hS:vC f [j5 a] m st ts [a] bY frs' wr cd)
  (hk:K (.ret (.tu [])) [.cells (iO m (.os 1) st ts (gp [a]) cC wr cd),.rows 5 (frs'.map bR),.cells [.p 0 0]]) :
  Sat Tryz.prog 220 [.p 0 0,.d (.int .i64 kd),.fc f [.p 2 0]] [.cells (iO m (.os 1) st ts (gp [a]) cC false 0),.rows 5 (bY.map bR),.cells [.p 0 0]] K:=by
 refine s220.go (keep:=false) rfl ?_
 repeat' ((conv=>whnf);first | exact zf | refine zm ?_ | refine ⟨_,⟨by decide,rfl,rfl⟩,?_⟩ | refine ⟨_,rfl,?_⟩ | intro _)
 refine aX (λh=>absurd h (by simp [ha])) (λh=>?_)
 repeat' ((conv=>whnf);first | exact zf | refine zm ?_ | refine ⟨_,⟨by decide,rfl,rfl⟩,?_⟩ | refine ⟨_,rfl,?_⟩ | intro _)
 conv=>whnf
 rw [hf]
 repeat' ((conv=>whnf);first | exact zf | refine zm ?_ | refine (.inr ?_:(∃_,_)∨_) | refine hS _ ?_ | intro _)
 exact hk
theorem zk {K:Out→H→Prop} (f:Nat) (m:Mh) (st:List Va) (ts:List Tr) (a:Va) (kd:Int) (bY:List Fr) (ha:¬a.k=kd)
  (hk:K (.ret (.tu [])) [.cells (iO m (.os 1) st ts (gp [a]) cC true (-1)),.rows 5 (bY.map bR),.cells [.p 0 0]]) :
  Sat Tryz.prog 220 [.p 0 0,.d (.int .i64 kd),.fc f [.p 2 0]] [.cells (iO m (.os 1) st ts (gp [a]) cC false 0),.rows 5 (bY.map bR),.cells [.p 0 0]] K:=by
 refine s220.go (keep:=false) rfl ?_
 repeat' ((conv=>whnf);first | exact zf | refine zm ?_ | refine ⟨_,⟨by decide,rfl,rfl⟩,?_⟩ | refine ⟨_,rfl,?_⟩ | intro _)
 refine aX (λh=>?_) (λh=>absurd (by simpa using h) ha)
 repeat' ((conv=>whnf);first | exact zf | refine zm ?_ | refine (.inr ?_:(∃_,_)∨_) | refine mo m st ts [a] cC false 0 (bY.map bR) (-1) ?_ | refine ⟨_,⟨by decide,rfl,rfl⟩,?_⟩ | refine ⟨_,rfl,?_⟩ | intro _)
 exact hk
end Go.Proofs.YtjpgfgajkjhonaaGreatDoor
namespace Go.Proofs.YtjpgfgajkjhonaaGreatDoor
open Go.Vx
def H_ (n:Int):Int:=IntKind.i64.wrap n
def SG (b:Bool):Int:=bif b then 1 else 0
theorem xD (b:Bool):bJ Tryz.prog 318 [.d (.bool b)] (.d (.int .i64 (SG b))):=by
 refine s318.go (keep:=false) rfl ?_;cases b<;>skip
 ·skip
  repeat' ((conv=>whnf);first | exact zf | refine zm ?_ | intro _)
 ·skip
  repeat' ((conv=>whnf);first | exact zf | refine zm ?_ | intro _)
def lT (n:Int):V:=.tu [.d (.int .i64 n),.d (.bool true)]
theorem PX (a b:Int):bJ Tryz.prog 312 [.d (.int .i64 a),.d (.int .i64 b)] (lT (H_ (a+b))):=by
 refine s312.go (keep:=false) rfl ?_
 repeat' ((conv=>whnf);first | exact zf | refine zm ?_ | refine .inr ?_ | intro _)
theorem M0 (a b:Int):bJ Tryz.prog 313 [.d (.int .i64 a),.d (.int .i64 b)] (lT (H_ (a - b))):=by
 refine s313.go (keep:=false) rfl ?_
 repeat' ((conv=>whnf);first | exact zf | refine zm ?_ | refine .inr ?_ | intro _)
theorem N2 (a b:Int):bJ Tryz.prog 314 [.d (.int .i64 a),.d (.int .i64 b)] (lT (H_ (a*b))):=by
 refine s314.go (keep:=false) rfl ?_
 repeat' ((conv=>whnf);first | exact zf | refine zm ?_ | refine .inr ?_ | intro _)
def pv:V:=.tu [.d (.int .i64 0),.d (.bool false)]
theorem Nw (a b:Int):bJ Tryz.prog 315 [.d (.int .i64 a),.d (.int .i64 b)] (bif b==0 then pv else lT (H_ (a.tdiv b))):=by
 refine s315.go (keep:=false) rfl ?_;cases h:(b==0) with
 |true=>
  repeat' ((conv=>whnf);first | exact zf | refine zm ?_ | intro _)
  refine aX (λ_=>?_) (λh2=>by rw [h] at h2;cases h2)
  repeat' ((conv=>whnf);first | exact zf | refine zm ?_ | intro _)
 |false=>
  repeat' ((conv=>whnf);first | exact zf | refine zm ?_ | intro _)
  refine aX (λh2=>by rw [h] at h2;cases h2) (λ_=>?_)
  conv=>whnf
  refine ⟨by simpa using h,.inr ?_⟩
  repeat' ((conv=>whnf);first | exact zf | refine zm ?_ | intro _)
theorem Mp (a b:Int):bJ Tryz.prog 316 [.d (.int .i64 a),.d (.int .i64 b)] (bif b==0 then pv else lT (a.tmod b)):=by
 refine s316.go (keep:=false) rfl ?_;cases h:(b==0) with
 |true=>
  repeat' ((conv=>whnf);first | exact zf | refine zm ?_ | intro _)
  refine aX (λ_=>?_) (λh2=>by rw [h] at h2;cases h2)
  repeat' ((conv=>whnf);first | exact zf | refine zm ?_ | intro _)
 |false=>
  repeat' ((conv=>whnf);first | exact zf | refine zm ?_ | intro _)
  refine aX (λh2=>by rw [h] at h2;cases h2) (λ_=>?_)
  conv=>whnf
  refine ⟨by simpa using h,?_⟩
  repeat' ((conv=>whnf);first | exact zf | refine zm ?_ | intro _)
theorem Rq (a b:Int):bJ Tryz.prog 317 [.d (.int .i64 a),.d (.int .i64 b)] (lT (SG (a==b))):=by
 refine s317.go (keep:=false) rfl ?_
 repeat' ((conv=>whnf);first | exact zf | refine zm ?_ | refine zc (xD _) ?_ | intro _)
theorem Rd (a b:Int):bJ Tryz.prog 319 [.d (.int .i64 a),.d (.int .i64 b)] (lT (SG (decide (a<b)))):=by
 refine s319.go (keep:=false) rfl ?_
 repeat' ((conv=>whnf);first | exact zf | refine zm ?_ | refine zc (xD _) ?_ | intro _)
def TL:List (V×V):=[(.d (.int .i64 7),.d (.fn 312)),(.d (.int .i64 8),.d (.fn 313)),(.d (.int .i64 9),.d (.fn 314)),(.d (.int .i64 10),.d (.fn 315)),(.d (.int .i64 11),.d (.fn 316)),(.d (.int .i64 12),.d (.fn 317)),(.d (.int .i64 13),.d (.fn 319))]
theorem lS {K:Out→H→Prop} (hk:K (.ret (.mp 0)) [.mp TL]):Sat Tryz.prog 276 [] [] K:=by
 refine s276.go (keep:=true) rfl ?_
 repeat' ((conv=>whnf);first | exact zf | refine zm ?_ | refine ⟨_,rfl,?_⟩ | intro _)
 exact hk
def pD (c a b:Int):V:=
 bif c==7 then lT (H_ (a+b)) else bif c==8 then lT (H_ (a - b)) else bif c==9 then lT (H_ (a*b)) else bif c==10 then (bif b==0 then pv else lT (H_ (a.tdiv b)))
 else bif c==11 then (bif b==0 then pv else lT (a.tmod b)) else bif c==12 then lT (SG (a==b)) else lT (SG (decide (a<b)))
theorem Rv (c a b:Int) (hc:7≤c∧c≤13):bJ Tryz.prog 217 [.d (.int .i64 c),.d (.int .i64 a),.d (.int .i64 b)] (pD c a b):=by
 have h7:c=7∨c=8∨c=9∨c=10∨c=11∨c=12∨c=13:=by omega
 rcases h7 with rfl | rfl | rfl | rfl | rfl | rfl | rfl
 ·refine s217.go (keep:=false) rfl ?_
  repeat' ((conv=>whnf);first | exact zf | refine zm ?_ | refine zc (PX a b) ?_ | refine lS ?_ | refine ⟨_,rfl,?_⟩ | intro _)
 ·refine s217.go (keep:=false) rfl ?_
  repeat' ((conv=>whnf);first | exact zf | refine zm ?_ | refine zc (M0 a b) ?_ | refine lS ?_ | refine ⟨_,rfl,?_⟩ | intro _)
 ·refine s217.go (keep:=false) rfl ?_
  repeat' ((conv=>whnf);first | exact zf | refine zm ?_ | refine zc (N2 a b) ?_ | refine lS ?_ | refine ⟨_,rfl,?_⟩ | intro _)
 ·refine s217.go (keep:=false) rfl ?_;have h:=Nw a b;cases hb:(b==0) with
  |true=>
   have e:pD 10 a b=pv:=by show (bif b==0 then pv else _)=_;rw [hb];rfl
   rw [e];rw [hb] at h
   repeat' ((conv=>whnf);first | exact zf | refine zm ?_ | refine zc h ?_ | refine lS ?_ | refine ⟨_,rfl,?_⟩ | intro _)
  |false=>
   have e:pD 10 a b=lT (H_ (a.tdiv b)):=by show (bif b==0 then pv else _)=_;rw [hb];rfl
   rw [e];rw [hb] at h
   repeat' ((conv=>whnf);first | exact zf | refine zm ?_ | refine zc h ?_ | refine lS ?_ | refine ⟨_,rfl,?_⟩ | intro _)
 ·refine s217.go (keep:=false) rfl ?_;have h:=Mp a b;cases hb:(b==0) with
  |true=>
   have e:pD 11 a b=pv:=by show (bif b==0 then pv else _)=_;rw [hb];rfl
   rw [e];rw [hb] at h
   repeat' ((conv=>whnf);first | exact zf | refine zm ?_ | refine zc h ?_ | refine lS ?_ | refine ⟨_,rfl,?_⟩ | intro _)
  |false=>
   have e:pD 11 a b=lT (a.tmod b):=by show (bif b==0 then pv else _)=_;rw [hb];rfl
   rw [e];rw [hb] at h
   repeat' ((conv=>whnf);first | exact zf | refine zm ?_ | refine zc h ?_ | refine lS ?_ | refine ⟨_,rfl,?_⟩ | intro _)
 ·refine s217.go (keep:=false) rfl ?_
  repeat' ((conv=>whnf);first | exact zf | refine zm ?_ | refine zc (Rq a b) ?_ | refine lS ?_ | refine ⟨_,rfl,?_⟩ | intro _)
 ·refine s217.go (keep:=false) rfl ?_
  repeat' ((conv=>whnf);first | exact zf | refine zm ?_ | refine zc (Rd a b) ?_ | refine lS ?_ | refine ⟨_,rfl,?_⟩ | intro _)
end Go.Proofs.YtjpgfgajkjhonaaGreatDoor
namespace Go.Proofs.YtjpgfgajkjhonaaGreatDoor
open Go.Vx
set_option maxRecDepth 100000
def vQ (l:Lb):Lb:=⟨l.s.take 4,l.i.take 4⟩
theorem JR (l:Lb):bJ Tryz.prog 76 [jU l] (jU (vQ l)):=by
 refine s76.go (keep:=false) rfl ?_
 repeat' ((conv=>whnf);first | exact zf | refine zm ?_ | intro _)
 have e:∀l:List UInt8,(l.take (min (l.length:Int) 4).toNat).drop (0:Int).toNat=l.take 4:=by
  intro l;show l.take (min (l.length:Int) 4).toNat=_;rcases ck l.length 4 with h | h
  ·rw [cq (by omega),cq (by omega)]
  ·congr 1;omega
 show Out.ret (V.ag [.d (.str ((l.s.take (min (l.s.length:Int) 4).toNat).drop (0:Int).toNat)),.d (.str ((l.i.take (min (l.i.length:Int) 4).toNat).drop (0:Int).toNat))])=_;rw [e,e];rfl
def iY:List (List UInt8):=[[48],[49],[48,46,48],[48,46,49],[50],[49,48],[49,46,48],[48,46,48,46,48]]
theorem Ba:bJ Tryz.prog 77 [] (.d (.sl 1 (iY.map λs=>[.str s]))):=by
 refine s77.go (keep:=false) rfl ?_
 repeat' ((conv=>whnf);first | exact zf | refine zm ?_ | intro _)
theorem BU (l:Lb):bJ Tryz.prog 122 [jU l] (jU l):=by
 refine s122.go (keep:=false) rfl ?_
 repeat' ((conv=>whnf);first | exact zf | refine zm ?_ | intro _)
theorem vh (v:Va):bJ Tryz.prog 123 [j5 v] (j5 v):=by
 have h1:=BU ⟨v.ls,v.li⟩;refine s123.go (keep:=false) rfl ?_
 repeat' ((conv=>whnf);first | exact zf | refine zm ?_ | refine zc h1 ?_ | intro _)
def iQ:List Lb:=[⟨[],[]⟩,⟨[1],[]⟩,⟨[2],[]⟩,⟨[1,2],[]⟩,⟨[3],[]⟩,⟨[],[1]⟩,⟨[1],[1]⟩,⟨[0],[]⟩]
theorem F_:bJ Tryz.prog 17 [] (.d (.sl 2 (iQ.map lQ))):=by
 refine s17.go (keep:=false) rfl ?_
 repeat' ((conv=>whnf);first | exact zf | refine zm ?_ | intro _)
theorem wC:∀m∈iQ,cO m:=by
 intro m hm;simp only [iQ,ae,cU,or_false] at hm;unfold cO zP;rcases hm with rfl | rfl | rfl | rfl | rfl | rfl | rfl | rfl<;>exact ⟨by decide,by decide⟩
def lh (ar:Int):Va:=bif decide (60<ar) then ⟨3+ar.tmod 5,0,(iY[((ar.tdiv 8).tmod 8).toNat]?).getD [],((iQ[(ar.tdiv 64).toNat]?).getD n7).s,((iQ[(ar.tdiv 64).toNat]?).getD n7).i⟩ else num (ar.tmod 5)
def PL:List Int:=[7,7,3,1]
def LA (l c:Int):Lb:=dR ((iQ[(l.tmod 8).toNat]?).getD n7) ((iQ[((PL[(c.tmod 4).toNat]?).getD 0).toNat]?).getD n7)
def HU (l c mk fn ar ro:Int):Th:=xe [51] ⟨(iQ[(l.tmod 8).toNat]?).getD n7,LA l c⟩ (f_ ⟨[],[],[]⟩ (fn.tmod 3) 7 [lh ar] (mk.tmod 4)) (ro.tmod 16)
theorem sd {i:Int} (h:0≤i∧i<8):iQ[i.toNat]? = some ((iQ[i.toNat]?).getD n7):=by
 have:i.toNat<iQ.length:=by show i.toNat<8;omega
 rw [aB this];rfl
theorem CT (l c mk fn ar ro:Int) (im:Im) (h1:0≤l∧l≤255) (h2:0≤c∧c≤255) (h3:0≤mk∧mk≤255) (h4:0≤fn∧fn≤255) (h5:0≤ar∧ar≤255) (h6:0≤ro∧ro≤255) :
  bJ Tryz.prog 39 [.ag [.d (.int .u8 l),.d (.int .u8 c),.d (.int .u8 mk),.d (.int .u8 fn),.d (.int .u8 ar),.d (.int .u8 ro)],wb im] (eu (HU l c mk fn ar ro)):=by
 have m1:l.tmod 8=l % 8:=bC h1.1;have m2:c.tmod 4=c % 4:=bC h2.1;have m3:fn.tmod 3=fn % 3:=bC h4.1;have m4:mk.tmod 4=mk % 4:=bC h3.1;have m5:ar.tmod 5=ar % 5:=bC h5.1;have m6:ro.tmod 16=ro % 16:=bC h6.1;have d1:ar.tdiv 8=ar / 8:=Int.tdiv_eq_ediv_of_nonneg h5.1;have d2:ar.tdiv 64=ar / 64:=Int.tdiv_eq_ediv_of_nonneg h5.1;have m7:(ar.tdiv 8).tmod 8=ar / 8 % 8:=by rw [d1];exact bC (by omega)
 have g1:=sd (i:=l.tmod 8) (by omega);have g2:=sd (i:=ar.tdiv 64) (by omega);obtain ⟨q,hq,hq2⟩:∃q,PL[(c.tmod 4).toNat]? = some q∧0≤q∧q<8:=by
  rw [m2];have:c % 4=0∨c % 4=1∨c % 4=2∨c % 4=3:=by omega
  rcases this with e | e | e | e<;>rw [e]<;>exact ⟨_,rfl,by decide,by decide⟩
 have g3:=sd (i:=q) hq2;obtain ⟨nm,hnm⟩:∃nm,iY[((ar.tdiv 8).tmod 8).toNat]? = some nm:=⟨_,aB (show ((ar.tdiv 8).tmod 8).toNat<8 by omega)⟩
 have r1:(iQ.map lQ)[(l.tmod 8).toNat]? = some (lQ ((iQ[(l.tmod 8).toNat]?).getD n7)):=by rw [aC,g1];rfl
 have r3:(iQ.map lQ)[q.toNat]? = some (lQ ((iQ[q.toNat]?).getD n7)):=by rw [aC,g3];rfl
 have rq:(PL.map λx=>[D.int .i64 x])[(c.tmod 4).toNat]? = some [.int .i64 q]:=by rw [aC,hq];rfl
 have e1:LA l c=dR ((iQ[(l.tmod 8).toNat]?).getD n7) ((iQ[q.toNat]?).getD n7):=by unfold LA;rw [hq];rfl
 have h24:=sT ((iQ[(l.tmod 8).toNat]?).getD n7) ((iQ[q.toNat]?).getD n7) (wC _ (aH g1)) (wC _ (aH g3));have h20:∀a:Va,bJ Tryz.prog 20 [gT ⟨[],[],[]⟩,.d (.int .i64 (fn.tmod 3)),.d (.int .i64 7),.d (.sl 5 ([a].map cE)),.d (.int .u8 (mk.tmod 4))] (.tu [gT (f_ ⟨[],[],[]⟩ (fn.tmod 3) 7 [a] (mk.tmod 4)),.d (.bool true)]):=λa=>kN ⟨[],[],[]⟩ (fn.tmod 3) 7 [a] (mk.tmod 4) (by decide) (show 1<_ by decide);have h22:=Fh [51] ⟨(iQ[(l.tmod 8).toNat]?).getD n7,LA l c⟩ (f_ ⟨[],[],[]⟩ (fn.tmod 3) 7 [lh ar] (mk.tmod 4)) (ro.tmod 16);rw [e1] at h22;unfold HU;rw [e1]
 by_cases h60:60<ar
 ·have ea:lh ar=⟨3+ar.tmod 5,0,nm,((iQ[(ar.tdiv 64).toNat]?).getD n7).s,((iQ[(ar.tdiv 64).toNat]?).getD n7).i⟩:=by
   unfold lh;rw [decide_eq_true h60,cond_true,hnm];rfl
  rw [ea] at h22 ⊢;have h20':=h20 ⟨3+ar.tmod 5,0,nm,((iQ[(ar.tdiv 64).toNat]?).getD n7).s,((iQ[(ar.tdiv 64).toNat]?).getD n7).i⟩;have r2:(iQ.map lQ)[(ar.tdiv 64).toNat]? = some (lQ ((iQ[(ar.tdiv 64).toNat]?).getD n7)):=by rw [aC,g2];rfl
  have rn:(iY.map λs=>[D.str s])[((ar.tdiv 8).tmod 8).toNat]? = some [.str nm]:=by rw [aC,hnm];rfl
  refine s39.go (keep:=false) rfl ?_
  repeat' ((conv=>whnf);first | exact zf | refine zm ?_ | refine zc F_ ?_ | refine zc Ba ?_ | refine ⟨_,⟨by omega,r1,rfl⟩,?_⟩ | refine ⟨_,⟨by omega,rn,rfl⟩,?_⟩ | refine ⟨_,⟨by omega,r2,rfl⟩,?_⟩ | refine ⟨_,⟨by omega,rq,rfl⟩,?_⟩ | refine ⟨_,⟨by omega,r3,rfl⟩,?_⟩ | refine zc h20' ?_ | refine zc h24 ?_ | refine zc h22 ?_ | refine zt ?_ | refine zu ?_ | intro _)
 ·have ea:lh ar=num (ar.tmod 5):=by
   unfold lh;rw [decide_eq_false h60,cond_false]
  rw [ea] at h22 ⊢;have h20':=h20 (num (ar.tmod 5));refine s39.go (keep:=false) rfl ?_
  repeat' ((conv=>whnf);first | exact zf | refine zm ?_ | refine zc F_ ?_ | refine ⟨_,⟨by omega,r1,rfl⟩,?_⟩ | refine ⟨_,⟨by omega,rq,rfl⟩,?_⟩ | refine ⟨_,⟨by omega,r3,rfl⟩,?_⟩ | refine zc h20' ?_ | refine zc h24 ?_ | refine zc h22 ?_ | refine zt ?_ | refine zu ?_ | intro _)
end Go.Proofs.YtjpgfgajkjhonaaGreatDoor
namespace Go.Proofs.YtjpgfgajkjhonaaGreatDoor
open Go.Vx
set_option maxRecDepth 100000
theorem SC (s:Gs) (l:Lb) (p:Int) (hs:jH s) (hl:cO l):bJ Tryz.prog 293 [.e (qd s) 0,.e (lQ l) 0,.e [.int .u8 p] 0] (.d (.bool (fh s.cur l p))):=by
 have h:=uZ s.cur l p hs.1 hl;refine s293.go (keep:=false) rfl ?_
 repeat' ((conv=>whnf);first | exact zf | refine zm ?_ | refine zc h ?_ | intro _)
theorem SB (s:Gs) (l:Lb) (p:Int) (hs:jH s) (hl:cO l):bJ Tryz.prog 295 [.e (lQ l) 0,.e (qd s) 0,.e [.int .u8 p] 0] (.d (.bool (fh l s.eo p))):=by
 have h:=uZ l s.eo p hl hs.2;refine s295.go (keep:=false) rfl ?_
 repeat' ((conv=>whnf);first | exact zf | refine zm ?_ | refine zc h ?_ | intro _)
def T4 (s:Gs) (l:Lb) (p:Int):Mu:=⟨293,[.pt (qd s) 0,.pt (lQ l) 0,.pt [.int .u8 p] 0],fh s.cur l p,-3⟩
def T3 (s:Gs) (l:Lb) (p:Int):Mu:=⟨295,[.pt (lQ l) 0,.pt (qd s) 0,.pt [.int .u8 p] 0],fh l s.eo p,-4⟩
def lE (s:Gs) (l:Lb) (p:Int):Int:=firstM [T4 s l p,u7 s l]
def kz (s:Gs) (l:Lb) (p:Int):Int:=firstM [T3 s l p,xi s l]
def ux (s:Gs) (l:Lb) (p:Int):Gs:=bif lE s l p==0 then ⟨eC l,s.eo⟩ else s
def ue (s:Gs) (l:Lb) (p:Int):Gs:=bif kz s l p==0 then ⟨s.cur,eC l⟩ else s
def su (s:Gs) (l:Lb) (p:Int):Bool:=bif lE s l p==0 then !bA s.cur l else false
def sK (s:Gs) (l:Lb) (p:Int):Bool:=bif kz s l p==0 then !bA l s.eo else false
def Sf (s:Gs) (e:Int) (b:Bool):V:=.tu [EN s,.d (.int .i64 e),.d (.bool b)]
theorem K5 (s:Gs) (l:Lb) (p:Int) (hs:jH s) (hl:cO l):bJ Tryz.prog 255 [EN s,jU l,.d (.int .u8 p)] (Sf (ux s l p) (lE s l p) (su s l p)):=by
 have h2:=lg s l;have h3:=mj [T4 s l p,u7 s l] (by
  intro m hm;simp only [ae,cU,or_false] at hm;rcases hm with rfl | rfl
  ·exact ⟨.inr ⟨_,_,_,.inl rfl,rfl⟩,SC s l p hs hl⟩
  ·exact vr s l hs hl)
 have h4:=jg l hl;have h5:=gG s.cur l hs.1 hl;have he:firstM [T4 s l p,u7 s l]=lE s l p:=rfl;rw [he] at h3;unfold ux su;refine s255.go (keep:=false) rfl ?_
 repeat' ((conv=>whnf);first | exact zf | refine (iw [0,1,2] ?_) | refine zm ?_ | refine zc h2 ?_ | refine zc h3 ?_ | intro _)
 cases hb:lE s l p==0 with
 |true=>
  have hz:=eq_of_beq hb
  repeat' ((conv=>whnf);first | exact zf | refine zm ?_ | refine zc h4 ?_ | refine zc h5 ?_ | refine zt ?_ | refine zu ?_ | intro _)
  show Out.ret (Sf ⟨eC l,s.eo⟩ 0 (!bA s.cur l))=_;rw [hz];rfl
 |false=>
  repeat' ((conv=>whnf);first | exact zf | refine zm ?_ | refine zt ?_ | refine zu ?_ | intro _)
theorem Jy (s:Gs) (l:Lb) (p:Int) (hs:jH s) (hl:cO l):bJ Tryz.prog 257 [EN s,jU l,.d (.int .u8 p)] (Sf (ue s l p) (kz s l p) (sK s l p)):=by
 have h2:=tQ s l;have h3:=mj [T3 s l p,xi s l] (by
  intro m hm;simp only [ae,cU,or_false] at hm;rcases hm with rfl | rfl
  ·exact ⟨.inr ⟨_,_,_,.inr rfl,rfl⟩,SB s l p hs hl⟩
  ·exact AB s l hs hl)
 have h4:=jg l hl;have h5:=gG l s.eo hl hs.2;have he:firstM [T3 s l p,xi s l]=kz s l p:=rfl;rw [he] at h3;unfold ue sK;refine s257.go (keep:=false) rfl ?_
 repeat' ((conv=>whnf);first | exact zf | refine (iw [0,1,2] ?_) | refine zm ?_ | refine zc h2 ?_ | refine zc h3 ?_ | intro _)
 cases hb:kz s l p==0 with
 |true=>
  have hz:=eq_of_beq hb
  repeat' ((conv=>whnf);first | exact zf | refine zm ?_ | refine zc h4 ?_ | refine zc h5 ?_ | refine zt ?_ | refine zu ?_ | intro _)
  show Out.ret (Sf ⟨s.cur,eC l⟩ 0 (!bA l s.eo))=_;rw [hz];rfl
 |false=>
  repeat' ((conv=>whnf);first | exact zf | refine zm ?_ | refine zt ?_ | refine zu ?_ | intro _)
end Go.Proofs.YtjpgfgajkjhonaaGreatDoor
namespace Go.Proofs.YtjpgfgajkjhonaaGreatDoor
open Go.Vx
set_option maxRecDepth 100000
theorem yP {K:Out→H→Prop} (l:List (List D)) (hl:l.length<100000000) (hk:K (.ret (.os 0)) [.rows 7 l]):Sat Tryz.prog 85 [.d (.sl 7 l)] [] K:=by
 refine s85.go (keep:=true) rfl ?_;cases l with
 |nil=>
  repeat' ((conv=>whnf);first | exact zf | refine zm ?_ | refine And.intro ?_ ?_ | intro _)
  all_goals exact hk
 |cons r l=>
  repeat' ((conv=>whnf);first | exact zf | refine zm ?_ | intro _)
  all_goals exact hk
theorem Hw (l:List (List D)) (i:List UInt8) (b:Bool) (k n:Int) (x y z:List UInt8) (hl:l.length<100000000):bJ Tryz.prog 287 [.d (.sl 7 l),.ag [.d (.str i),.d (.bool b),.d (.int .i64 k),.d (.int .i64 n),.d (.str x),.d (.str y),.d (.str z)]] (.d (.sl 7 (l ++ [[.str i,.bool b,.int .i64 k,.int .i64 n,.str x,.str y,.str z]]))):=by
 have hc:=λ{K:Out→H→Prop}=>yP (K:=K) l hl;refine s287.go (keep:=false) rfl ?_
 repeat' ((conv=>whnf);first | exact zf | refine (dp ?_) | refine zm ?_ | refine (hc ?_) | refine (And.intro ⟨rfl,rfl,by simp only [aU,af];omega,by simp only [aU,af];omega⟩ ?_) | refine And.intro ?_ ?_ | intro _)
theorem Mx (i:List UInt8) (b:Bool) (k n:Int) (x y z:List UInt8):bJ Tryz.prog 289 [.ag [.d (.str i),.d (.bool b),.d (.int .i64 k),.d (.int .i64 n),.d (.str x),.d (.str y),.d (.str z)]] (.d (.bool b)):=by
 refine s289.go (keep:=false) rfl ?_
 repeat' ((conv=>whnf);first | exact zf | refine zm ?_ | intro _)
theorem JI (i:List UInt8) (b:Bool) (k n:Int) (x y z:List UInt8):bJ Tryz.prog 291 [.ag [.d (.str i),.d (.bool b),.d (.int .i64 k),.d (.int .i64 n),.d (.str x),.d (.str y),.d (.str z)]] (.d (.bool (!b))):=by
 refine s291.go (keep:=false) rfl ?_
 repeat' ((conv=>whnf);first | exact zf | refine zm ?_ | intro _)
structure Ws where
  i:List UInt8
  b:Bool
  k:Int
  n:Int
  x:List UInt8
  y:List UInt8
  z:List UInt8
def Ws.row (w:Ws):List D:=[.str w.i,.bool w.b,.int .i64 w.k,.int .i64 w.n,.str w.x,.str w.y,.str w.z]
def js (p:Bool):List Ws→Nat
 |[]=>0
 |w :: r=>bif w.b==p then 0 else js p r+1
def kM (p:Bool) (l:List Ws):Int:=if js p l<l.length then js p l else -1
theorem jA {p:Bool}:∀{l:List Ws} {i:Nat},(∀s∈l.take i,(s.b==p)=false)→i≤l.length→js p l=i+js p (l.drop i)
 |l,0,_,_=>by simp
 |[],i+1,_,h=>by simp at h
 |s :: l,i+1,h,hi=>by
  rw [js,h s (by simp),cond_false,ly,jA (i:=i) (λx hx=>h x (by rw [dV];exact cM _ hx)) (by simpa using hi)];omega
theorem Ga (p:Bool) (l:List Ws):bJ Tryz.prog 288 [.d (.sl 7 (l.map Ws.row)),.d (.fn (bif p then 289 else 291))] (.d (.int .i64 (kM p l))):=by
 have hl:(l.map Ws.row).length=l.length:=aK _;cases p
 all_goals (
  refine s288.go (keep:=false) rfl ?_
  )
 ·skip
  repeat' ((conv=>whnf);first | exact zf | refine zm ?_ | intro _)
  conv=>whnf
  refine bV [(1,.d (.fn 291)),(7,.d (.sl 7 (l.map Ws.row))),(8,.d (.int .i64 (l.map Ws.row).length))] (λi:Nat=>i≤l.length∧∀s∈l.take i,(s.b==false)=false) (λi=>[(9,.d (.int .i64 i))]) (λ_=>[]) (λi=>l.length - i) 0 ⟨aj _,λ_ h=>nomatch h⟩ ?_ ?_ ?_ (λi hi=>?_)
  ·exact zzz
  ·exact zzz
  ·exact rfl
  repeat' ((conv=>whnf);first | exact zf | refine zm ?_ | intro _)
  refine aX (λhlt=>?_) (λhge=>?_)
  ·have hlt:i<l.length:=by rw [←hl];simpa using hlt
   obtain ⟨⟨a1,a2,a3,a4,a5,a6,a7⟩,hm⟩:∃m,l[i]? = some m:=⟨_,aB hlt⟩
   have hs:=JI a1 a2 a3 a4 a5 a6 a7;have htk:l.take (i+1)=l.take i ++ [⟨a1,a2,a3,a4,a5,a6,a7⟩]:=by rw [cF,hm];rfl
   have hdr:l.drop i=⟨a1,a2,a3,a4,a5,a6,a7⟩ :: l.drop (i+1):=by
    rw [bP hlt];rw [aB hlt] at hm;rw [ak hm]
   have hk:=jA hi.2 hi.1;rw [hdr,js] at hk;have hrow:(l.map Ws.row)[i]? = some [D.str a1,.bool a2,.int .i64 a3,.int .i64 a4,.str a5,.str a6,.str a7]:=by rw [aC,hm];rfl
   cases a2 with
   |false=>
    repeat' ((conv=>whnf);first | exact zf | refine zm ?_ | refine ⟨_,⟨by omega,hrow,rfl⟩,?_⟩ | refine zc hs ?_ | intro _)
    refine cR (congrArg (λx=>V.d (D.int .i64 x)) ?_);unfold kM;rw [hk,if_pos (by simp;omega)];simp
   |true=>
    repeat' ((conv=>whnf);first | exact zf | refine zm ?_ | refine ⟨_,⟨by omega,hrow,rfl⟩,?_⟩ | refine zc hs ?_ | intro _)
    refine ⟨i+1,⟨hlt,?_⟩,bE hlt (bN i),zzz,zzz,rfl⟩;rw [htk];intro x hx;exact (aR.1 hx).elim (hi.2 x) λh=>by rw [aP.1 h];rfl
  ·have hge:i=l.length:=by
    have:¬i<l.length:=by rw [←hl];simpa using hge
    omega
   have hk:=jA hi.2 hi.1;rw [hge,ke] at hk;have:kM false l = -1:=by unfold kM;rw [hk,if_neg (by simp [js])]
   rw [this]
   repeat' ((conv=>whnf);first | exact zf | refine zm ?_ | intro _)
 ·skip
  repeat' ((conv=>whnf);first | exact zf | refine zm ?_ | intro _)
  conv=>whnf
  refine bV [(1,.d (.fn 289)),(7,.d (.sl 7 (l.map Ws.row))),(8,.d (.int .i64 (l.map Ws.row).length))] (λi:Nat=>i≤l.length∧∀s∈l.take i,(s.b==true)=false) (λi=>[(9,.d (.int .i64 i))]) (λ_=>[]) (λi=>l.length - i) 0 ⟨aj _,λ_ h=>nomatch h⟩ ?_ ?_ ?_ (λi hi=>?_)
  ·exact zzz
  ·exact zzz
  ·exact rfl
  repeat' ((conv=>whnf);first | exact zf | refine zm ?_ | intro _)
  refine aX (λhlt=>?_) (λhge=>?_)
  ·have hlt:i<l.length:=by rw [←hl];simpa using hlt
   obtain ⟨⟨a1,a2,a3,a4,a5,a6,a7⟩,hm⟩:∃m,l[i]? = some m:=⟨_,aB hlt⟩
   have hs:=Mx a1 a2 a3 a4 a5 a6 a7;have htk:l.take (i+1)=l.take i ++ [⟨a1,a2,a3,a4,a5,a6,a7⟩]:=by rw [cF,hm];rfl
   have hdr:l.drop i=⟨a1,a2,a3,a4,a5,a6,a7⟩ :: l.drop (i+1):=by
    rw [bP hlt];rw [aB hlt] at hm;rw [ak hm]
   have hk:=jA hi.2 hi.1;rw [hdr,js] at hk;have hrow:(l.map Ws.row)[i]? = some [D.str a1,.bool a2,.int .i64 a3,.int .i64 a4,.str a5,.str a6,.str a7]:=by rw [aC,hm];rfl
   cases a2 with
   |true=>
    repeat' ((conv=>whnf);first | exact zf | refine zm ?_ | refine ⟨_,⟨by omega,hrow,rfl⟩,?_⟩ | refine zc hs ?_ | intro _)
    refine cR (congrArg (λx=>V.d (D.int .i64 x)) ?_);unfold kM;rw [hk,if_pos (by simp;omega)];simp
   |false=>
    repeat' ((conv=>whnf);first | exact zf | refine zm ?_ | refine ⟨_,⟨by omega,hrow,rfl⟩,?_⟩ | refine zc hs ?_ | intro _)
    refine ⟨i+1,⟨hlt,?_⟩,bE hlt (bN i),zzz,zzz,rfl⟩;rw [htk];intro x hx;exact (aR.1 hx).elim (hi.2 x) λh=>by rw [aP.1 h];rfl
  ·have hge:i=l.length:=by
    have:¬i<l.length:=by rw [←hl];simpa using hge
    omega
   have hk:=jA hi.2 hi.1;rw [hge,ke] at hk;have:kM true l = -1:=by unfold kM;rw [hk,if_neg (by simp [js])]
   rw [this]
   repeat' ((conv=>whnf);first | exact zf | refine zm ?_ | intro _)
end Go.Proofs.YtjpgfgajkjhonaaGreatDoor
