/- Lemmas. Conditions: none. -/
import Derived.Test.YtjpgfgajkjhonaaGreatDoorQRAV
set_option maxHeartbeats 4000000
namespace Go.Proofs.YtjpgfgajkjhonaaGreatDoor
open Go.Vx
set_option maxRecDepth 100000
structure Info where
  nm:List UInt8
  ar:Int
  po:Int
  pu:Int
def td:List D->Option Info
 |[.str s,.int .u8 a,.int .u8 p,.int .u8 q]=>some ⟨s,a,p,q⟩
 |_=>none
def Nu(r:List D):Bool:=match td r with
 |some i=>decide (0<=i.ar)&&(decide (i.ar<=5)&&(decide (0<=i.po)&&(decide (i.po<=4)&&(decide (0<=i.pu)&&decide (i.pu<=2)))))
 |none=>false
theorem GF:iB.all Nu=true:=rfl
theorem E3{r:List D}{i:Info}(h:td r=some i):r=[.str i.nm,.int .u8 i.ar,.int .u8 i.po,.int .u8 i.pu]:=by
 unfold td at h;split at h
 .cases h;rfl
 .cases h
def inf(c:Int):Option Info:=bif decide (1<=c)&&decide (c<=47)then(iB[(c-1).toNat]?).bind td else none
def last(c:Int):Bool:=(c==15)||((c==18)||(c==19))
def pG(c:Int):V:=match inf c with
 |some i=>.tu [.ag [.d (.str i.nm),.d (.int .i64 i.ar),.d (.int .i64 i.po),.d (.int .i64 i.pu),.d (.bool (last c))],.d (.bool true)]
 |none=>.tu [.ag [.d (.str []),.d (.int .i64 0),.d (.int .i64 0),.d (.int .i64 0),.d (.bool false)],.d (.bool false)]
theorem xD{c:Int}(h1:1<=c)(h2:c<=47):∃i,inf c=some i/\(chunk 4 47 (iB.flatten.drop 0))[(c-1).toNat]?=some [.str i.nm,.int .u8 i.ar,.int .u8 i.po,.int .u8 i.pu] /\
  0<=i.ar/\i.ar<=5/\0<=i.po/\i.po<=4/\0<=i.pu/\i.pu<=2:=by
 have hlen:iB.length=47:=rfl;have hc:chunk 4 47 (iB.flatten.drop 0)=iB:=rfl;obtain⟨r,hr⟩:∃r,iB[(c-1).toNat]?=some r:=⟨_,aA (by omega)⟩
 have hf:=aS.1 GF r (aJ hr);unfold Nu at hf;cases hi:td r with
 |none=>rw[hi]at hf;cases hf
 |some i=>
  rw[hi]at hf;simp only[aP,χ]at hf;refine⟨i,by unfold inf;rw[show(decide (1<=c)&&decide (c<=47))=true by simp[h1,h2]];simp only[δ,hr,Option.bind_some,hi],?_,hf.1,hf.2.1,hf.2.2.1,hf.2.2.2.1,hf.2.2.2.2.1,hf.2.2.2.2.2⟩;rw[hc,hr,E3 hi]
theorem Hb{c:Int}(h:c<1\/47<c):inf c=none:=by
 have:(decide (1<=c)&&decide (c<=47))=false:=by
  cases hh:(decide (1<=c)&&decide (c<=47)) with
  |false=>rfl
  |true=>simp at hh;omega
 simp[inf,this]
theorem te{c:Int}{i:Info}(h:inf c=some i):1<=c/\c<=47/\0<=i.ar/\i.ar<=5/\0<=i.po/\i.po<=4/\0<=i.pu/\i.pu<=2:=by
 by_cases h0:1<=c/\c<=47
 .obtain⟨i',h1,_,h2⟩:=xD h0.1 h0.2;rw[h]at h1;cases h1;exact⟨h0.1,h0.2,h2⟩
 .rw[Hb (by omega)]at h;cases h
theorem D1(c:Int):Z0 112 [.d (.int .i64 c)] (pG c):=by
  by_cases h0:1<=c/\c<=47
  · obtain⟨i,h1,h2,h3⟩:=xD h0.1 h0.2
    have hr:pG c=.tu [.ag [.d (.str i.nm),.d (.int .i64 i.ar),.d (.int .i64 i.po),.d (.int .i64 i.pu),.d (.bool (last c))],.d (.bool true)]:=by simp only[pG,h1]
    rw[hr]
    refine sh0 Tryz.f112 ?_
    repeat' ((conv=>whnf);first|exact zf|refine zm ?_|intro _)
    refine aW (λhb=>absurd hb (by simp;omega)) (λhb=>?_)
    repeat' ((conv=>whnf);first|exact zf|refine zm ?_|intro _)
    refine aW (λhb=>absurd hb (by simp;omega)) (λhb=>?_)
    repeat' ((conv=>whnf);first|exact zf|refine zm ?_|intro _)
    refine⟨_,⟨by omega,h2,by decide +kernel⟩,?_⟩
    repeat' ((conv=>whnf);first|exact zf|refine zm ?_|refine aW (λhb=>?_) (λhb=>?_)|intro _)
    all_goals
      refine cJ (κ (λb=>V.tu [V.ag [V.d (.str i.nm),V.d (.int .i64 i.ar),V.d (.int .i64 i.po),V.d (.int .i64 i.pu),V.d (.bool b)],V.d (.bool true)]) ?_)
      first
        |(simp_all[last];done)
        | (have a1 : (c == 15) = false := by simp_all
           have a2:(c==18)=false:=by simp_all
           simp[last,a1,a2])
  · have hr:pG c=.tu [.ag [.d (.str []),.d (.int .i64 0),.d (.int .i64 0),.d (.int .i64 0),.d (.bool false)],.d (.bool false)]:=by simp only[pG,Hb (c:=c) (by omega)]
    rw[hr]
    refine sh0 Tryz.f112 ?_
    repeat' ((conv=>whnf);first|exact zf|refine zm ?_|refine aW (λhb=>?_) (λhb=>?_)|intro _)
    all_goals
      exfalso
      simp at *
      omega
structure Op where
  c:Int
  a:Int
def dO(o:Op):List D:=[.int .i64 o.c,.int .i64 o.a]
def Bc(o:Op):V:=.ag [.d (.int .i64 o.c),.d (.int .i64 o.a)]
structure Fn where
  args:Int
  vars:Int
  code:List Op
def dc(f:Fn):List D:=[.int .i64 f.args,.int .i64 f.vars,.sl 2 (f.code.map dO)]
structure Im where
  cs:List Va
  fs:List Fn
def x4(im:Im):V:=.ag [.d (.sl 5 (im.cs.map cE)),.d (.sl 3 (im.fs.map dc))]
theorem oH{c:Int}{i:Info}(h:inf c=some i):Z0 112 [.d (.int .i64 c)] (.tu [.ag [.d (.str i.nm),.d (.int .i64 i.ar),.d (.int .i64 i.po),.d (.int .i64 i.pu),.d (.bool (last c))],.d (.bool true)]):=by
 have:=D1 c;simp only[pG,h]at this;exact this
theorem uW{c:Int}(h:inf c=none):Z0 112 [.d (.int .i64 c)] (.tu [.ag [.d (.str []),.d (.int .i64 0),.d (.int .i64 0),.d (.int .i64 0),.d (.bool false)],.d (.bool false)]):=by
 have:=D1 c;simp only[pG,h]at this;exact this
def jN(o:Op):Bool:=match inf o.c with
 |some i=>bif i.ar==0 then o.a==0 else decide (0<=o.a)&&decide (o.a<=65535)
 |none=>false
theorem LL(o:Op):Z0 142 [Bc o] (.d (.bool (jN o))):=by
 refine sh0 Tryz.f142 ?_;cases hi:inf o.c with
 |none=>
  have h:=uW hi
  repeat' ((conv=>whnf);first|exact zf|refine zm ?_|refine zc h ?_|refine aW (λhb=>?_) (λhb=>?_)|intro _)
  refine cJ (κ (λx=>V.d (.bool x)) ?_);simp[jN,hi]
 |some i=>
  have h:=oH hi
  repeat' ((conv=>whnf);first|exact zf|refine zm ?_|refine zc h ?_|refine aW (λhb=>?_) (λhb=>?_)|intro _)
  all_goals
   refine cJ (κ (λx=>V.d (.bool x)) ?_);simp only[jN,hi];rcases Decidable.em (i.ar=0)with e0|e0
   .simp_all
   .have e1:(i.ar==0)=false:=by simpa using e0
    rw[e1,ε];clear e1;simp_all
    try omega
def within(n m:Int):Bool:=decide (0<=n)&&decide (n<m)
theorem lC(n m:Int):Z0 141 [.d (.int .i64 n),.d (.int .i64 m)] (.d (.bool (within n m))):=by
 refine sh0 Tryz.f141 ?_
 repeat' ((conv=>whnf);first|exact zf|refine zm ?_|refine aW (λhb=>?_) (λhb=>?_)|intro _)
 all_goals
  refine cJ (κ (λx=>V.d (.bool x)) ?_);simp_all[within]
  try omega
def fS(im:Im)(f:Fr)(fn:Fn)(o:Op):Bool:=match inf o.c with
 |some i=>bif i.ar==1 then within o.a im.cs.length else bif i.ar==2 then within o.a f.vars.length else bif i.ar==3 then within o.a fn.code.length else bif i.ar==4 then within o.a im.fs.length else true
 |none=>true
theorem Dz(im:Im)(f:Fr)(fn:Fn)(o:Op)(h0:0<=f.fu)(hf:im.fs[f.fu.toNat]?=some fn):Z0 143 [x4 im,Xw f,Bc o] (.d (.bool (fS im f fn o))):=by
  refine sh0 Tryz.f143 ?_
  have w1:=lC o.a (im.cs.map cE).length
  have w2:=lC o.a (f.vars.map cE).length
  have w3:=lC o.a (fn.code.map dO).length
  have w4:=lC o.a (im.fs.map dc).length
  have hrow:(im.fs.map dc)[f.fu.toNat]?=some (dc fn):=by simp[hf]
  cases hi:inf o.c with
  |none=>
    have h:=uW hi
    repeat' ((conv=>whnf);first|exact zf|refine zm ?_|refine zc h ?_|refine zc w1 ?_|refine zc w2 ?_|refine zc w3 ?_|refine zc w4 ?_|refine aW (λhb=>?_) (λhb=>?_)|intro _)
    all_goals
      first
        |(refine cJ (κ (λx=>V.d (.bool x)) ?_);simp_all[fS];done)
        |(exfalso;simp_all;done)
  |some i=>
    have h:=oH hi
    repeat' ((conv=>whnf);first|exact zf|refine zm ?_|refine zc h ?_|refine zc w1 ?_|refine zc w2 ?_|refine zc w3 ?_|refine zc w4 ?_|refine aW (λhb=>?_) (λhb=>?_)|intro _)
    all_goals try
      (refine cJ (κ (fun x => V.d (.bool x)) ?_)
       simp_all[fS]
       done)
    all_goals
      refine⟨dc fn,⟨h0,hrow,rfl⟩,?_⟩
      repeat' ((conv=>whnf);first|exact zf|refine zm ?_|refine zc w3 ?_|refine aW (λhb=>?_) (λhb=>?_)|intro _)
      refine cJ (κ (λx=>V.d (.bool x)) ?_)
      simp_all[fS]
def fL(im:Im)(o:Op):Int:=match inf o.c with
 |some i=>bif o.c==17 then i.po+(match im.fs[o.a.toNat]? with|some g=>g.args|none=>0)else i.po
 |none=>0
theorem Bt(im:Im)(o:Op)(hg:o.c=17->∃g,0<=o.a/\im.fs[o.a.toNat]?=some g/\eK .i64 g.args):Z0 144 [x4 im,Bc o] (.d (.int .i64 (fL im o))):=by
 refine sh0 Tryz.f144 ?_;cases hi:inf o.c with
 |none=>
  have h:=uW hi;have hc:o.c≠17:=by
   intro e;rw[e]at hi;obtain⟨i,h1,_⟩:=xD (c:=17) (by omega) (by omega);rw[h1]at hi;cases hi
  repeat' ((conv=>whnf);first|exact zf|refine zm ?_|refine zc h ?_|intro _)
  refine aW (λhb=>absurd hb (by simp[hc])) (λhb=>?_)
  repeat' ((conv=>whnf);first|exact zf|refine zm ?_|intro _)
  refine cJ (κ (λx=>V.d (.int .i64 x)) ?_);simp only[fL,hi]
 |some i=>
  have h:=oH hi
  by_cases hc:o.c=17
  .obtain⟨g,h0,h1,h2⟩:=hg hc;have hp:i.po=0:=by
    rw[hc]at hi;have:inf 17=some ⟨[99,97,108,108],4,0,1⟩:=rfl;rw[this]at hi;cases hi;rfl
   have hrow:(im.fs.map dc)[o.a.toNat]?=some (dc g):=by simp[h1]
   replace h2 : -9223372036854775808<=g.args/\g.args<=9223372036854775807:=h2
   repeat' ((conv=>whnf);first|exact zf|refine zm ?_|refine zc h ?_|intro _)
   refine aW (λhb=>?_) (λhb=>absurd hc (by simpa using hb))
   repeat' ((conv=>whnf);first|exact zf|refine zm ?_|intro _)
   refine⟨dc g,⟨h0,hrow,rfl⟩,?_⟩
   repeat' ((conv=>whnf);first|exact zf|refine zm ?_|intro _)
   refine cJ (κ (λx=>V.d (.int .i64 x)) ?_);simp only[fL,hi,hb,δ,h1]
  .have hcb:(o.c==17)=false:=by simpa using hc
   repeat' ((conv=>whnf);first|exact zf|refine zm ?_|refine zc h ?_|intro _)
   refine aW (λhb=>absurd hb (by simp[hc])) (λhb=>?_)
   repeat' ((conv=>whnf);first|exact zf|refine zm ?_|intro _)
   refine cJ (κ (λx=>V.d (.int .i64 x)) ?_);simp only[fL,hi,hcb,ε]
theorem nV(n:Int):Z0 106 [.d (.int .i64 n)] (j7 (num n)):=by
 refine sh0 Tryz.f106 ?_
 exact zj0
def iY(b:Bool):Va:=num (bif b then 1 else 0)
theorem Bq(b:Bool):Z0 219 [.d (.bool b)] (j7 (iY b)):=by
 refine sh0 Tryz.f219 ?_;cases b
 .skip
  repeat' ((conv=>whnf);first|exact zf|refine zm ?_|refine zc (nV 0) ?_|intro _)
 .skip
  repeat' ((conv=>whnf);first|exact zf|refine zm ?_|refine zc (nV 1) ?_|intro _)
structure Ou where
  k:Int
  v:Va
  o:Op
def ux(u:Ou):V:=.ag [.d (.int .i64 u.k),.d (.int .i64 u.v.k),.d (.int .i64 u.v.n),.d (.str u.v.nm),.d (.str u.v.ls),.d (.str u.v.li),.d (.int .i64 u.o.c),.d (.int .i64 u.o.a)]
def o0:Op:=⟨0,0⟩
def cD:Ou:=⟨0,zeroV,o0⟩
def failed(n:Int):Ou:=⟨2,num n,o0⟩
def mX(c:Co)(code kp:Int):Option Co:=
 bif decide ((c.tr.length:Int)-1<max kp 0)then none else
 match c.tr.getLast? with
 |none=>none
 |some t=>bif qt c t then some (sT c t code)else none
theorem xq{c c':Co}{code kp:Int}(h:mX c code kp=some c'):jg c code kp=.tu [gZ c',.d (.bool true)]:=by
 unfold mX at h;unfold jg;cases h1:decide ((c.tr.length:Int)-1<max kp 0)<;>rw[h1]at h<;>simp only[δ,ε]at h⊢
 .split at h
  .cases h
  .rename_i t ht;rw[ht];simp only;cases h2:qt c t<;>rw[h2]at h<;>simp only[δ,ε]at h⊢<;>cases h;rfl
 .cases h
theorem xr{c:Co}{code kp:Int}(h:mX c code kp=none):jg c code kp=.tu [gZ c,.d (.bool false)]:=by
 unfold mX at h;unfold jg;cases h1:decide ((c.tr.length:Int)-1<max kp 0)<;>rw[h1]at h<;>simp only[δ,ε]at h⊢;split at h
 .rename_i ht;rw[ht]
 .rename_i t ht;rw[ht];simp only;cases h2:qt c t<;>rw[h2]at h<;>simp only[δ,ε]at h⊢;cases h
def raise(c:Co)(code kp:Int):Co×Ou:=match mX c code kp with
 |some c'=>(c',cD)
 |none=>(c,failed code)
theorem ry(c:Co)(code kp:Int)(hf:c.fr.length<1000000000)(hs:c.st.length<1000000000):Z0 109 [gZ c,.d (.int .i64 code),.d (.int .i64 kp)] (.tu [gZ (raise c code kp).1,ux (raise c code kp).2]):=by
 have h:=Kg c code kp hf hs;refine sh0 Tryz.f109 ?_;cases ht:mX c code kp with
 |some c'=>
  rw[xq ht]at h;simp only[raise,ht]
  exact zj1 h
 |none=>
  rw[xr ht]at h;simp only[raise,ht]
  repeat' ((conv=>whnf);first|exact zf|refine zm ?_|refine zc h ?_|refine zc (nV code) ?_|intro _)
structure FN(im:Im):Prop where
  args:∀(i:Nat)(g:Fn),im.fs[i]?=some g->eK .i64 g.args
def fit(im:Im)(c:Co):Option Op:=
 match c.fr.getLast? with
 |none=>none
 |some f=>bif within f.fu im.fs.length then(match im.fs[f.fu.toNat]? with
  |none=>none
  |some fn=>bif within f.pc fn.code.length then(match fn.code[f.pc.toNat]? with
   |none=>none
   |some o=>bif jN o&&(fS im f fn o&&ez c (fL im o))then some o else none)else none)else none
def mB(im:Im)(c:Co):V:=match fit im c with
 |some o=>.tu [Bc o,.d (.bool true)]
 |none=>.tu [Bc o0,.d (.bool false)]
theorem within_iff{n m:Int}:within n m=true<->0<=n/\n<m:=by simp[within]
theorem pX{im:Im}{f:Fr}{fn:Fn}{o:Op}(hc:o.c=17)(h:fS im f fn o=true):within o.a im.fs.length=true:=by
 unfold fS at h;rw[hc]at h;have:inf 17=some ⟨[99,97,108,108],4,0,1⟩:=rfl;rw[this]at h;exact h
set_option maxRecDepth 100000 in
theorem mL (im:Im) (c:Co) (hI:FN im) (hs:c.st.length<1000000000):Z0 105 [x4 im,gZ c] (mB im c):=by
  cases hl:c.fr.getLast? with
  |none=>
    have hz:c.fr=[]:=by simpa using hl
    have hr:mB im c=.tu [Bc o0,.d (.bool false)]:=by simp only[mB,fit,hl]
    rw[hr]
    refine sh0 Tryz.f105 ?_
    repeat' ((conv=>whnf);first|exact zf|refine zm ?_|intro _)
    refine aW (λhb=>?_) (λhb=>absurd hb (by simp[hz]))
    exact zj0
  |some f=>
    have hlen:0<c.fr.length:=by
      cases h:c.fr with
      |nil=>rw[h]at hl;cases hl
      |cons=>simp
    have hne:c.fr≠[]:=λe=>by simp[e]at hlen
    have hf1:c.fr[c.fr.length-1]?=some f:=by rw[dS]at hl;exact hl
    have hrow:(c.fr.map bS)[c.fr.length-1]?=some (bS f):=by simp[hf1]
    have w1:=lC f.fu (im.fs.map dc).length
    have e1:within f.fu (im.fs.map dc).length=within f.fu im.fs.length:=by rw[aH]
    rw[e1]at w1
    cases h1:within f.fu im.fs.length with
    |false=>
      have hr:mB im c=.tu [Bc o0,.d (.bool false)]:=by simp only[mB,fit,hl,h1,ε]
      rw[hr]
      rw[h1]at w1
      refine sh0 Tryz.f105 ?_
      repeat' ((conv=>whnf);first|exact zf|refine zm ?_|intro _)
      refine aW (λhb=>absurd hb (by simp[hne])) (λhb=>?_)
      repeat' ((conv=>whnf);first|exact zf|refine zm ?_|intro _)
      refine⟨bS f,⟨by simp;omega,by simp[hf1],rfl⟩,?_⟩
      exact zj1 w1
    |true=>
      obtain⟨g1,g2⟩:=within_iff.1 h1
      obtain⟨fn,hfn⟩:∃fn,im.fs[f.fu.toNat]?=some fn:=⟨_,aA (by omega)⟩
      rw[h1]at w1
      have w2:=lC f.pc (fn.code.map dO).length
      have e2:within f.pc (fn.code.map dO).length=within f.pc fn.code.length:=by rw[aH]
      rw[e2]at w2
      have hrow2:(im.fs.map dc)[f.fu.toNat]?=some (dc fn):=by simp[hfn]
      cases h2:within f.pc fn.code.length with
      |false=>
        have hr:mB im c=.tu [Bc o0,.d (.bool false)]:=by simp only[mB,fit,hl,h1,δ,hfn,h2,ε]
        rw[hr]
        rw[h2]at w2
        refine sh0 Tryz.f105 ?_
        repeat' ((conv=>whnf);first|exact zf|refine zm ?_|intro _)
        refine aW (λhb=>absurd hb (by simp[hne])) (λhb=>?_)
        repeat' ((conv=>whnf);first|exact zf|refine zm ?_|intro _)
        refine⟨bS f,⟨by simp;omega,by simp[hf1],rfl⟩,?_⟩
        repeat' ((conv=>whnf);first|exact zf|refine zm ?_|refine zc w1 ?_|intro _)
        refine⟨dc fn,⟨g1,hrow2,rfl⟩,?_⟩
        exact zj1 w2
      |true=>
        obtain⟨g3,g4⟩:=within_iff.1 h2
        obtain⟨o,ho⟩:∃o,fn.code[f.pc.toNat]?=some o:=⟨_,aA (by omega)⟩
        have hrow3:(fn.code.map dO)[f.pc.toNat]?=some (dO o):=by simp[ho]
        rw[h2]at w2
        have w3:=LL o
        have w4:=Dz im f fn o g1 hfn
        have hfit:fit im c=bif jN o&&(fS im f fn o&&ez c (fL im o))then some o else none:=by simp only[fit,hl,h1,δ,hfn,h2,ho]
        cases h3:jN o with
        |false=>
          have hr:mB im c=.tu [Bc o0,.d (.bool false)]:=by simp only[mB,hfit,h3,nU,ε]
          rw[hr]
          rw[h3]at w3
          refine sh0 Tryz.f105 ?_
          repeat' ((conv=>whnf);first|exact zf|refine zm ?_|intro _)
          refine aW (λhb=>absurd hb (by simp[hne])) (λhb=>?_)
          repeat' ((conv=>whnf);first|exact zf|refine zm ?_|intro _)
          refine⟨bS f,⟨by simp;omega,by simp[hf1],rfl⟩,?_⟩
          repeat' ((conv=>whnf);first|exact zf|refine zm ?_|refine zc w1 ?_|intro _)
          refine⟨dc fn,⟨g1,hrow2,rfl⟩,?_⟩
          repeat' ((conv=>whnf);first|exact zf|refine zm ?_|refine zc w2 ?_|intro _)
          refine⟨dO o,⟨g3,hrow3,rfl⟩,?_⟩
          exact zj1 w3
        |true=>
          rw[h3]at w3
          cases h4:fS im f fn o with
          |false=>
            have hr:mB im c=.tu [Bc o0,.d (.bool false)]:=by simp only[mB,hfit,h3,h4,nU,Bool.and_false,ε]
            rw[hr]
            rw[h4]at w4
            refine sh0 Tryz.f105 ?_
            repeat' ((conv=>whnf);first|exact zf|refine zm ?_|intro _)
            refine aW (λhb=>absurd hb (by simp[hne])) (λhb=>?_)
            repeat' ((conv=>whnf);first|exact zf|refine zm ?_|intro _)
            refine⟨bS f,⟨by simp;omega,by simp[hf1],rfl⟩,?_⟩
            repeat' ((conv=>whnf);first|exact zf|refine zm ?_|refine zc w1 ?_|intro _)
            refine⟨dc fn,⟨g1,hrow2,rfl⟩,?_⟩
            repeat' ((conv=>whnf);first|exact zf|refine zm ?_|refine zc w2 ?_|intro _)
            refine⟨dO o,⟨g3,hrow3,rfl⟩,?_⟩
            exact zj2 w3 w4
          |true=>
            rw[h4]at w4
            have w5:=Bt im o (λhc=>by
              obtain⟨k1,k2⟩:=within_iff.1 (pX hc h4)
              obtain⟨g,hg⟩:∃g,im.fs[o.a.toNat]?=some g:=⟨_,aA (by omega)⟩
              exact⟨g,k1,hg,hI.args _ _ hg⟩)
            have w6:=yM c (fL im o) hs
            cases h5:ez c (fL im o) with
            |false=>
              have hr:mB im c=.tu [Bc o0,.d (.bool false)]:=by simp only[mB,hfit,h3,h4,h5,Bool.and_false,ε]
              rw[hr]
              rw[rz h5]at w6
              refine sh0 Tryz.f105 ?_
              repeat' ((conv=>whnf);first|exact zf|refine zm ?_|intro _)
              refine aW (λhb=>absurd hb (by simp[hne])) (λhb=>?_)
              repeat' ((conv=>whnf);first|exact zf|refine zm ?_|intro _)
              refine⟨bS f,⟨by simp;omega,by simp[hf1],rfl⟩,?_⟩
              repeat' ((conv=>whnf);first|exact zf|refine zm ?_|refine zc w1 ?_|intro _)
              refine⟨dc fn,⟨g1,hrow2,rfl⟩,?_⟩
              repeat' ((conv=>whnf);first|exact zf|refine zm ?_|refine zc w2 ?_|intro _)
              refine⟨dO o,⟨g3,hrow3,rfl⟩,?_⟩
              repeat' ((conv=>whnf);first|exact zf|refine zm ?_|refine zc w3 ?_|refine zc w4 ?_|refine zc w5 ?_|refine zc w6 ?_|intro _)
            |true=>
              have hr:mB im c=.tu [Bc o,.d (.bool true)]:=by simp only[mB,hfit,h3,h4,h5,dz,δ]
              rw[hr]
              rw[lH h5]at w6
              refine sh0 Tryz.f105 ?_
              repeat' ((conv=>whnf);first|exact zf|refine zm ?_|intro _)
              refine aW (λhb=>absurd hb (by simp[hne])) (λhb=>?_)
              repeat' ((conv=>whnf);first|exact zf|refine zm ?_|intro _)
              refine⟨bS f,⟨by simp;omega,by simp[hf1],rfl⟩,?_⟩
              repeat' ((conv=>whnf);first|exact zf|refine zm ?_|refine zc w1 ?_|intro _)
              refine⟨dc fn,⟨g1,hrow2,rfl⟩,?_⟩
              repeat' ((conv=>whnf);first|exact zf|refine zm ?_|refine zc w2 ?_|intro _)
              refine⟨dO o,⟨g3,hrow3,rfl⟩,?_⟩
              repeat' ((conv=>whnf);first|exact zf|refine zm ?_|refine zc w3 ?_|refine zc w4 ?_|refine zc w5 ?_|refine zc w6 ?_|intro _)
structure Mh where
  im:Im
  gF:Co
  o:Op
  fr:Int
  tr:Int
def iV(m:Mh)(c0:V)(st:List Va)(ts:List Tr)(tk:V)(u:Ou)(wr:Bool)(cd:Int):List V:=
  [.d (.sl 5 (m.im.cs.map cE)), .d (.sl 3 (m.im.fs.map dc)), .d (.sl 5 (m.gF.fr.map bS)), .d (.sl 5 (m.gF.st.map cE)), .d (.sl 3 (m.gF.tr.map eF)),
   c0,.d (.sl 5 (st.map cE)),.d (.sl 3 (ts.map eF)),.d (.int .i64 m.o.c),.d (.int .i64 m.o.a),tk,.d (.int .i64 m.fr),.d (.int .i64 m.tr),
   .d (.int .i64 u.k),.d (.int .i64 u.v.k),.d (.int .i64 u.v.n),.d (.str u.v.nm),.d (.str u.v.ls),.d (.str u.v.li),.d (.int .i64 u.o.c),.d (.int .i64 u.o.a),.d (.bool wr),.d (.int .i64 cd)]
def hT(l:List Va):V:=.d (.sl 5 (l.map cE))
theorem vC{K:KT}(m:Mh)(st:List Va)(ts:List Tr)(tk:List Va)(u:Ou)(wr:Bool)(cd:Int)(rows:List (List D))(hr:0<rows.length)(hl:rows.length<1000000000)
  (hk:K (.ret (.q 1 5 ((rows.length:Int)-1).toNat 0)) [.cells (iV m (.os 1) st ts (hT tk) u wr cd),.rows 5 rows]) :
  Z1 167 [.p 0 0] [.cells (iV m (.os 1) st ts (hT tk) u wr cd),.rows 5 rows] K:=by
 refine sh0 Tryz.f167 ?_
 exact zh0 hk
theorem lz{K:KT}(m:Mh)(st:List Va)(ts:List Tr)(tk:List Va)(u:Ou)(wr:Bool)(cd:Int)(fs:List Fr)(v:Va)(hs:st.length<1000000000)
  (hk:K (.ret (.tu [])) [.cells (iV m (.d (.sl 5 (fs.map bS))) (st++[v]) ts (hT tk) u wr cd),.no]) :
  Z1 214 [.p 0 0,j7 v] [.cells (iV m (.os 1) st ts (hT tk) u wr cd),.rows 5 (fs.map bS)] K:=by
 refine sh0 Tryz.f214 ?_
 repeat' ((conv=>whnf);first|exact zf|refine iy [1] ?_|refine zm ?_|refine zc (sx ⟨fs,st,ts⟩ v hs) ?_|intro _)
 exact hk
theorem Ar{K:KT}(m:Mh)(st:List Va)(ts:List Tr)(tk:List Va)(u:Ou)(wr:Bool)(cd:Int)(fs:List Fr)(v:Va)(hs:st.length<1000000000)
  (hk:K (.ret (.tu [])) [.cells (iV m (.d (.sl 5 (fs.map bS))) (st++[v]) ts (hT tk) u wr cd)]) :
  Z1 214 [.p 0 0,j7 v] [.cells (iV m (.d (.sl 5 (fs.map bS))) st ts (hT tk) u wr cd)] K:=by
 refine sh0 Tryz.f214 ?_
 repeat' ((conv=>whnf);first|exact zf|refine zm ?_|refine zc (sx ⟨fs,st,ts⟩ v hs) ?_|intro _)
 exact hk
theorem nL{K:KT}(m:Mh)(st:List Va)(ts:List Tr)(tk:List Va)(u:Ou)(wr:Bool)(cd:Int)(rows:List (List D))(n:Int)
  (hk:K (.ret (.tu [])) [.cells (iV m (.os 1) st ts (hT tk) u true n),.rows 5 rows]) :
  Z1 218 [.p 0 0,.d (.int .i64 n)] [.cells (iV m (.os 1) st ts (hT tk) u wr cd),.rows 5 rows] K:=by
 refine sh0 Tryz.f218 ?_
 exact zh0 hk
def Q9(m:Mh):List V:=
  [.d (.sl 5 (m.im.cs.map cE)), .d (.sl 3 (m.im.fs.map dc)), .d (.sl 5 (m.gF.fr.map bS)), .d (.sl 5 (m.gF.st.map cE)), .d (.sl 3 (m.gF.tr.map eF)),
   .nl 5,.nl 5,.nl 3,.d (.int .i64 m.o.c),.d (.int .i64 m.o.a),.nl 5,.d (.int .i64 m.fr),.d (.int .i64 m.tr),
   .d (.int .i64 0),.d (.int .i64 0),.d (.int .i64 0),.d (.str []),.d (.str []),.d (.str []),.d (.int .i64 0),.d (.int .i64 0),.d (.bool false),.d (.int .i64 0)]
structure PH(m:Mh)(f:Fr):Prop where
  hl:m.gF.fr.getLast?=some f
  lf:m.gF.fr.length<1000000000
  ls:m.gF.st.length<1000000000
  pc:0<=f.pc/\f.pc<9223372036854775807
  po:ez m.gF (fL m.im m.o)=true
  ca:m.o.c=17->∃g,0<=m.o.a/\m.im.fs[m.o.a.toNat]?=some g/\eK .i64 g.args
def bV(l:List Fr)(f:Fr):List Fr:=l.set (l.length-1) {f with pc:=f.pc+1}
def nW(m:Mh):List Va:=kf m.gF (fL m.im m.o)
def jP(m:Mh):List Va:=(rR m.gF (fL m.im m.o)).st
theorem oF{K:KT}(m:Mh)(f:Fr)(hr:PH m f)(hk:K (.ret (.tu [])) [.cells (iV m (.os 1) (jP m) m.gF.tr (hT (nW m)) cD false 0),.rows 5 ((bV m.gF.fr f).map bS)]) :
  Z1 108 [.p 0 0] [.cells (Q9 m)] K:=by
 have hne:0<m.gF.fr.length:=by
  cases h:m.gF.fr with
  |nil=>have:=hr.hl;rw[h]at this;cases this
  |cons=>simp
 have hf1:m.gF.fr[m.gF.fr.length-1]?=some f:=by have:=hr.hl;rw[dS]at this;exact this
 have htk:=Bt m.im m.o hr.ca;have hpop:=yM m.gF (fL m.im m.o) hr.ls;rw[lH hr.po]at hpop;have hlf:=hr.lf;have hpc:=hr.pc;refine sh0 Tryz.f108 ?_
 repeat' ((conv=>whnf);first|exact zf|refine zm ?_|refine zc htk ?_|refine zc hpop ?_|refine sK (m.gF.fr.map bS) (by simp;omega) ?_|refine zr0 ?_|refine vC m (jP m) m.gF.tr (nW m) cD false 0 _ (by simp;omega) (by simp;omega) ?_|intro _)
 have hrow:(m.gF.fr.map bS)[(((m.gF.fr.map bS).length:Int)-1).toNat]?=some (bS f):=by
  rw[aB,aH];have e:((m.gF.fr.length:Int)-1).toNat=m.gF.fr.length-1:=by omega
  rw[e,hf1];rfl
 have hset:(m.gF.fr.map bS).set (((m.gF.fr.map bS).length:Int)-1).toNat (bS {f with pc:=f.pc+1})=(bV m.gF.fr f).map bS:=by
  rw[bV,fX,aH];congr 1;omega
 refine⟨bS f,hrow,?_⟩
 repeat' ((conv=>whnf);first|exact zf|refine zm ?_|intro _)
 refine⟨bS f,hrow,⟨rfl,rfl,rfl⟩,?_⟩
 repeat' ((conv=>whnf);first|exact zf|refine zm ?_|intro _)
 rw[<-hset]at hk;exact hk
def FF(f:Nat)(vs:List V)(m:Mh)(st st':List Va)(ts:List Tr)(tk:List Va)(bY:List Fr):Prop:=
 ∀K:Out->H->Prop,K (.ret (.tu [])) [.cells [.p 1 0],.cells (iV m (.d (.sl 5 (bY.map bS))) st' ts (hT tk) cD false 0),.no] ->
  Z1 f (vs++[.p 0 0]) [.cells [.p 1 0],.cells (iV m (.os 2) st ts (hT tk) cD false 0),.rows 5 (bY.map bS)] K
def vt(f:Nat)(vs:List V)(m:Mh)(st:List Va)(ts:List Tr)(tk:List Va)(bY frs':List Fr)(wr:Bool)(cd:Int):Prop:=
 ∀K:Out->H->Prop,K (.ret (.tu [])) [.cells [.p 1 0],.cells (iV m (.os 2) st ts (hT tk) cD wr cd),.rows 5 (frs'.map bS)] ->
  Z1 f (vs++[.p 0 0]) [.cells [.p 1 0],.cells (iV m (.os 2) st ts (hT tk) cD false 0),.rows 5 (bY.map bS)] K
theorem AB{K:KT}(f:Nat)(hf:Nat.blt f 1000000=true)(m:Mh)(st st':List Va)(ts:List Tr)(a b:Va)(kd:Int)(bY:List Fr)(ha:a.k=kd)(hb:b.k=kd)(hS:FF f [j7 a,j7 b] m st st' ts [a,b] bY)
  (hk:K (.ret (.tu [])) [.cells (iV m (.d (.sl 5 (bY.map bS))) st' ts (hT [a,b]) cD false 0),.no,.cells [.p 0 0]]) :
  Z1 215 [.p 0 0,.d (.int .i64 kd),.fc f [.p 2 0]] [.cells (iV m (.os 1) st ts (hT [a,b]) cD false 0),.rows 5 (bY.map bS),.cells [.p 0 0]] K:=by
 refine sh0 Tryz.f215 ?_
 repeat' ((conv=>whnf);first|exact zf|refine zm ?_|refine⟨_,⟨by decide,rfl,rfl⟩,?_⟩|refine⟨_,rfl,?_⟩|intro _)
 refine aW (λh=>absurd h (by simp[ha])) (λh=>?_)
 repeat' ((conv=>whnf);first|exact zf|refine zm ?_|refine⟨_,⟨by decide,rfl,rfl⟩,?_⟩|refine⟨_,rfl,?_⟩|intro _)
 refine aW (λh=>absurd h (by simp[hb])) (λh=>?_)
 repeat' ((conv=>whnf);first|exact zf|refine zm ?_|refine⟨_,⟨by decide,rfl,rfl⟩,?_⟩|refine⟨_,rfl,?_⟩|intro _)
 conv=>whnf
 rw[hf]
 repeat' ((conv=>whnf);first|exact zf|refine zm ?_|refine zr0 ?_|refine hS _ ?_|intro _)
 exact hk
theorem PY{K:KT}(f:Nat)(hf:Nat.blt f 1000000=true)(m:Mh)(st:List Va)(ts:List Tr)(a b:Va)(kd:Int)(bY frs':List Fr)(wr:Bool)(cd:Int)(ha:a.k=kd)(hb:b.k=kd)(hS:vt f [j7 a,j7 b] m st ts [a,b] bY frs' wr cd)
  (hk:K (.ret (.tu [])) [.cells (iV m (.os 1) st ts (hT [a,b]) cD wr cd),.rows 5 (frs'.map bS),.cells [.p 0 0]]) :
  Z1 215 [.p 0 0,.d (.int .i64 kd),.fc f [.p 2 0]] [.cells (iV m (.os 1) st ts (hT [a,b]) cD false 0),.rows 5 (bY.map bS),.cells [.p 0 0]] K:=by
 refine sh0 Tryz.f215 ?_
 repeat' ((conv=>whnf);first|exact zf|refine zm ?_|refine⟨_,⟨by decide,rfl,rfl⟩,?_⟩|refine⟨_,rfl,?_⟩|intro _)
 refine aW (λh=>absurd h (by simp[ha])) (λh=>?_)
 repeat' ((conv=>whnf);first|exact zf|refine zm ?_|refine⟨_,⟨by decide,rfl,rfl⟩,?_⟩|refine⟨_,rfl,?_⟩|intro _)
 refine aW (λh=>absurd h (by simp[hb])) (λh=>?_)
 repeat' ((conv=>whnf);first|exact zf|refine zm ?_|refine⟨_,⟨by decide,rfl,rfl⟩,?_⟩|refine⟨_,rfl,?_⟩|intro _)
 conv=>whnf
 rw[hf]
 repeat' ((conv=>whnf);first|exact zf|refine zm ?_|refine zr0 ?_|refine hS _ ?_|intro _)
 exact hk
theorem AA{K:KT}(f:Nat)(m:Mh)(st:List Va)(ts:List Tr)(a b:Va)(kd:Int)(bY:List Fr)(hab:¬(a.k=kd/\b.k=kd))
  (hk:K (.ret (.tu [])) [.cells (iV m (.os 1) st ts (hT [a,b]) cD true (-1)),.rows 5 (bY.map bS),.cells [.p 0 0]]) :
  Z1 215 [.p 0 0,.d (.int .i64 kd),.fc f [.p 2 0]] [.cells (iV m (.os 1) st ts (hT [a,b]) cD false 0),.rows 5 (bY.map bS),.cells [.p 0 0]] K:=by
 refine sh0 Tryz.f215 ?_
 repeat' ((conv=>whnf);first|exact zf|refine zm ?_|refine⟨_,⟨by decide,rfl,rfl⟩,?_⟩|refine⟨_,rfl,?_⟩|intro _)
 refine aW (λh=>?_) (λh=>?_)
 .skip
  repeat' ((conv=>whnf);first|exact zf|refine zm ?_|refine zr0 ?_|refine nL m st ts [a,b] cD false 0 (bY.map bS) (-1) ?_|refine⟨_,⟨by decide,rfl,rfl⟩,?_⟩|refine⟨_,rfl,?_⟩|intro _)
  exact hk
 .skip
  repeat' ((conv=>whnf);first|exact zf|refine zm ?_|refine⟨_,⟨by decide,rfl,rfl⟩,?_⟩|refine⟨_,rfl,?_⟩|intro _)
  refine aW (λh2=>?_) (λh2=>absurd ⟨by simpa using h,by simpa using h2⟩ hab)
  repeat' ((conv=>whnf);first|exact zf|refine zm ?_|refine zr0 ?_|refine nL m st ts [a,b] cD false 0 (bY.map bS) (-1) ?_|refine⟨_,⟨by decide,rfl,rfl⟩,?_⟩|refine⟨_,rfl,?_⟩|intro _)
  exact hk
theorem QP{K:KT}(f:Nat)(hf:Nat.blt f 1000000=true)(m:Mh)(st st':List Va)(ts:List Tr)(a:Va)(kd:Int)(bY:List Fr)(ha:a.k=kd)(hS:FF f [j7 a] m st st' ts [a] bY)
  (hk:K (.ret (.tu [])) [.cells (iV m (.d (.sl 5 (bY.map bS))) st' ts (hT [a]) cD false 0),.no,.cells [.p 0 0]]) :
  Z1 220 [.p 0 0,.d (.int .i64 kd),.fc f [.p 2 0]] [.cells (iV m (.os 1) st ts (hT [a]) cD false 0),.rows 5 (bY.map bS),.cells [.p 0 0]] K:=by
 refine sh0 Tryz.f220 ?_
 repeat' ((conv=>whnf);first|exact zf|refine zm ?_|refine⟨_,⟨by decide,rfl,rfl⟩,?_⟩|refine⟨_,rfl,?_⟩|intro _)
 refine aW (λh=>absurd h (by simp[ha])) (λh=>?_)
 repeat' ((conv=>whnf);first|exact zf|refine zm ?_|refine⟨_,⟨by decide,rfl,rfl⟩,?_⟩|refine⟨_,rfl,?_⟩|intro _)
 conv=>whnf
 rw[hf]
 repeat' ((conv=>whnf);first|exact zf|refine zm ?_|refine zr0 ?_|refine hS _ ?_|intro _)
 exact hk
theorem Ab{K:KT}(f:Nat)(hf:Nat.blt f 1000000=true)(m:Mh)(st:List Va)(ts:List Tr)(a:Va)(kd:Int)(bY frs':List Fr)(wr:Bool)(cd:Int)(ha:a.k=kd)(hS:vt f [j7 a] m st ts [a] bY frs' wr cd)
  (hk:K (.ret (.tu [])) [.cells (iV m (.os 1) st ts (hT [a]) cD wr cd),.rows 5 (frs'.map bS),.cells [.p 0 0]]) :
  Z1 220 [.p 0 0,.d (.int .i64 kd),.fc f [.p 2 0]] [.cells (iV m (.os 1) st ts (hT [a]) cD false 0),.rows 5 (bY.map bS),.cells [.p 0 0]] K:=by
 refine sh0 Tryz.f220 ?_
 repeat' ((conv=>whnf);first|exact zf|refine zm ?_|refine⟨_,⟨by decide,rfl,rfl⟩,?_⟩|refine⟨_,rfl,?_⟩|intro _)
 refine aW (λh=>absurd h (by simp[ha])) (λh=>?_)
 repeat' ((conv=>whnf);first|exact zf|refine zm ?_|refine⟨_,⟨by decide,rfl,rfl⟩,?_⟩|refine⟨_,rfl,?_⟩|intro _)
 conv=>whnf
 rw[hf]
 repeat' ((conv=>whnf);first|exact zf|refine zm ?_|refine zr0 ?_|refine hS _ ?_|intro _)
 exact hk
theorem Aa{K:KT}(f:Nat)(m:Mh)(st:List Va)(ts:List Tr)(a:Va)(kd:Int)(bY:List Fr)(ha:¬a.k=kd)
  (hk:K (.ret (.tu [])) [.cells (iV m (.os 1) st ts (hT [a]) cD true (-1)),.rows 5 (bY.map bS),.cells [.p 0 0]]) :
  Z1 220 [.p 0 0,.d (.int .i64 kd),.fc f [.p 2 0]] [.cells (iV m (.os 1) st ts (hT [a]) cD false 0),.rows 5 (bY.map bS),.cells [.p 0 0]] K:=by
 refine sh0 Tryz.f220 ?_
 repeat' ((conv=>whnf);first|exact zf|refine zm ?_|refine⟨_,⟨by decide,rfl,rfl⟩,?_⟩|refine⟨_,rfl,?_⟩|intro _)
 refine aW (λh=>?_) (λh=>absurd (by simpa using h) ha)
 repeat' ((conv=>whnf);first|exact zf|refine zm ?_|refine zr0 ?_|refine nL m st ts [a] cD false 0 (bY.map bS) (-1) ?_|refine⟨_,⟨by decide,rfl,rfl⟩,?_⟩|refine⟨_,rfl,?_⟩|intro _)
 exact hk
def K5(n:Int):Int:=IntKind.i64.wrap n
def U2(b:Bool):Int:=bif b then 1 else 0
theorem xo(b:Bool):Z0 318 [.d (.bool b)] (.d (.int .i64 (U2 b))):=by
 refine sh0 Tryz.f318 ?_;cases b<;>skip
 .exact zj0
 .exact zj0
def lq(n:Int):V:=.tu [.d (.int .i64 n),.d (.bool true)]
theorem Re(a b:Int):Z0 312 [.d (.int .i64 a),.d (.int .i64 b)] (lq (K5 (a+b))):=by
 refine sh0 Tryz.f312 ?_
 repeat' ((conv=>whnf);first|exact zf|refine zm ?_|refine .inr ?_|intro _)
theorem P4(a b:Int):Z0 313 [.d (.int .i64 a),.d (.int .i64 b)] (lq (K5 (a-b))):=by
 refine sh0 Tryz.f313 ?_
 repeat' ((conv=>whnf);first|exact zf|refine zm ?_|refine .inr ?_|intro _)
theorem Q7(a b:Int):Z0 314 [.d (.int .i64 a),.d (.int .i64 b)] (lq (K5 (a*b))):=by
 refine sh0 Tryz.f314 ?_
 repeat' ((conv=>whnf);first|exact zf|refine zm ?_|refine .inr ?_|intro _)
def qR:V:=.tu [.d (.int .i64 0),.d (.bool false)]
theorem RE(a b:Int):Z0 315 [.d (.int .i64 a),.d (.int .i64 b)] (bif b==0 then qR else lq (K5 (a.tdiv b))):=by
 refine sh0 Tryz.f315 ?_;cases h:(b==0) with
 |true=>
  repeat' ((conv=>whnf);first|exact zf|refine zm ?_|intro _)
  refine aW (λ_=>?_) (λh2=>by rw[h]at h2;cases h2)
  exact zj0
 |false=>
  repeat' ((conv=>whnf);first|exact zf|refine zm ?_|intro _)
  refine aW (λh2=>by rw[h]at h2;cases h2) (λ_=>?_)
  conv=>whnf
  refine⟨by simpa using h,.inr ?_⟩
  exact zj0
theorem Pu(a b:Int):Z0 316 [.d (.int .i64 a),.d (.int .i64 b)] (bif b==0 then qR else lq (a.tmod b)):=by
 refine sh0 Tryz.f316 ?_;cases h:(b==0) with
 |true=>
  repeat' ((conv=>whnf);first|exact zf|refine zm ?_|intro _)
  refine aW (λ_=>?_) (λh2=>by rw[h]at h2;cases h2)
  exact zj0
 |false=>
  repeat' ((conv=>whnf);first|exact zf|refine zm ?_|intro _)
  refine aW (λh2=>by rw[h]at h2;cases h2) (λ_=>?_)
  conv=>whnf
  refine⟨by simpa using h,?_⟩
  exact zj0
theorem UL(a b:Int):Z0 317 [.d (.int .i64 a),.d (.int .i64 b)] (lq (U2 (a==b))):=by
 refine sh0 Tryz.f317 ?_
 repeat' ((conv=>whnf);first|exact zf|refine zm ?_|refine zc (xo _) ?_|intro _)
theorem Tv(a b:Int):Z0 319 [.d (.int .i64 a),.d (.int .i64 b)] (lq (U2 (decide (a<b)))):=by
 refine sh0 Tryz.f319 ?_
 repeat' ((conv=>whnf);first|exact zf|refine zm ?_|refine zc (xo _) ?_|intro _)
def V1:List (V×V):=[(.d (.int .i64 7),.d (.fn 312)),(.d (.int .i64 8),.d (.fn 313)),(.d (.int .i64 9),.d (.fn 314)),(.d (.int .i64 10),.d (.fn 315)),(.d (.int .i64 11),.d (.fn 316)),(.d (.int .i64 12),.d (.fn 317)),(.d (.int .i64 13),.d (.fn 319))]
theorem lp{K:KT}(hk:K (.ret (.mp 0)) [.mp V1]):Z1 276 [] [] K:=by
 refine si0 Tryz.f276 ?_
 repeat' ((conv=>whnf);first|exact zf|refine zm ?_|refine⟨_,rfl,?_⟩|intro _)
 exact hk
def p5(c a b:Int):V:=
 bif c==7 then lq (K5 (a+b))else bif c==8 then lq (K5 (a-b))else bif c==9 then lq (K5 (a*b))else bif c==10 then(bif b==0 then qR else lq (K5 (a.tdiv b)))
 else bif c==11 then(bif b==0 then qR else lq (a.tmod b))else bif c==12 then lq (U2 (a==b))else lq (U2 (decide (a<b)))
theorem UQ(c a b:Int)(hc:7<=c/\c<=13):Z0 217 [.d (.int .i64 c),.d (.int .i64 a),.d (.int .i64 b)] (p5 c a b):=by
 have h7:c=7\/c=8\/c=9\/c=10\/c=11\/c=12\/c=13:=by omega
 rcases h7 with rfl|rfl|rfl|rfl|rfl|rfl|rfl
 .refine sh0 Tryz.f217 ?_
  repeat' ((conv=>whnf);first|exact zf|refine zm ?_|refine zc (Re a b) ?_|refine lp ?_|refine⟨_,rfl,?_⟩|intro _)
 .refine sh0 Tryz.f217 ?_
  repeat' ((conv=>whnf);first|exact zf|refine zm ?_|refine zc (P4 a b) ?_|refine lp ?_|refine⟨_,rfl,?_⟩|intro _)
 .refine sh0 Tryz.f217 ?_
  repeat' ((conv=>whnf);first|exact zf|refine zm ?_|refine zc (Q7 a b) ?_|refine lp ?_|refine⟨_,rfl,?_⟩|intro _)
 .refine sh0 Tryz.f217 ?_;have h:=RE a b;cases hb:(b==0) with
  |true=>
   have e:p5 10 a b=qR:=by show(bif b==0 then qR else _)=_;rw[hb];rfl
   rw[e];rw[hb]at h
   repeat' ((conv=>whnf);first|exact zf|refine zm ?_|refine zc h ?_|refine lp ?_|refine⟨_,rfl,?_⟩|intro _)
  |false=>
   have e:p5 10 a b=lq (K5 (a.tdiv b)):=by show(bif b==0 then qR else _)=_;rw[hb];rfl
   rw[e];rw[hb]at h
   repeat' ((conv=>whnf);first|exact zf|refine zm ?_|refine zc h ?_|refine lp ?_|refine⟨_,rfl,?_⟩|intro _)
 .refine sh0 Tryz.f217 ?_;have h:=Pu a b;cases hb:(b==0) with
  |true=>
   have e:p5 11 a b=qR:=by show(bif b==0 then qR else _)=_;rw[hb];rfl
   rw[e];rw[hb]at h
   repeat' ((conv=>whnf);first|exact zf|refine zm ?_|refine zc h ?_|refine lp ?_|refine⟨_,rfl,?_⟩|intro _)
  |false=>
   have e:p5 11 a b=lq (a.tmod b):=by show(bif b==0 then qR else _)=_;rw[hb];rfl
   rw[e];rw[hb]at h
   repeat' ((conv=>whnf);first|exact zf|refine zm ?_|refine zc h ?_|refine lp ?_|refine⟨_,rfl,?_⟩|intro _)
 .refine sh0 Tryz.f217 ?_
  repeat' ((conv=>whnf);first|exact zf|refine zm ?_|refine zc (UL a b) ?_|refine lp ?_|refine⟨_,rfl,?_⟩|intro _)
 .refine sh0 Tryz.f217 ?_
  repeat' ((conv=>whnf);first|exact zf|refine zm ?_|refine zc (Tv a b) ?_|refine lp ?_|refine⟨_,rfl,?_⟩|intro _)
def wG(l:Lb):Lb:=⟨l.s.take 4,l.i.take 4⟩
theorem Kw(l:Lb):Z0 76 [je l] (je (wG l)):=by
 refine sh0 Tryz.f76 ?_
 repeat' ((conv=>whnf);first|exact zf|refine zm ?_|intro _)
 have e:∀l:List UInt8,(l.take (min (l.length:Int) 4).toNat).drop (0:Int).toNat=l.take 4:=by
  intro l;show l.take (min (l.length:Int) 4).toNat=_;rcases de l.length 4 with h|h
  .rw[cu (by omega),cu (by omega)]
  .congr 1;omega
 show Out.ret (V.ag [.d (.str ((l.s.take (min (l.s.length:Int) 4).toNat).drop (0:Int).toNat)),.d (.str ((l.i.take (min (l.i.length:Int) 4).toNat).drop (0:Int).toNat))])=_;rw[e,e];rfl
def iI:List (List UInt8):=[[48],[49],[48,46,48],[48,46,49],[50],[49,48],[49,46,48],[48,46,48,46,48]]
theorem CX:Z0 77 [] (.d (.sl 1 (iI.map λs=>[.str s]))):=by
 refine sh0 Tryz.f77 ?_
 exact zj0
theorem CH(l:Lb):Z0 122 [je l] (je l):=by
 refine sh0 Tryz.f122 ?_
 exact zj0
theorem w7(v:Va):Z0 123 [j7 v] (j7 v):=by
 have h1:=CH ⟨v.ls,v.li⟩;refine sh0 Tryz.f123 ?_
 exact zj1 h1
def iW:List Lb:=[⟨[],[]⟩,⟨[1],[]⟩,⟨[2],[]⟩,⟨[1,2],[]⟩,⟨[3],[]⟩,⟨[],[1]⟩,⟨[1],[1]⟩,⟨[0],[]⟩]
theorem HT:Z0 17 [] (.d (.sl 2 (iW.map lj))):=by
 refine sh0 Tryz.f17 ?_
 exact zj0
theorem xA:∀m∈iW,cL m:=by
 intro m hm;simp only[iW,af,cU,or_false]at hm;unfold cL AR;rcases hm with rfl|rfl|rfl|rfl|rfl|rfl|rfl|rfl<;>exact⟨by decide,by decide⟩
def mF(ar:Int):Va:=bif decide (60<ar)then⟨3+ar.tmod 5,0,(iI[((ar.tdiv 8).tmod 8).toNat]?).getD [],((iW[(ar.tdiv 64).toNat]?).getD oV).s,((iW[(ar.tdiv 64).toNat]?).getD oV).i⟩else num (ar.tmod 5)
def R3:List Int:=[7,7,3,1]
def Mz(l c:Int):Lb:=da ((iW[(l.tmod 8).toNat]?).getD oV) ((iW[((R3[(c.tmod 4).toNat]?).getD 0).toNat]?).getD oV)
def Jn(l c mk fn ar ro:Int):Th:=yW [51] ⟨(iW[(l.tmod 8).toNat]?).getD oV,Mz l c⟩ (gA ⟨[],[],[]⟩ (fn.tmod 3) 7 [mF ar] (mk.tmod 4)) (ro.tmod 16)
theorem tt{i:Int}(h:0<=i/\i<8):iW[i.toNat]?=some ((iW[i.toNat]?).getD oV):=by
 have:i.toNat<iW.length:=by show i.toNat<8;omega
 rw[aA this];rfl
theorem DN(l c mk fn ar ro:Int)(im:Im)(h1:0<=l/\l<=255)(h2:0<=c/\c<=255)(h3:0<=mk/\mk<=255)(h4:0<=fn/\fn<=255)(h5:0<=ar/\ar<=255)(h6:0<=ro/\ro<=255) :
  Z0 39 [.ag [.d (.int .u8 l),.d (.int .u8 c),.d (.int .u8 mk),.d (.int .u8 fn),.d (.int .u8 ar),.d (.int .u8 ro)],x4 im] (ep (Jn l c mk fn ar ro)):=by
 have m1:l.tmod 8=l % 8:=aw h1.1;have m2:c.tmod 4=c % 4:=aw h2.1;have m3:fn.tmod 3=fn % 3:=aw h4.1;have m4:mk.tmod 4=mk % 4:=aw h3.1;have m5:ar.tmod 5=ar % 5:=aw h5.1;have m6:ro.tmod 16=ro % 16:=aw h6.1;have d1:ar.tdiv 8=ar / 8:=Int.tdiv_eq_ediv_of_nonneg h5.1;have d2:ar.tdiv 64=ar / 64:=Int.tdiv_eq_ediv_of_nonneg h5.1;have m7:(ar.tdiv 8).tmod 8=ar / 8 % 8:=by rw[d1];exact aw (by omega)
 have g1:=tt (i:=l.tmod 8) (by omega);have g2:=tt (i:=ar.tdiv 64) (by omega);obtain⟨q,hq,hq2⟩:∃q,R3[(c.tmod 4).toNat]?=some q/\0<=q/\q<8:=by
  rw[m2];have:c % 4=0\/c % 4=1\/c % 4=2\/c % 4=3:=by omega
  rcases this with e|e|e|e<;>rw[e]<;>exact⟨_,rfl,by decide,by decide⟩
 have g3:=tt (i:=q) hq2;obtain⟨nm,hnm⟩:∃nm,iI[((ar.tdiv 8).tmod 8).toNat]?=some nm:=⟨_,aA (show((ar.tdiv 8).tmod 8).toNat<8 by omega)⟩
 have r1:(iW.map lj)[(l.tmod 8).toNat]?=some (lj ((iW[(l.tmod 8).toNat]?).getD oV)):=by rw[aB,g1];rfl
 have r3:(iW.map lj)[q.toNat]?=some (lj ((iW[q.toNat]?).getD oV)):=by rw[aB,g3];rfl
 have rq:(R3.map λx=>[D.int .i64 x])[(c.tmod 4).toNat]?=some [.int .i64 q]:=by rw[aB,hq];rfl
 have e1:Mz l c=da ((iW[(l.tmod 8).toNat]?).getD oV) ((iW[q.toNat]?).getD oV):=by unfold Mz;rw[hq];rfl
 have h24:=tZ ((iW[(l.tmod 8).toNat]?).getD oV) ((iW[q.toNat]?).getD oV) (xA _ (aJ g1)) (xA _ (aJ g3));have h20:∀a:Va,Z0 20 [gZ ⟨[],[],[]⟩,.d (.int .i64 (fn.tmod 3)),.d (.int .i64 7),.d (.sl 5 ([a].map cE)),.d (.int .u8 (mk.tmod 4))] (.tu [gZ (gA ⟨[],[],[]⟩ (fn.tmod 3) 7 [a] (mk.tmod 4)),.d (.bool true)]):=λa=>kV ⟨[],[],[]⟩ (fn.tmod 3) 7 [a] (mk.tmod 4) (by decide) (show 1<_ by decide);have h22:=Gy [51] ⟨(iW[(l.tmod 8).toNat]?).getD oV,Mz l c⟩ (gA ⟨[],[],[]⟩ (fn.tmod 3) 7 [mF ar] (mk.tmod 4)) (ro.tmod 16);rw[e1]at h22;unfold Jn;rw[e1]
 by_cases h60:60<ar
 .have ea:mF ar=⟨3+ar.tmod 5,0,nm,((iW[(ar.tdiv 64).toNat]?).getD oV).s,((iW[(ar.tdiv 64).toNat]?).getD oV).i⟩:=by
   unfold mF;rw[φ h60,δ,hnm];rfl
  rw[ea]at h22⊢;have h20':=h20 ⟨3+ar.tmod 5,0,nm,((iW[(ar.tdiv 64).toNat]?).getD oV).s,((iW[(ar.tdiv 64).toNat]?).getD oV).i⟩;have r2:(iW.map lj)[(ar.tdiv 64).toNat]?=some (lj ((iW[(ar.tdiv 64).toNat]?).getD oV)):=by rw[aB,g2];rfl
  have rn:(iI.map λs=>[D.str s])[((ar.tdiv 8).tmod 8).toNat]?=some [.str nm]:=by rw[aB,hnm];rfl
  refine sh0 Tryz.f39 ?_
  repeat' ((conv=>whnf);first|exact zf|refine zm ?_|refine zc HT ?_|refine zc CX ?_|refine⟨_,⟨by omega,r1,rfl⟩,?_⟩|refine⟨_,⟨by omega,rn,rfl⟩,?_⟩|refine⟨_,⟨by omega,r2,rfl⟩,?_⟩|refine⟨_,⟨by omega,rq,rfl⟩,?_⟩|refine⟨_,⟨by omega,r3,rfl⟩,?_⟩|refine zc h20' ?_|refine zc h24 ?_|refine zc h22 ?_|refine zt ?_|refine zu ?_|intro _)
 .have ea:mF ar=num (ar.tmod 5):=by
   unfold mF;rw[τ h60,ε]
  rw[ea]at h22⊢;have h20':=h20 (num (ar.tmod 5));refine sh0 Tryz.f39 ?_
  repeat' ((conv=>whnf);first|exact zf|refine zm ?_|refine zc HT ?_|refine⟨_,⟨by omega,r1,rfl⟩,?_⟩|refine⟨_,⟨by omega,rq,rfl⟩,?_⟩|refine⟨_,⟨by omega,r3,rfl⟩,?_⟩|refine zc h20' ?_|refine zc h24 ?_|refine zc h22 ?_|refine zt ?_|refine zu ?_|intro _)
theorem UZ(s:Gs)(l:Lb)(p:Int)(hs:jL s)(hl:cL l):Z0 293 [.e (rP s) 0,.e (lj l) 0,.e [.int .u8 p] 0] (.d (.bool (fh s.cur l p))):=by
 have h:=vO s.cur l p hs.1 hl;refine sh0 Tryz.f293 ?_
 exact zj1 h
theorem UY(s:Gs)(l:Lb)(p:Int)(hs:jL s)(hl:cL l):Z0 295 [.e (lj l) 0,.e (rP s) 0,.e [.int .u8 p] 0] (.d (.bool (fh l s.fo p))):=by
 have h:=vO l s.fo p hl hs.2;refine sh0 Tryz.f295 ?_
 exact zj1 h
def Vk(s:Gs)(l:Lb)(p:Int):Mu:=⟨293,[.pt (rP s) 0,.pt (lj l) 0,.pt [.int .u8 p] 0],fh s.cur l p,-3⟩
def Vj(s:Gs)(l:Lb)(p:Int):Mu:=⟨295,[.pt (lj l) 0,.pt (rP s) 0,.pt [.int .u8 p] 0],fh l s.fo p,-4⟩
def lT(s:Gs)(l:Lb)(p:Int):Int:=firstM [Vk s l p,vS s l]
def lL(s:Gs)(l:Lb)(p:Int):Int:=firstM [Vj s l p,y5 s l]
def vk(s:Gs)(l:Lb)(p:Int):Gs:=bif lT s l p==0 then⟨gT l,s.fo⟩else s
def vW(s:Gs)(l:Lb)(p:Int):Gs:=bif lL s l p==0 then⟨s.cur,gT l⟩else s
def uE(s:Gs)(l:Lb)(p:Int):Bool:=bif lT s l p==0 then !bI s.cur l else false
def tO(s:Gs)(l:Lb)(p:Int):Bool:=bif lL s l p==0 then !bI l s.fo else false
def Uv(s:Gs)(e:Int)(b:Bool):V:=.tu [FR s,.d (.int .i64 e),.d (.bool b)]
theorem MZ(s:Gs)(l:Lb)(p:Int)(hs:jL s)(hl:cL l):Z0 255 [FR s,je l,.d (.int .u8 p)] (Uv (vk s l p) (lT s l p) (uE s l p)):=by
 have h2:=mE s l;have h3:=nK [Vk s l p,vS s l] (by
  intro m hm;simp only[af,cU,or_false]at hm;rcases hm with rfl|rfl
  .exact⟨.inr ⟨_,_,_,.inl rfl,rfl⟩,UZ s l p hs hl⟩
  .exact wm s l hs hl)
 have h4:=jn l hl;have h5:=jc s.cur l hs.1 hl;have he:firstM [Vk s l p,vS s l]=lT s l p:=rfl;rw[he]at h3;unfold vk uE;refine sh0 Tryz.f255 ?_
 repeat' ((conv=>whnf);first|exact zf|refine(iy [0,1,2] ?_)|refine zm ?_|refine zc h2 ?_|refine zc h3 ?_|intro _)
 cases hb:lT s l p==0 with
 |true=>
  have hz:=eq_of_beq hb
  repeat' ((conv=>whnf);first|exact zf|refine zm ?_|refine zc h4 ?_|refine zc h5 ?_|refine zt ?_|refine zu ?_|intro _)
  show Out.ret (Uv ⟨gT l,s.fo⟩ 0 (!bI s.cur l))=_;rw[hz];rfl
 |false=>
  exact zk0
theorem Lo(s:Gs)(l:Lb)(p:Int)(hs:jL s)(hl:cL l):Z0 257 [FR s,je l,.d (.int .u8 p)] (Uv (vW s l p) (lL s l p) (tO s l p)):=by
 have h2:=uV s l;have h3:=nK [Vj s l p,y5 s l] (by
  intro m hm;simp only[af,cU,or_false]at hm;rcases hm with rfl|rfl
  .exact⟨.inr ⟨_,_,_,.inr rfl,rfl⟩,UY s l p hs hl⟩
  .exact Al s l hs hl)
 have h4:=jn l hl;have h5:=jc l s.fo hl hs.2;have he:firstM [Vj s l p,y5 s l]=lL s l p:=rfl;rw[he]at h3;unfold vW tO;refine sh0 Tryz.f257 ?_
 repeat' ((conv=>whnf);first|exact zf|refine(iy [0,1,2] ?_)|refine zm ?_|refine zc h2 ?_|refine zc h3 ?_|intro _)
 cases hb:lL s l p==0 with
 |true=>
  have hz:=eq_of_beq hb
  repeat' ((conv=>whnf);first|exact zf|refine zm ?_|refine zc h4 ?_|refine zc h5 ?_|refine zt ?_|refine zu ?_|intro _)
  show Out.ret (Uv ⟨s.cur,gT l⟩ 0 (!bI l s.fo))=_;rw[hz];rfl
 |false=>
  exact zk0
theorem zF{K:KT}(l:List (List D))(hl:l.length<100000000)(hk:K (.ret (.os 0)) [.rows 7 l]):Z1 85 [.d (.sl 7 l)] [] K:=by
 refine si0 Tryz.f85 ?_;cases l with
 |nil=>
  repeat' ((conv=>whnf);first|exact zf|refine zm ?_|refine And.intro ?_ ?_|intro _)
  all_goals exact hk
 |cons r l=>
  repeat' ((conv=>whnf);first|exact zf|refine zm ?_|intro _)
  all_goals exact hk
theorem K1(l:List (List D))(i:List UInt8)(b:Bool)(k n:Int)(x y z:List UInt8)(hl:l.length<100000000):Z0 287 [.d (.sl 7 l),.ag [.d (.str i),.d (.bool b),.d (.int .i64 k),.d (.int .i64 n),.d (.str x),.d (.str y),.d (.str z)]] (.d (.sl 7 (l++[[.str i,.bool b,.int .i64 k,.int .i64 n,.str x,.str y,.str z]]))):=by
 have hc:=λ{K:KT}=>zF (K:=K) l hl;refine sh0 Tryz.f287 ?_
 repeat' ((conv=>whnf);first|exact zf|refine(dG ?_)|refine zm ?_|refine(hc ?_)|refine(And.intro ⟨rfl,rfl,by simp only[aX,ah];omega,by simp only[aX,ah];omega⟩ ?_)|refine And.intro ?_ ?_|intro _)
theorem QA(i:List UInt8)(b:Bool)(k n:Int)(x y z:List UInt8):Z0 289 [.ag [.d (.str i),.d (.bool b),.d (.int .i64 k),.d (.int .i64 n),.d (.str x),.d (.str y),.d (.str z)]] (.d (.bool b)):=by
 refine sh0 Tryz.f289 ?_
 exact zj0
theorem Kl(i:List UInt8)(b:Bool)(k n:Int)(x y z:List UInt8):Z0 291 [.ag [.d (.str i),.d (.bool b),.d (.int .i64 k),.d (.int .i64 n),.d (.str x),.d (.str y),.d (.str z)]] (.d (.bool (!b))):=by
 refine sh0 Tryz.f291 ?_
 exact zj0
structure Ws where
  i:List UInt8
  b:Bool
  k:Int
  n:Int
  x:List UInt8
  y:List UInt8
  z:List UInt8
def Ws.row(w:Ws):List D:=[.str w.i,.bool w.b,.int .i64 w.k,.int .i64 w.n,.str w.x,.str w.y,.str w.z]
def jw(p:Bool):List Ws->Nat
 |[]=>0
 |w::r=>bif w.b==p then 0 else jw p r+1
def kU(p:Bool)(l:List Ws):Int:=if jw p l<l.length then jw p l else -1
theorem jB{p:Bool}:∀{l:List Ws}{i:Nat},(∀s∈l.take i,(s.b==p)=false)->i<=l.length->jw p l=i+jw p (l.drop i)
 |l,0,_,_=>by simp
 |[],i+1,_,h=>by simp at h
 |s::l,i+1,h,hi=>by
  rw[jw,h s (by simp),ε,mM,jB (i:=i) (λx hx=>h x (by rw[dV];exact cM _ hx)) (by simpa using hi)];omega
theorem JG(p:Bool)(l:List Ws):Z0 288 [.d (.sl 7 (l.map Ws.row)),.d (.fn (bif p then 289 else 291))] (.d (.int .i64 (kU p l))):=by
 have hl:(l.map Ws.row).length=l.length:=aH _;cases p
 all_goals (
  refine sh0 Tryz.f288 ?_
  )
 .skip
  repeat' ((conv=>whnf);first|exact zf|refine zm ?_|intro _)
  conv=>whnf
  refine bM [(1,.d (.fn 291)),(7,.d (.sl 7 (l.map Ws.row))),(8,.d (.int .i64 (l.map Ws.row).length))] (λi:Nat=>i<=l.length/\∀s∈l.take i,(s.b==false)=false) (λi=>[(9,.d (.int .i64 i))]) (λ_=>[]) (λi=>l.length-i) 0 ⟨ae _,λ_ h=>nomatch h⟩ ?_ ?_ ?_ (λi hi=>?_)
  .exact zzz
  .exact zzz
  .exact rfl
  repeat' ((conv=>whnf);first|exact zf|refine zm ?_|intro _)
  refine aW (λhlt=>?_) (λhge=>?_)
  .have hlt:i<l.length:=by rw[<-hl];simpa using hlt
   obtain⟨⟨a1,a2,a3,a4,a5,a6,a7⟩,hm⟩:∃m,l[i]?=some m:=⟨_,aA hlt⟩
   have hs:=Kl a1 a2 a3 a4 a5 a6 a7;have htk:l.take (i+1)=l.take i++[⟨a1,a2,a3,a4,a5,a6,a7⟩]:=by rw[bc,hm];rfl
   have hdr:l.drop i=⟨a1,a2,a3,a4,a5,a6,a7⟩::l.drop (i+1):=by
    rw[bO hlt];rw[aA hlt]at hm;rw[aq hm]
   have hk:=jB hi.2 hi.1;rw[hdr,jw]at hk;have hrow:(l.map Ws.row)[i]?=some [D.str a1,.bool a2,.int .i64 a3,.int .i64 a4,.str a5,.str a6,.str a7]:=by rw[aB,hm];rfl
   cases a2 with
   |false=>
    repeat' ((conv=>whnf);first|exact zf|refine zm ?_|refine⟨_,⟨by omega,hrow,rfl⟩,?_⟩|refine zc hs ?_|intro _)
    refine cJ (κ (λx=>V.d (D.int .i64 x)) ?_);unfold kU;rw[hk,ζ (by simp;omega)];simp
   |true=>
    repeat' ((conv=>whnf);first|exact zf|refine zm ?_|refine⟨_,⟨by omega,hrow,rfl⟩,?_⟩|refine zc hs ?_|intro _)
    refine⟨i+1,⟨hlt,?_⟩,az hlt (bL i),zzz,zzz,rfl⟩;rw[htk];intro x hx;exact(aR.1 hx).elim (hi.2 x) λh=>by rw[aL.1 h];rfl
  .have hge:i=l.length:=by
    have:¬i<l.length:=by rw[<-hl];simpa using hge
    omega
   have hk:=jB hi.2 hi.1;rw[hge,kq]at hk;have:kU false l = -1:=by unfold kU;rw[hk,η (by simp[jw])]
   rw[this]
   exact zj0
 .skip
  repeat' ((conv=>whnf);first|exact zf|refine zm ?_|intro _)
  conv=>whnf
  refine bM [(1,.d (.fn 289)),(7,.d (.sl 7 (l.map Ws.row))),(8,.d (.int .i64 (l.map Ws.row).length))] (λi:Nat=>i<=l.length/\∀s∈l.take i,(s.b==true)=false) (λi=>[(9,.d (.int .i64 i))]) (λ_=>[]) (λi=>l.length-i) 0 ⟨ae _,λ_ h=>nomatch h⟩ ?_ ?_ ?_ (λi hi=>?_)
  .exact zzz
  .exact zzz
  .exact rfl
  repeat' ((conv=>whnf);first|exact zf|refine zm ?_|intro _)
  refine aW (λhlt=>?_) (λhge=>?_)
  .have hlt:i<l.length:=by rw[<-hl];simpa using hlt
   obtain⟨⟨a1,a2,a3,a4,a5,a6,a7⟩,hm⟩:∃m,l[i]?=some m:=⟨_,aA hlt⟩
   have hs:=QA a1 a2 a3 a4 a5 a6 a7;have htk:l.take (i+1)=l.take i++[⟨a1,a2,a3,a4,a5,a6,a7⟩]:=by rw[bc,hm];rfl
   have hdr:l.drop i=⟨a1,a2,a3,a4,a5,a6,a7⟩::l.drop (i+1):=by
    rw[bO hlt];rw[aA hlt]at hm;rw[aq hm]
   have hk:=jB hi.2 hi.1;rw[hdr,jw]at hk;have hrow:(l.map Ws.row)[i]?=some [D.str a1,.bool a2,.int .i64 a3,.int .i64 a4,.str a5,.str a6,.str a7]:=by rw[aB,hm];rfl
   cases a2 with
   |true=>
    repeat' ((conv=>whnf);first|exact zf|refine zm ?_|refine⟨_,⟨by omega,hrow,rfl⟩,?_⟩|refine zc hs ?_|intro _)
    refine cJ (κ (λx=>V.d (D.int .i64 x)) ?_);unfold kU;rw[hk,ζ (by simp;omega)];simp
   |false=>
    repeat' ((conv=>whnf);first|exact zf|refine zm ?_|refine⟨_,⟨by omega,hrow,rfl⟩,?_⟩|refine zc hs ?_|intro _)
    refine⟨i+1,⟨hlt,?_⟩,az hlt (bL i),zzz,zzz,rfl⟩;rw[htk];intro x hx;exact(aR.1 hx).elim (hi.2 x) λh=>by rw[aL.1 h];rfl
  .have hge:i=l.length:=by
    have:¬i<l.length:=by rw[<-hl];simpa using hge
    omega
   have hk:=jB hi.2 hi.1;rw[hge,kq]at hk;have:kU true l = -1:=by unfold kU;rw[hk,η (by simp[jw])]
   rw[this]
   exact zj0
end Go.Proofs.YtjpgfgajkjhonaaGreatDoor