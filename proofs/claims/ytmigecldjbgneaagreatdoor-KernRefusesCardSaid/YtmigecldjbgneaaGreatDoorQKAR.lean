/- Lemmas. Conditions: none. -/
import Derived.Test.YtmigecldjbgneaaGreatDoorQKAQ
set_option maxHeartbeats 4000000
namespace Go.Proofs.YtmigecldjbgneaaGreatDoor
open Go.Vx
set_option maxRecDepth 100000
structure Info where
  nm:List UInt8
  ar:Int
  po:Int
  pu:Int
def uU:List D->Option Info
 |[.str s,.int .u8 a,.int .u8 p,.int .u8 q]=>some ⟨s,a,p,q⟩
 |_=>none
def Pj(r:List D):Bool:=match uU r with
 |some i=>decide (0<=i.ar)&&(decide (i.ar<=5)&&(decide (0<=i.po)&&(decide (i.po<=4)&&(decide (0<=i.pu)&&decide (i.pu<=2)))))
 |none=>false
theorem HF:iA.all Pj=true:=rfl
theorem FK{r:List D}{i:Info}(h:uU r=some i):r=[.str i.nm,.int .u8 i.ar,.int .u8 i.po,.int .u8 i.pu]:=by
 unfold uU at h;split at h
 .cases h;rfl
 .cases h
def inf(c:Int):Option Info:=bif decide (1<=c)&&decide (c<=47)then(iA[(c-1).toNat]?).bind uU else none
def last(c:Int):Bool:=(c==15)||((c==18)||(c==19))
def p_(c:Int):V:=match inf c with
 |some i=>.tu [.ag [.d (.str i.nm),.d (.int .i64 i.ar),.d (.int .i64 i.po),.d (.int .i64 i.pu),.d (.bool (last c))],.d (.bool true)]
 |none=>.tu [.ag [.d (.str []),.d (.int .i64 0),.d (.int .i64 0),.d (.int .i64 0),.d (.bool false)],.d (.bool false)]
theorem xh{c:Int}(h1:1<=c)(h2:c<=47):∃i,inf c=some i/\(chunk 4 47 (iA.flatten.drop 0))[(c-1).toNat]?=some [.str i.nm,.int .u8 i.ar,.int .u8 i.po,.int .u8 i.pu] /\
  0<=i.ar/\i.ar<=5/\0<=i.po/\i.po<=4/\0<=i.pu/\i.pu<=2:=by
 have hlen:iA.length=47:=rfl;have hc:chunk 4 47 (iA.flatten.drop 0)=iA:=rfl;obtain⟨r,hr⟩:∃r,iA[(c-1).toNat]?=some r:=⟨_,aA (by omega)⟩
 have hf:=aP.1 HF r (aG hr);unfold Pj at hf;cases hi:uU r with
 |none=>rw[hi]at hf;cases hf
 |some i=>
  rw[hi]at hf;simp only[aO,χ]at hf;refine⟨i,by unfold inf;rw[show(decide (1<=c)&&decide (c<=47))=true by simp[h1,h2]];simp only[δ,hr,Option.bind_some,hi],?_,hf.1,hf.2.1,hf.2.2.1,hf.2.2.2.1,hf.2.2.2.2.1,hf.2.2.2.2.2⟩;rw[hc,hr,FK hi]
theorem JV{c:Int}(h:c<1\/47<c):inf c=none:=by
 have:(decide (1<=c)&&decide (c<=47))=false:=by
  cases hh:(decide (1<=c)&&decide (c<=47)) with
  |false=>rfl
  |true=>simp at hh;omega
 simp[inf,this]
theorem ei{c:Int}{i:Info}(h:inf c=some i):1<=c/\c<=47/\0<=i.ar/\i.ar<=5/\0<=i.po/\i.po<=4/\0<=i.pu/\i.pu<=2:=by
 by_cases h0:1<=c/\c<=47
 .obtain⟨i',h1,_,h2⟩:=xh h0.1 h0.2;rw[h]at h1;cases h1;exact⟨h0.1,h0.2,h2⟩
 .rw[JV (by omega)]at h;cases h
theorem EI(c:Int):Z0 129 [.d (.int .i64 c)] (p_ c):=by
  by_cases h0:1<=c/\c<=47
  · obtain⟨i,h1,h2,h3⟩:=xh h0.1 h0.2
    have hr:p_ c=.tu [.ag [.d (.str i.nm),.d (.int .i64 i.ar),.d (.int .i64 i.po),.d (.int .i64 i.pu),.d (.bool (last c))],.d (.bool true)]:=by simp only[p_,h1]
    rw[hr]
    refine sh0 Tryz.f129 ?_
    repeat' ((conv=>whnf);first|exact zf|refine zm ?_|refine zB ?_ ?_|intro _)
    refine aU (λhb=>absurd hb (by simp;omega)) (λhb=>?_)
    repeat' ((conv=>whnf);first|exact zf|refine zm ?_|refine zB ?_ ?_|intro _)
    refine aU (λhb=>absurd hb (by simp;omega)) (λhb=>?_)
    repeat' ((conv=>whnf);first|exact zf|refine zm ?_|refine zB ?_ ?_|intro _)
    refine⟨_,⟨by omega,h2,by decide +kernel⟩,?_⟩
    repeat' ((conv=>whnf);first|exact zf|refine zm ?_|refine zB ?_ ?_|refine aU (λhb=>?_) (λhb=>?_)|intro _)
    all_goals
      refine cD (κ (λb=>V.tu [V.ag [V.d (.str i.nm),V.d (.int .i64 i.ar),V.d (.int .i64 i.po),V.d (.int .i64 i.pu),V.d (.bool b)],V.d (.bool true)]) ?_)
      first
        |(simp_all[last];done)
        | (have a1 : (c == 15) = false := by simp_all
           have a2:(c==18)=false:=by simp_all
           simp[last,a1,a2])
  · have hr:p_ c=.tu [.ag [.d (.str []),.d (.int .i64 0),.d (.int .i64 0),.d (.int .i64 0),.d (.bool false)],.d (.bool false)]:=by simp only[p_,JV (c:=c) (by omega)]
    rw[hr]
    refine sh0 Tryz.f129 ?_
    repeat' ((conv=>whnf);first|exact zf|refine zm ?_|refine zB ?_ ?_|refine aU (λhb=>?_) (λhb=>?_)|intro _)
    all_goals
      exfalso
      simp at *
      omega
structure Op where
  c:Int
  a:Int
def cV(o:Op):List D:=[.int .i64 o.c,.int .i64 o.a]
def CT(o:Op):V:=.ag [.d (.int .i64 o.c),.d (.int .i64 o.a)]
structure Fn where
  args:Int
  vars:Int
  code:List Op
def bc(f:Fn):List D:=[.int .i64 f.args,.int .i64 f.vars,.sl 2 (f.code.map cV)]
structure Im where
  cs:List Va
  fs:List Fn
def sC(im:Im):V:=.ag [.d (.sl 5 (im.cs.map b9)),.d (.sl 3 (im.fs.map bc))]
theorem e6{c:Int}{i:Info}(h:inf c=some i):Z0 129 [.d (.int .i64 c)] (.tu [.ag [.d (.str i.nm),.d (.int .i64 i.ar),.d (.int .i64 i.po),.d (.int .i64 i.pu),.d (.bool (last c))],.d (.bool true)]):=by
 have:=EI c;simp only[p_,h]at this;exact this
theorem vD{c:Int}(h:inf c=none):Z0 129 [.d (.int .i64 c)] (.tu [.ag [.d (.str []),.d (.int .i64 0),.d (.int .i64 0),.d (.int .i64 0),.d (.bool false)],.d (.bool false)]):=by
 have:=EI c;simp only[p_,h]at this;exact this
def ep(o:Op):Bool:=match inf o.c with
 |some i=>bif i.ar==0 then o.a==0 else decide (0<=o.a)&&decide (o.a<=65535)
 |none=>false
theorem Cm(o:Op):Z0 128 [CT o] (.d (.bool (ep o))):=by
 refine sh0 Tryz.f128 ?_;cases hi:inf o.c with
 |none=>
  have h:=vD hi
  repeat' ((conv=>whnf);first|exact zf|refine zm ?_|refine zc h ?_|refine zB ?_ ?_|refine aU (λhb=>?_) (λhb=>?_)|intro _)
  refine cD (κ (λx=>V.d (.bool x)) ?_);simp[ep,hi]
 |some i=>
  have h:=e6 hi
  repeat' ((conv=>whnf);first|exact zf|refine zm ?_|refine zc h ?_|refine zB ?_ ?_|refine aU (λhb=>?_) (λhb=>?_)|intro _)
  all_goals
   refine cD (κ (λx=>V.d (.bool x)) ?_);simp only[ep,hi];rcases Decidable.em (i.ar=0)with e0|e0
   .simp_all
   .have e1:(i.ar==0)=false:=by simpa using e0
    rw[e1,ε];clear e1;simp_all
    try omega
def within(n m:Int):Bool:=decide (0<=n)&&decide (n<m)
theorem lQ(n m:Int):Z0 170 [.d (.int .i64 n),.d (.int .i64 m)] (.d (.bool (within n m))):=by
 refine sh0 Tryz.f170 ?_
 repeat' ((conv=>whnf);first|exact zf|refine zm ?_|refine zB ?_ ?_|refine aU (λhb=>?_) (λhb=>?_)|intro _)
 all_goals
  refine cD (κ (λx=>V.d (.bool x)) ?_);simp_all[within]
  try omega
def fW(im:Im)(f:Fr)(fn:Fn)(o:Op):Bool:=match inf o.c with
 |some i=>bif i.ar==1 then within o.a im.cs.length else bif i.ar==2 then within o.a f.vars.length else bif i.ar==3 then within o.a fn.code.length else bif i.ar==4 then within o.a im.fs.length else true
 |none=>true
theorem Eb(im:Im)(f:Fr)(fn:Fn)(o:Op)(h0:0<=f.fu)(hf:im.fs[f.fu.toNat]?=some fn):Z0 171 [sC im,Y_ f,CT o] (.d (.bool (fW im f fn o))):=by
  refine sh0 Tryz.f171 ?_
  have w1:=lQ o.a (im.cs.map b9).length
  have w2:=lQ o.a (f.vars.map b9).length
  have w3:=lQ o.a (fn.code.map cV).length
  have w4:=lQ o.a (im.fs.map bc).length
  have hrow:(im.fs.map bc)[f.fu.toNat]?=some (bc fn):=by simp[hf]
  cases hi:inf o.c with
  |none=>
    have h:=vD hi
    repeat' ((conv=>whnf);first|exact zf|refine zm ?_|refine zc h ?_|refine zc w1 ?_|refine zc w2 ?_|refine zc w3 ?_|refine zc w4 ?_|refine zB ?_ ?_|refine aU (λhb=>?_) (λhb=>?_)|intro _)
    all_goals
      first
        |(refine cD (κ (λx=>V.d (.bool x)) ?_);simp_all[fW];done)
        |(exfalso;simp_all;done)
  |some i=>
    have h:=e6 hi
    repeat' ((conv=>whnf);first|exact zf|refine zm ?_|refine zc h ?_|refine zc w1 ?_|refine zc w2 ?_|refine zc w3 ?_|refine zc w4 ?_|refine zB ?_ ?_|refine aU (λhb=>?_) (λhb=>?_)|intro _)
    all_goals try
      (refine cD (κ (fun x => V.d (.bool x)) ?_)
       simp_all[fW]
       done)
    all_goals
      refine⟨bc fn,⟨h0,hrow,rfl⟩,?_⟩
      repeat' ((conv=>whnf);first|exact zf|refine zm ?_|refine zc w3 ?_|refine zB ?_ ?_|refine aU (λhb=>?_) (λhb=>?_)|intro _)
      all_goals
        refine cD (κ (λx=>V.d (.bool x)) ?_)
        simp_all[fW]
def bm(im:Im)(o:Op):Int:=match inf o.c with
 |some i=>bif o.c==17 then i.po+(match im.fs[o.a.toNat]? with|some g=>g.args|none=>0)else i.po
 |none=>0
theorem Cc(im:Im)(o:Op)(hg:o.c=17->∃g,0<=o.a/\im.fs[o.a.toNat]?=some g/\dB .i64 g.args):Z0 172 [sC im,CT o] (.d (.int .i64 (bm im o))):=by
 refine sh0 Tryz.f172 ?_;cases hi:inf o.c with
 |none=>
  have h:=vD hi;have hc:o.c≠17:=by
   intro e;rw[e]at hi;obtain⟨i,h1,_⟩:=xh (c:=17) (by omega) (by omega);rw[h1]at hi;cases hi
  repeat' ((conv=>whnf);first|exact zf|refine zm ?_|refine zc h ?_|refine zB ?_ ?_|intro _)
  refine aU (λhb=>absurd hb (by simp[hc])) (λhb=>?_)
  repeat' ((conv=>whnf);first|exact zf|refine zm ?_|refine zB ?_ ?_|intro _)
  refine cD (κ (λx=>V.d (.int .i64 x)) ?_);simp only[bm,hi]
 |some i=>
  have h:=e6 hi
  by_cases hc:o.c=17
  .obtain⟨g,h0,h1,h2⟩:=hg hc;have hp:i.po=0:=by
    rw[hc]at hi;have:inf 17=some ⟨[99,97,108,108],4,0,1⟩:=rfl;rw[this]at hi;cases hi;rfl
   have hrow:(im.fs.map bc)[o.a.toNat]?=some (bc g):=by simp[h1]
   replace h2 : -9223372036854775808<=g.args/\g.args<=9223372036854775807:=h2
   repeat' ((conv=>whnf);first|exact zf|refine zm ?_|refine zc h ?_|refine zB ?_ ?_|intro _)
   refine aU (λhb=>?_) (λhb=>absurd hc (by simpa using hb))
   repeat' ((conv=>whnf);first|exact zf|refine zm ?_|refine zB ?_ ?_|intro _)
   refine⟨bc g,⟨h0,hrow,rfl⟩,?_⟩
   repeat' ((conv=>whnf);first|exact zf|refine zm ?_|refine zB ?_ ?_|intro _)
   refine cD (κ (λx=>V.d (.int .i64 x)) ?_);simp only[bm,hi,hb,δ,h1]
  .have hcb:(o.c==17)=false:=by simpa using hc
   repeat' ((conv=>whnf);first|exact zf|refine zm ?_|refine zc h ?_|refine zB ?_ ?_|intro _)
   refine aU (λhb=>absurd hb (by simp[hc])) (λhb=>?_)
   repeat' ((conv=>whnf);first|exact zf|refine zm ?_|refine zB ?_ ?_|intro _)
   refine cD (κ (λx=>V.d (.int .i64 x)) ?_);simp only[bm,hi,hcb,ε]
theorem oW(n:Int):Z0 142 [.d (.int .i64 n)] (jh (num n)):=by
 refine sh0 Tryz.f142 ?_
 repeat' ((conv=>whnf);first|exact zf|refine zm ?_|refine zB ?_ ?_|intro _)
def iv(b:Bool):Va:=num (bif b then 1 else 0)
theorem C7(b:Bool):Z0 245 [.d (.bool b)] (jh (iv b)):=by
 refine sh0 Tryz.f245 ?_;cases b
 .skip
  repeat' ((conv=>whnf);first|exact zf|refine zm ?_|refine zc (oW 0) ?_|refine zB ?_ ?_|intro _)
 .skip
  repeat' ((conv=>whnf);first|exact zf|refine zm ?_|refine zc (oW 1) ?_|refine zB ?_ ?_|intro _)
structure Ou where
  k:Int
  v:Va
  o:Op
def v7(u:Ou):V:=.ag [.d (.int .i64 u.k),.d (.int .i64 u.v.k),.d (.int .i64 u.v.n),.d (.str u.v.nm),.d (.str u.v.ls),.d (.str u.v.li),.d (.int .i64 u.o.c),.d (.int .i64 u.o.a)]
def o0:Op:=⟨0,0⟩
def bu:Ou:=⟨0,zeroV,o0⟩
def failed(n:Int):Ou:=⟨2,num n,o0⟩
def nO(c:Co)(code kp:Int):Option Co:=
 bif decide ((c.tr.length:Int)-1<max kp 0)then none else
 match c.tr.getLast? with
 |none=>none
 |some t=>bif ri c t then some (tO c t code)else none
theorem y7{c c':Co}{code kp:Int}(h:nO c code kp=some c'):js c code kp=.tu [gp c',.d (.bool true)]:=by
 unfold nO at h;unfold js;cases h1:decide ((c.tr.length:Int)-1<max kp 0)<;>rw[h1]at h<;>simp only[δ,ε]at h⊢
 .split at h
  .cases h
  .rename_i t ht;rw[ht];simp only;cases h2:ri c t<;>rw[h2]at h<;>simp only[δ,ε]at h⊢<;>cases h;rfl
 .cases h
theorem y8{c:Co}{code kp:Int}(h:nO c code kp=none):js c code kp=.tu [gp c,.d (.bool false)]:=by
 unfold nO at h;unfold js;cases h1:decide ((c.tr.length:Int)-1<max kp 0)<;>rw[h1]at h<;>simp only[δ,ε]at h⊢;split at h
 .rename_i ht;rw[ht]
 .rename_i t ht;rw[ht];simp only;cases h2:ri c t<;>rw[h2]at h<;>simp only[δ,ε]at h⊢;cases h
def raise(c:Co)(code kp:Int):Co×Ou:=match nO c code kp with
 |some c'=>(c',bu)
 |none=>(c,failed code)
theorem sY(c:Co)(code kp:Int)(hf:c.fr.length<1000000000)(hs:c.st.length<1000000000):Z0 145 [gp c,.d (.int .i64 code),.d (.int .i64 kp)] (.tu [gp (raise c code kp).1,v7 (raise c code kp).2]):=by
 have h:=L5 c code kp hf hs;refine sh0 Tryz.f145 ?_;cases ht:nO c code kp with
 |some c'=>
  rw[y7 ht]at h;simp only[raise,ht]
  repeat' ((conv=>whnf);first|exact zf|refine zm ?_|refine zc h ?_|refine zB ?_ ?_|intro _)
 |none=>
  rw[y8 ht]at h;simp only[raise,ht]
  repeat' ((conv=>whnf);first|exact zf|refine zm ?_|refine zc h ?_|refine zc (oW code) ?_|refine zB ?_ ?_|intro _)
structure GA(im:Im):Prop where
  args:∀(i:Nat)(g:Fn),im.fs[i]?=some g->dB .i64 g.args
def fit(im:Im)(c:Co):Option Op:=
 match c.fr.getLast? with
 |none=>none
 |some f=>bif within f.fu im.fs.length then(match im.fs[f.fu.toNat]? with
  |none=>none
  |some fn=>bif within f.pc fn.code.length then(match fn.code[f.pc.toNat]? with
   |none=>none
   |some o=>bif ep o&&(fW im f fn o&&fQ c (bm im o))then some o else none)else none)else none
def mR(im:Im)(c:Co):V:=match fit im c with
 |some o=>.tu [CT o,.d (.bool true)]
 |none=>.tu [CT o0,.d (.bool false)]
theorem within_iff{n m:Int}:within n m=true<->0<=n/\n<m:=by simp[within]
theorem qM{im:Im}{f:Fr}{fn:Fn}{o:Op}(hc:o.c=17)(h:fW im f fn o=true):within o.a im.fs.length=true:=by
 unfold fW at h;rw[hc]at h;have:inf 17=some ⟨[99,97,108,108],4,0,1⟩:=rfl;rw[this]at h;exact h
set_option maxRecDepth 100000 in
theorem mo (im:Im) (c:Co) (hI:GA im) (hs:c.st.length<1000000000):Z0 141 [sC im,gp c] (mR im c):=by
  cases hl:c.fr.getLast? with
  |none=>
    have hz:c.fr=[]:=by simpa using hl
    have hr:mR im c=.tu [CT o0,.d (.bool false)]:=by simp only[mR,fit,hl]
    rw[hr]
    refine sh0 Tryz.f141 ?_
    repeat' ((conv=>whnf);first|exact zf|refine zm ?_|refine zB ?_ ?_|intro _)
    refine aU (λhb=>?_) (λhb=>absurd hb (by simp[hz]))
    repeat' ((conv=>whnf);first|exact zf|refine zm ?_|refine zB ?_ ?_|intro _)
  |some f=>
    have hlen:0<c.fr.length:=by
      cases h:c.fr with
      |nil=>rw[h]at hl;cases hl
      |cons=>simp
    have hne:c.fr≠[]:=λe=>by simp[e]at hlen
    have hf1:c.fr[c.fr.length-1]?=some f:=by rw[dU]at hl;exact hl
    have hrow:(c.fr.map bP)[c.fr.length-1]?=some (bP f):=by simp[hf1]
    have w1:=lQ f.fu (im.fs.map bc).length
    have e1:within f.fu (im.fs.map bc).length=within f.fu im.fs.length:=by rw[aI]
    rw[e1]at w1
    cases h1:within f.fu im.fs.length with
    |false=>
      have hr:mR im c=.tu [CT o0,.d (.bool false)]:=by simp only[mR,fit,hl,h1,ε]
      rw[hr]
      rw[h1]at w1
      refine sh0 Tryz.f141 ?_
      repeat' ((conv=>whnf);first|exact zf|refine zm ?_|refine zB ?_ ?_|intro _)
      refine aU (λhb=>absurd hb (by simp[hne])) (λhb=>?_)
      repeat' ((conv=>whnf);first|exact zf|refine zm ?_|refine zB ?_ ?_|intro _)
      refine⟨bP f,⟨by simp;omega,by simp[hf1],rfl⟩,?_⟩
      repeat' ((conv=>whnf);first|exact zf|refine zm ?_|refine zc w1 ?_|refine zB ?_ ?_|intro _)
    |true=>
      obtain⟨g1,g2⟩:=within_iff.1 h1
      obtain⟨fn,hfn⟩:∃fn,im.fs[f.fu.toNat]?=some fn:=⟨_,aA (by omega)⟩
      rw[h1]at w1
      have w2:=lQ f.pc (fn.code.map cV).length
      have e2:within f.pc (fn.code.map cV).length=within f.pc fn.code.length:=by rw[aI]
      rw[e2]at w2
      have hrow2:(im.fs.map bc)[f.fu.toNat]?=some (bc fn):=by simp[hfn]
      cases h2:within f.pc fn.code.length with
      |false=>
        have hr:mR im c=.tu [CT o0,.d (.bool false)]:=by simp only[mR,fit,hl,h1,δ,hfn,h2,ε]
        rw[hr]
        rw[h2]at w2
        refine sh0 Tryz.f141 ?_
        repeat' ((conv=>whnf);first|exact zf|refine zm ?_|refine zB ?_ ?_|intro _)
        refine aU (λhb=>absurd hb (by simp[hne])) (λhb=>?_)
        repeat' ((conv=>whnf);first|exact zf|refine zm ?_|refine zB ?_ ?_|intro _)
        refine⟨bP f,⟨by simp;omega,by simp[hf1],rfl⟩,?_⟩
        repeat' ((conv=>whnf);first|exact zf|refine zm ?_|refine zc w1 ?_|refine zB ?_ ?_|intro _)
        refine⟨bc fn,⟨g1,hrow2,rfl⟩,?_⟩
        repeat' ((conv=>whnf);first|exact zf|refine zm ?_|refine zc w2 ?_|refine zB ?_ ?_|intro _)
      |true=>
        obtain⟨g3,g4⟩:=within_iff.1 h2
        obtain⟨o,ho⟩:∃o,fn.code[f.pc.toNat]?=some o:=⟨_,aA (by omega)⟩
        have hrow3:(fn.code.map cV)[f.pc.toNat]?=some (cV o):=by simp[ho]
        rw[h2]at w2
        have w3:=Cm o
        have w4:=Eb im f fn o g1 hfn
        have hfit:fit im c=bif ep o&&(fW im f fn o&&fQ c (bm im o))then some o else none:=by simp only[fit,hl,h1,δ,hfn,h2,ho]
        cases h3:ep o with
        |false=>
          have hr:mR im c=.tu [CT o0,.d (.bool false)]:=by simp only[mR,hfit,h3,iV,ε]
          rw[hr]
          rw[h3]at w3
          refine sh0 Tryz.f141 ?_
          repeat' ((conv=>whnf);first|exact zf|refine zm ?_|refine zB ?_ ?_|intro _)
          refine aU (λhb=>absurd hb (by simp[hne])) (λhb=>?_)
          repeat' ((conv=>whnf);first|exact zf|refine zm ?_|refine zB ?_ ?_|intro _)
          refine⟨bP f,⟨by simp;omega,by simp[hf1],rfl⟩,?_⟩
          repeat' ((conv=>whnf);first|exact zf|refine zm ?_|refine zc w1 ?_|refine zB ?_ ?_|intro _)
          refine⟨bc fn,⟨g1,hrow2,rfl⟩,?_⟩
          repeat' ((conv=>whnf);first|exact zf|refine zm ?_|refine zc w2 ?_|refine zB ?_ ?_|intro _)
          refine⟨cV o,⟨g3,hrow3,rfl⟩,?_⟩
          repeat' ((conv=>whnf);first|exact zf|refine zm ?_|refine zc w3 ?_|refine zB ?_ ?_|intro _)
        |true=>
          rw[h3]at w3
          cases h4:fW im f fn o with
          |false=>
            have hr:mR im c=.tu [CT o0,.d (.bool false)]:=by simp only[mR,hfit,h3,h4,iV,Bool.and_false,ε]
            rw[hr]
            rw[h4]at w4
            refine sh0 Tryz.f141 ?_
            repeat' ((conv=>whnf);first|exact zf|refine zm ?_|refine zB ?_ ?_|intro _)
            refine aU (λhb=>absurd hb (by simp[hne])) (λhb=>?_)
            repeat' ((conv=>whnf);first|exact zf|refine zm ?_|refine zB ?_ ?_|intro _)
            refine⟨bP f,⟨by simp;omega,by simp[hf1],rfl⟩,?_⟩
            repeat' ((conv=>whnf);first|exact zf|refine zm ?_|refine zc w1 ?_|refine zB ?_ ?_|intro _)
            refine⟨bc fn,⟨g1,hrow2,rfl⟩,?_⟩
            repeat' ((conv=>whnf);first|exact zf|refine zm ?_|refine zc w2 ?_|refine zB ?_ ?_|intro _)
            refine⟨cV o,⟨g3,hrow3,rfl⟩,?_⟩
            repeat' ((conv=>whnf);first|exact zf|refine zm ?_|refine zc w3 ?_|refine zc w4 ?_|refine zB ?_ ?_|intro _)
          |true=>
            rw[h4]at w4
            have w5:=Cc im o (λhc=>by
              obtain⟨k1,k2⟩:=within_iff.1 (qM hc h4)
              obtain⟨g,hg⟩:∃g,im.fs[o.a.toNat]?=some g:=⟨_,aA (by omega)⟩
              exact⟨g,k1,hg,hI.args _ _ hg⟩)
            have w6:=zF c (bm im o) hs
            cases h5:fQ c (bm im o) with
            |false=>
              have hr:mR im c=.tu [CT o0,.d (.bool false)]:=by simp only[mR,hfit,h3,h4,h5,Bool.and_false,ε]
              rw[hr]
              rw[sZ h5]at w6
              refine sh0 Tryz.f141 ?_
              repeat' ((conv=>whnf);first|exact zf|refine zm ?_|refine zB ?_ ?_|intro _)
              refine aU (λhb=>absurd hb (by simp[hne])) (λhb=>?_)
              repeat' ((conv=>whnf);first|exact zf|refine zm ?_|refine zB ?_ ?_|intro _)
              refine⟨bP f,⟨by simp;omega,by simp[hf1],rfl⟩,?_⟩
              repeat' ((conv=>whnf);first|exact zf|refine zm ?_|refine zc w1 ?_|refine zB ?_ ?_|intro _)
              refine⟨bc fn,⟨g1,hrow2,rfl⟩,?_⟩
              repeat' ((conv=>whnf);first|exact zf|refine zm ?_|refine zc w2 ?_|refine zB ?_ ?_|intro _)
              refine⟨cV o,⟨g3,hrow3,rfl⟩,?_⟩
              repeat' ((conv=>whnf);first|exact zf|refine zm ?_|refine zc w3 ?_|refine zc w4 ?_|refine zc w5 ?_|refine zc w6 ?_|refine zB ?_ ?_|intro _)
            |true=>
              have hr:mR im c=.tu [CT o,.d (.bool true)]:=by simp only[mR,hfit,h3,h4,h5,eA,δ]
              rw[hr]
              rw[lT h5]at w6
              refine sh0 Tryz.f141 ?_
              repeat' ((conv=>whnf);first|exact zf|refine zm ?_|refine zB ?_ ?_|intro _)
              refine aU (λhb=>absurd hb (by simp[hne])) (λhb=>?_)
              repeat' ((conv=>whnf);first|exact zf|refine zm ?_|refine zB ?_ ?_|intro _)
              refine⟨bP f,⟨by simp;omega,by simp[hf1],rfl⟩,?_⟩
              repeat' ((conv=>whnf);first|exact zf|refine zm ?_|refine zc w1 ?_|refine zB ?_ ?_|intro _)
              refine⟨bc fn,⟨g1,hrow2,rfl⟩,?_⟩
              repeat' ((conv=>whnf);first|exact zf|refine zm ?_|refine zc w2 ?_|refine zB ?_ ?_|intro _)
              refine⟨cV o,⟨g3,hrow3,rfl⟩,?_⟩
              repeat' ((conv=>whnf);first|exact zf|refine zm ?_|refine zc w3 ?_|refine zc w4 ?_|refine zc w5 ?_|refine zc w6 ?_|refine zB ?_ ?_|intro _)
structure Mh where
  im:Im
  gC:Co
  o:Op
  fr:Int
  tr:Int
def iX(m:Mh)(c0:V)(st:List Va)(ts:List Tr)(tk:V)(u:Ou)(wr:Bool)(cd:Int):List V:=
  [.d (.sl 5 (m.im.cs.map b9)), .d (.sl 3 (m.im.fs.map bc)), .d (.sl 5 (m.gC.fr.map bP)), .d (.sl 5 (m.gC.st.map b9)), .d (.sl 3 (m.gC.tr.map eJ)),
   c0,.d (.sl 5 (st.map b9)),.d (.sl 3 (ts.map eJ)),.d (.int .i64 m.o.c),.d (.int .i64 m.o.a),tk,.d (.int .i64 m.fr),.d (.int .i64 m.tr),
   .d (.int .i64 u.k),.d (.int .i64 u.v.k),.d (.int .i64 u.v.n),.d (.str u.v.nm),.d (.str u.v.ls),.d (.str u.v.li),.d (.int .i64 u.o.c),.d (.int .i64 u.o.a),.d (.bool wr),.d (.int .i64 cd)]
def gw(l:List Va):V:=.d (.sl 5 (l.map b9))
theorem vf{K:KT}(m:Mh)(st:List Va)(ts:List Tr)(tk:List Va)(u:Ou)(wr:Bool)(cd:Int)(rows:List (List D))(hr:0<rows.length)(hl:rows.length<1000000000)
  (hk:K (.ret (.q 1 5 ((rows.length:Int)-1).toNat 0)) [.cells (iX m (.os 1) st ts (gw tk) u wr cd),.rows 5 rows]) :
  Z1 195 [.p 0 0] [.cells (iX m (.os 1) st ts (gw tk) u wr cd),.rows 5 rows] K:=by
 refine sh0 Tryz.f195 ?_
 repeat' ((conv=>whnf);first|exact zf|refine zm ?_|refine zB ?_ ?_|intro _)
 all_goals exact hk
theorem mJ{K:KT}(m:Mh)(st:List Va)(ts:List Tr)(tk:List Va)(u:Ou)(wr:Bool)(cd:Int)(fs:List Fr)(v:Va)(hs:st.length<1000000000)
  (hk:K (.ret (.tu [])) [.cells (iX m (.d (.sl 5 (fs.map bP))) (st++[v]) ts (gw tk) u wr cd),.no]) :
  Z1 240 [.p 0 0,jh v] [.cells (iX m (.os 1) st ts (gw tk) u wr cd),.rows 5 (fs.map bP)] K:=by
 refine sh0 Tryz.f240 ?_
 repeat' ((conv=>whnf);first|exact zf|refine jM [1] ?_|refine zm ?_|refine zc (tg ⟨fs,st,ts⟩ v hs) ?_|refine zB ?_ ?_|intro _)
 exact hk
theorem Ba{K:KT}(m:Mh)(st:List Va)(ts:List Tr)(tk:List Va)(u:Ou)(wr:Bool)(cd:Int)(fs:List Fr)(v:Va)(hs:st.length<1000000000)
  (hk:K (.ret (.tu [])) [.cells (iX m (.d (.sl 5 (fs.map bP))) (st++[v]) ts (gw tk) u wr cd)]) :
  Z1 240 [.p 0 0,jh v] [.cells (iX m (.d (.sl 5 (fs.map bP))) st ts (gw tk) u wr cd)] K:=by
 refine sh0 Tryz.f240 ?_
 repeat' ((conv=>whnf);first|exact zf|refine zm ?_|refine zc (tg ⟨fs,st,ts⟩ v hs) ?_|refine zB ?_ ?_|intro _)
 exact hk
theorem oL{K:KT}(m:Mh)(st:List Va)(ts:List Tr)(tk:List Va)(u:Ou)(wr:Bool)(cd:Int)(rows:List (List D))(n:Int)
  (hk:K (.ret (.tu [])) [.cells (iX m (.os 1) st ts (gw tk) u true n),.rows 5 rows]) :
  Z1 244 [.p 0 0,.d (.int .i64 n)] [.cells (iX m (.os 1) st ts (gw tk) u wr cd),.rows 5 rows] K:=by
 refine sh0 Tryz.f244 ?_
 repeat' ((conv=>whnf);first|exact zf|refine zm ?_|refine zB ?_ ?_|intro _)
 exact hk
def R9(m:Mh):List V:=
  [.d (.sl 5 (m.im.cs.map b9)), .d (.sl 3 (m.im.fs.map bc)), .d (.sl 5 (m.gC.fr.map bP)), .d (.sl 5 (m.gC.st.map b9)), .d (.sl 3 (m.gC.tr.map eJ)),
   .nl 5,.nl 5,.nl 3,.d (.int .i64 m.o.c),.d (.int .i64 m.o.a),.nl 5,.d (.int .i64 m.fr),.d (.int .i64 m.tr),
   .d (.int .i64 0),.d (.int .i64 0),.d (.int .i64 0),.d (.str []),.d (.str []),.d (.str []),.d (.int .i64 0),.d (.int .i64 0),.d (.bool false),.d (.int .i64 0)]
structure Py(m:Mh)(f:Fr):Prop where
  hl:m.gC.fr.getLast?=some f
  lf:m.gC.fr.length<1000000000
  ls:m.gC.st.length<1000000000
  pc:0<=f.pc/\f.pc<9223372036854775807
  po:fQ m.gC (bm m.im m.o)=true
  ca:m.o.c=17->∃g,0<=m.o.a/\m.im.fs[m.o.a.toNat]?=some g/\dB .i64 g.args
def bS(l:List Fr)(f:Fr):List Fr:=l.set (l.length-1) {f with pc:=f.pc+1}
def oY(m:Mh):List Va:=lF m.gC (bm m.im m.o)
def j3(m:Mh):List Va:=(sM m.gC (bm m.im m.o)).st
theorem pH{K:KT}(m:Mh)(f:Fr)(hr:Py m f)(hk:K (.ret (.tu [])) [.cells (iX m (.os 1) (j3 m) m.gC.tr (gw (oY m)) bu false 0),.rows 5 ((bS m.gC.fr f).map bP)]) :
  Z1 144 [.p 0 0] [.cells (R9 m)] K:=by
 have hne:0<m.gC.fr.length:=by
  cases h:m.gC.fr with
  |nil=>have:=hr.hl;rw[h]at this;cases this
  |cons=>simp
 have hf1:m.gC.fr[m.gC.fr.length-1]?=some f:=by have:=hr.hl;rw[dU]at this;exact this
 have htk:=Cc m.im m.o hr.ca;have hpop:=zF m.gC (bm m.im m.o) hr.ls;rw[lT hr.po]at hpop;have hlf:=hr.lf;have hpc:=hr.pc;have hrow:(m.gC.fr.map bP)[(((m.gC.fr.map bP).length:Int)-1).toNat]?=some (bP f):=by
  rw[aB,aI];have e:((m.gC.fr.length:Int)-1).toNat=m.gC.fr.length-1:=by omega
  rw[e,hf1];rfl
 have hset:(m.gC.fr.map bP).set (((m.gC.fr.map bP).length:Int)-1).toNat (bP {f with pc:=f.pc+1})=(bS m.gC.fr f).map bP:=by
  rw[bS,eR,aI];congr 1;omega
 refine sh0 Tryz.f144 ?_
 repeat' ((conv=>whnf);first|exact zf|refine zm ?_|refine zc htk ?_|refine zc hpop ?_|refine qg (m.gC.fr.map bP) (by simp;omega) ?_|refine zr0 ?_|refine vf m (j3 m) m.gC.tr (oY m) bu false 0 _ (by simp;omega) (by simp;omega) ?_|refine zB ?_ ?_|intro _)
 all_goals
  refine⟨bP f,hrow,?_⟩
  repeat' ((conv=>whnf);first|exact zf|refine zm ?_|refine zB ?_ ?_|intro _)
  all_goals
   refine⟨bP f,hrow,⟨rfl,rfl,rfl⟩,?_⟩
   repeat' ((conv=>whnf);first|exact zf|refine zm ?_|refine zB ?_ ?_|intro _)
   all_goals
    rw[<-hset]at hk;exact hk
def Fs(f:Nat)(vs:List V)(m:Mh)(st st':List Va)(ts:List Tr)(tk:List Va)(bW:List Fr):Prop:=
 ∀K:Out->H->Prop,K (.ret (.tu [])) [.cells [.p 1 0],.cells (iX m (.d (.sl 5 (bW.map bP))) st' ts (gw tk) bu false 0),.no] ->
  Z1 f (vs++[.p 0 0]) [.cells [.p 1 0],.cells (iX m (.os 2) st ts (gw tk) bu false 0),.rows 5 (bW.map bP)] K
def wZ(f:Nat)(vs:List V)(m:Mh)(st:List Va)(ts:List Tr)(tk:List Va)(bW frs':List Fr)(wr:Bool)(cd:Int):Prop:=
 ∀K:Out->H->Prop,K (.ret (.tu [])) [.cells [.p 1 0],.cells (iX m (.os 2) st ts (gw tk) bu wr cd),.rows 5 (frs'.map bP)] ->
  Z1 f (vs++[.p 0 0]) [.cells [.p 1 0],.cells (iX m (.os 2) st ts (gw tk) bu false 0),.rows 5 (bW.map bP)] K
theorem Aj{K:KT}(f:Nat)(hf:Nat.blt f 1000000=true)(m:Mh)(st st':List Va)(ts:List Tr)(a b:Va)(kd:Int)(bW:List Fr)(ha:a.k=kd)(hb:b.k=kd)(hS:Fs f [jh a,jh b] m st st' ts [a,b] bW)
  (hk:K (.ret (.tu [])) [.cells (iX m (.d (.sl 5 (bW.map bP))) st' ts (gw [a,b]) bu false 0),.no,.cells [.p 0 0]]) :
  Z1 241 [.p 0 0,.d (.int .i64 kd),.fc f [.p 2 0]] [.cells (iX m (.os 1) st ts (gw [a,b]) bu false 0),.rows 5 (bW.map bP),.cells [.p 0 0]] K:=by
 refine sh0 Tryz.f241 ?_
 repeat' ((conv=>whnf);first|exact zf|refine zm ?_|refine zB ?_ ?_|refine⟨_,⟨by decide,rfl,rfl⟩,?_⟩|refine⟨_,rfl,?_⟩|intro _)
 refine aU (λh=>absurd h (by simp[ha])) (λh=>?_)
 repeat' ((conv=>whnf);first|exact zf|refine zm ?_|refine zB ?_ ?_|refine⟨_,⟨by decide,rfl,rfl⟩,?_⟩|refine⟨_,rfl,?_⟩|intro _)
 refine aU (λh=>absurd h (by simp[hb])) (λh=>?_)
 repeat' ((conv=>whnf);first|exact zf|refine zm ?_|refine zB ?_ ?_|refine⟨_,⟨by decide,rfl,rfl⟩,?_⟩|refine⟨_,rfl,?_⟩|intro _)
 conv=>whnf
 rw[hf]
 repeat' ((conv=>whnf);first|exact zf|refine zm ?_|refine zr0 ?_|refine hS _ ?_|refine zB ?_ ?_|intro _)
 exact hk
theorem QL{K:KT}(f:Nat)(hf:Nat.blt f 1000000=true)(m:Mh)(st:List Va)(ts:List Tr)(a b:Va)(kd:Int)(bW frs':List Fr)(wr:Bool)(cd:Int)(ha:a.k=kd)(hb:b.k=kd)(hS:wZ f [jh a,jh b] m st ts [a,b] bW frs' wr cd)
  (hk:K (.ret (.tu [])) [.cells (iX m (.os 1) st ts (gw [a,b]) bu wr cd),.rows 5 (frs'.map bP),.cells [.p 0 0]]) :
  Z1 241 [.p 0 0,.d (.int .i64 kd),.fc f [.p 2 0]] [.cells (iX m (.os 1) st ts (gw [a,b]) bu false 0),.rows 5 (bW.map bP),.cells [.p 0 0]] K:=by
 refine sh0 Tryz.f241 ?_
 repeat' ((conv=>whnf);first|exact zf|refine zm ?_|refine zB ?_ ?_|refine⟨_,⟨by decide,rfl,rfl⟩,?_⟩|refine⟨_,rfl,?_⟩|intro _)
 refine aU (λh=>absurd h (by simp[ha])) (λh=>?_)
 repeat' ((conv=>whnf);first|exact zf|refine zm ?_|refine zB ?_ ?_|refine⟨_,⟨by decide,rfl,rfl⟩,?_⟩|refine⟨_,rfl,?_⟩|intro _)
 refine aU (λh=>absurd h (by simp[hb])) (λh=>?_)
 repeat' ((conv=>whnf);first|exact zf|refine zm ?_|refine zB ?_ ?_|refine⟨_,⟨by decide,rfl,rfl⟩,?_⟩|refine⟨_,rfl,?_⟩|intro _)
 conv=>whnf
 rw[hf]
 repeat' ((conv=>whnf);first|exact zf|refine zm ?_|refine zr0 ?_|refine hS _ ?_|refine zB ?_ ?_|intro _)
 exact hk
theorem Ai{K:KT}(f:Nat)(m:Mh)(st:List Va)(ts:List Tr)(a b:Va)(kd:Int)(bW:List Fr)(hab:¬(a.k=kd/\b.k=kd))
  (hk:K (.ret (.tu [])) [.cells (iX m (.os 1) st ts (gw [a,b]) bu true (-1)),.rows 5 (bW.map bP),.cells [.p 0 0]]) :
  Z1 241 [.p 0 0,.d (.int .i64 kd),.fc f [.p 2 0]] [.cells (iX m (.os 1) st ts (gw [a,b]) bu false 0),.rows 5 (bW.map bP),.cells [.p 0 0]] K:=by
 refine sh0 Tryz.f241 ?_
 repeat' ((conv=>whnf);first|exact zf|refine zm ?_|refine zB ?_ ?_|refine⟨_,⟨by decide,rfl,rfl⟩,?_⟩|refine⟨_,rfl,?_⟩|intro _)
 refine aU (λh=>?_) (λh=>?_)
 .skip
  repeat' ((conv=>whnf);first|exact zf|refine zm ?_|refine zr0 ?_|refine oL m st ts [a,b] bu false 0 (bW.map bP) (-1) ?_|refine zB ?_ ?_|refine⟨_,⟨by decide,rfl,rfl⟩,?_⟩|refine⟨_,rfl,?_⟩|intro _)
  exact hk
 .skip
  repeat' ((conv=>whnf);first|exact zf|refine zm ?_|refine zB ?_ ?_|refine⟨_,⟨by decide,rfl,rfl⟩,?_⟩|refine⟨_,rfl,?_⟩|intro _)
  refine aU (λh2=>?_) (λh2=>absurd ⟨by simpa using h,by simpa using h2⟩ hab)
  repeat' ((conv=>whnf);first|exact zf|refine zm ?_|refine zr0 ?_|refine oL m st ts [a,b] bu false 0 (bW.map bP) (-1) ?_|refine zB ?_ ?_|refine⟨_,⟨by decide,rfl,rfl⟩,?_⟩|refine⟨_,rfl,?_⟩|intro _)
  exact hk
theorem RG{K:KT}(f:Nat)(hf:Nat.blt f 1000000=true)(m:Mh)(st st':List Va)(ts:List Tr)(a:Va)(kd:Int)(bW:List Fr)(ha:a.k=kd)(hS:Fs f [jh a] m st st' ts [a] bW)
  (hk:K (.ret (.tu [])) [.cells (iX m (.d (.sl 5 (bW.map bP))) st' ts (gw [a]) bu false 0),.no,.cells [.p 0 0]]) :
  Z1 246 [.p 0 0,.d (.int .i64 kd),.fc f [.p 2 0]] [.cells (iX m (.os 1) st ts (gw [a]) bu false 0),.rows 5 (bW.map bP),.cells [.p 0 0]] K:=by
 refine sh0 Tryz.f246 ?_
 repeat' ((conv=>whnf);first|exact zf|refine zm ?_|refine zB ?_ ?_|refine⟨_,⟨by decide,rfl,rfl⟩,?_⟩|refine⟨_,rfl,?_⟩|intro _)
 refine aU (λh=>absurd h (by simp[ha])) (λh=>?_)
 repeat' ((conv=>whnf);first|exact zf|refine zm ?_|refine zB ?_ ?_|refine⟨_,⟨by decide,rfl,rfl⟩,?_⟩|refine⟨_,rfl,?_⟩|intro _)
 conv=>whnf
 rw[hf]
 repeat' ((conv=>whnf);first|exact zf|refine zm ?_|refine zr0 ?_|refine hS _ ?_|refine zB ?_ ?_|intro _)
 exact hk
theorem BQ{K:KT}(f:Nat)(hf:Nat.blt f 1000000=true)(m:Mh)(st:List Va)(ts:List Tr)(a:Va)(kd:Int)(bW frs':List Fr)(wr:Bool)(cd:Int)(ha:a.k=kd)(hS:wZ f [jh a] m st ts [a] bW frs' wr cd)
  (hk:K (.ret (.tu [])) [.cells (iX m (.os 1) st ts (gw [a]) bu wr cd),.rows 5 (frs'.map bP),.cells [.p 0 0]]) :
  Z1 246 [.p 0 0,.d (.int .i64 kd),.fc f [.p 2 0]] [.cells (iX m (.os 1) st ts (gw [a]) bu false 0),.rows 5 (bW.map bP),.cells [.p 0 0]] K:=by
 refine sh0 Tryz.f246 ?_
 repeat' ((conv=>whnf);first|exact zf|refine zm ?_|refine zB ?_ ?_|refine⟨_,⟨by decide,rfl,rfl⟩,?_⟩|refine⟨_,rfl,?_⟩|intro _)
 refine aU (λh=>absurd h (by simp[ha])) (λh=>?_)
 repeat' ((conv=>whnf);first|exact zf|refine zm ?_|refine zB ?_ ?_|refine⟨_,⟨by decide,rfl,rfl⟩,?_⟩|refine⟨_,rfl,?_⟩|intro _)
 conv=>whnf
 rw[hf]
 repeat' ((conv=>whnf);first|exact zf|refine zm ?_|refine zr0 ?_|refine hS _ ?_|refine zB ?_ ?_|intro _)
 exact hk
theorem BP{K:KT}(f:Nat)(m:Mh)(st:List Va)(ts:List Tr)(a:Va)(kd:Int)(bW:List Fr)(ha:¬a.k=kd)
  (hk:K (.ret (.tu [])) [.cells (iX m (.os 1) st ts (gw [a]) bu true (-1)),.rows 5 (bW.map bP),.cells [.p 0 0]]) :
  Z1 246 [.p 0 0,.d (.int .i64 kd),.fc f [.p 2 0]] [.cells (iX m (.os 1) st ts (gw [a]) bu false 0),.rows 5 (bW.map bP),.cells [.p 0 0]] K:=by
 refine sh0 Tryz.f246 ?_
 repeat' ((conv=>whnf);first|exact zf|refine zm ?_|refine zB ?_ ?_|refine⟨_,⟨by decide,rfl,rfl⟩,?_⟩|refine⟨_,rfl,?_⟩|intro _)
 refine aU (λh=>?_) (λh=>absurd (by simpa using h) ha)
 repeat' ((conv=>whnf);first|exact zf|refine zm ?_|refine zr0 ?_|refine oL m st ts [a] bu false 0 (bW.map bP) (-1) ?_|refine zB ?_ ?_|refine⟨_,⟨by decide,rfl,rfl⟩,?_⟩|refine⟨_,rfl,?_⟩|intro _)
 exact hk
def LS(n:Int):Int:=IntKind.i64.wrap n
def V1(b:Bool):Int:=bif b then 1 else 0
theorem y5(b:Bool):Z0 335 [.d (.bool b)] (.d (.int .i64 (V1 b))):=by
 refine sh0 Tryz.f335 ?_;cases b<;>skip
 .skip
  repeat' ((conv=>whnf);first|exact zf|refine zm ?_|refine zB ?_ ?_|intro _)
 .skip
  repeat' ((conv=>whnf);first|exact zf|refine zm ?_|refine zB ?_ ?_|intro _)
def mG(n:Int):V:=.tu [.d (.int .i64 n),.d (.bool true)]
theorem Sa(a b:Int):Z0 329 [.d (.int .i64 a),.d (.int .i64 b)] (mG (LS (a+b))):=by
 refine sh0 Tryz.f329 ?_
 repeat' ((conv=>whnf);first|exact zf|refine zm ?_|refine .inr ?_|refine zB ?_ ?_|intro _)
theorem QR(a b:Int):Z0 330 [.d (.int .i64 a),.d (.int .i64 b)] (mG (LS (a-b))):=by
 refine sh0 Tryz.f330 ?_
 repeat' ((conv=>whnf);first|exact zf|refine zm ?_|refine .inr ?_|refine zB ?_ ?_|intro _)
theorem R5(a b:Int):Z0 331 [.d (.int .i64 a),.d (.int .i64 b)] (mG (LS (a*b))):=by
 refine sh0 Tryz.f331 ?_
 repeat' ((conv=>whnf);first|exact zf|refine zm ?_|refine .inr ?_|refine zB ?_ ?_|intro _)
def rJ:V:=.tu [.d (.int .i64 0),.d (.bool false)]
theorem SH(a b:Int):Z0 332 [.d (.int .i64 a),.d (.int .i64 b)] (bif b==0 then rJ else mG (LS (a.tdiv b))):=by
 refine sh0 Tryz.f332 ?_;cases h:(b==0) with
 |true=>
  repeat' ((conv=>whnf);first|exact zf|refine zm ?_|refine zB ?_ ?_|intro _)
  refine aU (λ_=>?_) (λh2=>by rw[h]at h2;cases h2)
  repeat' ((conv=>whnf);first|exact zf|refine zm ?_|refine zB ?_ ?_|intro _)
 |false=>
  repeat' ((conv=>whnf);first|exact zf|refine zm ?_|refine zB ?_ ?_|intro _)
  refine aU (λh2=>by rw[h]at h2;cases h2) (λ_=>?_)
  conv=>whnf
  refine⟨by simpa using h,.inr ?_⟩
  repeat' ((conv=>whnf);first|exact zf|refine zm ?_|refine zB ?_ ?_|intro _)
theorem Qi(a b:Int):Z0 333 [.d (.int .i64 a),.d (.int .i64 b)] (bif b==0 then rJ else mG (a.tmod b)):=by
 refine sh0 Tryz.f333 ?_;cases h:(b==0) with
 |true=>
  repeat' ((conv=>whnf);first|exact zf|refine zm ?_|refine zB ?_ ?_|intro _)
  refine aU (λ_=>?_) (λh2=>by rw[h]at h2;cases h2)
  repeat' ((conv=>whnf);first|exact zf|refine zm ?_|refine zB ?_ ?_|intro _)
 |false=>
  repeat' ((conv=>whnf);first|exact zf|refine zm ?_|refine zB ?_ ?_|intro _)
  refine aU (λh2=>by rw[h]at h2;cases h2) (λ_=>?_)
  conv=>whnf
  refine⟨by simpa using h,?_⟩
  repeat' ((conv=>whnf);first|exact zf|refine zm ?_|refine zB ?_ ?_|intro _)
theorem VD(a b:Int):Z0 334 [.d (.int .i64 a),.d (.int .i64 b)] (mG (V1 (a==b))):=by
 refine sh0 Tryz.f334 ?_
 repeat' ((conv=>whnf);first|exact zf|refine zm ?_|refine zc (y5 _) ?_|refine zB ?_ ?_|intro _)
theorem Un(a b:Int):Z0 336 [.d (.int .i64 a),.d (.int .i64 b)] (mG (V1 (decide (a<b)))):=by
 refine sh0 Tryz.f336 ?_
 repeat' ((conv=>whnf);first|exact zf|refine zm ?_|refine zc (y5 _) ?_|refine zB ?_ ?_|intro _)
def Wc:List (V×V):=[(.d (.int .i64 7),.d (.fn 329)),(.d (.int .i64 8),.d (.fn 330)),(.d (.int .i64 9),.d (.fn 331)),(.d (.int .i64 10),.d (.fn 332)),(.d (.int .i64 11),.d (.fn 333)),(.d (.int .i64 12),.d (.fn 334)),(.d (.int .i64 13),.d (.fn 336))]
theorem mF{K:KT}(hk:K (.ret (.mp 0)) [.mp Wc]):Z1 301 [] [] K:=by
 refine si0 Tryz.f301 ?_
 repeat' ((conv=>whnf);first|exact zf|refine zm ?_|refine⟨_,rfl,?_⟩|refine zB ?_ ?_|intro _)
 exact hk
def qO(c a b:Int):V:=
 bif c==7 then mG (LS (a+b))else bif c==8 then mG (LS (a-b))else bif c==9 then mG (LS (a*b))else bif c==10 then(bif b==0 then rJ else mG (LS (a.tdiv b)))
 else bif c==11 then(bif b==0 then rJ else mG (a.tmod b))else bif c==12 then mG (V1 (a==b))else mG (V1 (decide (a<b)))
theorem VR(c a b:Int)(hc:7<=c/\c<=13):Z0 243 [.d (.int .i64 c),.d (.int .i64 a),.d (.int .i64 b)] (qO c a b):=by
 have h7:c=7\/c=8\/c=9\/c=10\/c=11\/c=12\/c=13:=by omega
 rcases h7 with rfl|rfl|rfl|rfl|rfl|rfl|rfl
 .refine sh0 Tryz.f243 ?_
  repeat' ((conv=>whnf);first|exact zf|refine zm ?_|refine zc (Sa a b) ?_|refine mF ?_|refine⟨_,rfl,?_⟩|refine zB ?_ ?_|intro _)
 .refine sh0 Tryz.f243 ?_
  repeat' ((conv=>whnf);first|exact zf|refine zm ?_|refine zc (QR a b) ?_|refine mF ?_|refine⟨_,rfl,?_⟩|refine zB ?_ ?_|intro _)
 .refine sh0 Tryz.f243 ?_
  repeat' ((conv=>whnf);first|exact zf|refine zm ?_|refine zc (R5 a b) ?_|refine mF ?_|refine⟨_,rfl,?_⟩|refine zB ?_ ?_|intro _)
 .refine sh0 Tryz.f243 ?_;have h:=SH a b;cases hb:(b==0) with
  |true=>
   have e:qO 10 a b=rJ:=by show(bif b==0 then rJ else _)=_;rw[hb];rfl
   rw[e];rw[hb]at h
   repeat' ((conv=>whnf);first|exact zf|refine zm ?_|refine zc h ?_|refine mF ?_|refine⟨_,rfl,?_⟩|refine zB ?_ ?_|intro _)
  |false=>
   have e:qO 10 a b=mG (LS (a.tdiv b)):=by show(bif b==0 then rJ else _)=_;rw[hb];rfl
   rw[e];rw[hb]at h
   repeat' ((conv=>whnf);first|exact zf|refine zm ?_|refine zc h ?_|refine mF ?_|refine⟨_,rfl,?_⟩|refine zB ?_ ?_|intro _)
 .refine sh0 Tryz.f243 ?_;have h:=Qi a b;cases hb:(b==0) with
  |true=>
   have e:qO 11 a b=rJ:=by show(bif b==0 then rJ else _)=_;rw[hb];rfl
   rw[e];rw[hb]at h
   repeat' ((conv=>whnf);first|exact zf|refine zm ?_|refine zc h ?_|refine mF ?_|refine⟨_,rfl,?_⟩|refine zB ?_ ?_|intro _)
  |false=>
   have e:qO 11 a b=mG (a.tmod b):=by show(bif b==0 then rJ else _)=_;rw[hb];rfl
   rw[e];rw[hb]at h
   repeat' ((conv=>whnf);first|exact zf|refine zm ?_|refine zc h ?_|refine mF ?_|refine⟨_,rfl,?_⟩|refine zB ?_ ?_|intro _)
 .refine sh0 Tryz.f243 ?_
  repeat' ((conv=>whnf);first|exact zf|refine zm ?_|refine zc (VD a b) ?_|refine mF ?_|refine⟨_,rfl,?_⟩|refine zB ?_ ?_|intro _)
 .refine sh0 Tryz.f243 ?_
  repeat' ((conv=>whnf);first|exact zf|refine zm ?_|refine zc (Un a b) ?_|refine mF ?_|refine⟨_,rfl,?_⟩|refine zB ?_ ?_|intro _)
end Go.Proofs.YtmigecldjbgneaaGreatDoor