/- Lemmas. Conditions: none. -/
import Derived.Test.YtjpgfgajkjhonaaGreatDoorQRAZ
set_option maxHeartbeats 4000000
set_option maxRecDepth 100000
namespace Go.Proofs.YtjpgfgajkjhonaaGreatDoor
open Go.Vx
set_option maxRecDepth 100000
def cz(im:Im)(c:Co)(o:Op)(fr tr:Int):Mh:=⟨im,c,o,max fr 0,max tr 0⟩
theorem ik{im:Im}{c:Co}{o:Op}(h:fit im c=some o):mB im c=.tu [Bc o,.d (.bool true)]:=by simp only[mB,h]
theorem Ed{im:Im}{c:Co}(h:fit im c=none):mB im c=.tu [Bc o0,.d (.bool false)]:=by simp only[mB,h]
theorem SY(im:Im)(c:Co)(fr tr:Int)(hI:FN im)(hs:c.st.length<1000000000)(h:fit im c=none) :
  Z0 71 [x4 im,gZ c,.d (.int .i64 fr),.d (.int .i64 tr)] (.tu [gZ c,ux (failed (-6))]):=by
 have hf:=mL im c hI hs;rw[Ed h]at hf;refine sh0 Tryz.f71 ?_
 repeat' ((conv=>whnf);first|exact zf|refine zm ?_|refine zc hf ?_|refine zc (nV (-6)) ?_|intro _)
theorem SX(im:Im)(c:Co)(fr tr:Int)(o:Op)(hI:FN im)(hs:c.st.length<1000000000)(h:fit im c=some o)(hq:∀id,qI [0,3] [.d (.int .i64 o.c)] (D7 id) 0=some none) :
    Z0 71 [x4 im,gZ c,.d (.int .i64 fr),.d (.int .i64 tr)] (.tu [gZ c,ux ⟨3,zeroV,o⟩]):=by
  have hf:=mL im c hI hs
  rw[ik h]at hf
  refine sh0 Tryz.f71 ?_
  repeat' ((conv=>whnf);first|exact zf|refine gW 1 ?_|refine(bh (bu ?_):eO _ (eO (kZ _ _ _ _ 107 _ _ _ _ _ _ _) _))|refine zm ?_|refine zc hf ?_|refine⟨_,_,l5 (cz im c o fr tr) (And.intro rfl rfl),?_⟩|intro _)
  refine⟨_,hq 5,?_⟩
  exact zj0
theorem Fi(im:Im)(c:Co)(fr tr:Int)(o:Op)(f:Fr)(F i:Nat)(hI:FN im)(hs:c.st.length<1000000000)(h:fit im c=some o)(hr:PH (cz im c o fr tr) f)
    (hq:∀id,qI [0,3] [.d (.int .i64 o.c)] (D7 id) 0=some (some (i,.fc F [.p id 0]))) (hF1:Nat.blt F 1000000=false) (hF2:Nat.blt F 2000000=true) (frs':List Fr) (st':List Va) (ts':List Tr)
    (hM:∀K:Out->H->Prop,K (.ret (.tu [])) [.cells (iV (cz im c o fr tr) (.d (.sl 5 (frs'.map bS))) st' ts' (hT (nW (cz im c o fr tr))) cD false 0),.no]->Z1 (F-1000000) [.p 0 0] [.cells (iV (cz im c o fr tr) (.os 1) (jP (cz im c o fr tr)) c.tr (hT (nW (cz im c o fr tr))) cD false 0),.rows 5 ((bV c.fr f).map bS)] K) :
    Z0 71 [x4 im,gZ c,.d (.int .i64 fr),.d (.int .i64 tr)] (.tu [gZ ⟨frs',st',ts'⟩,ux cD]):=by
  have hf:=mL im c hI hs
  rw[ik h]at hf
  refine sh0 Tryz.f71 ?_
  repeat' ((conv=>whnf);first|exact zf|refine gW 1 ?_|refine(bh (bu ?_):eO _ (eO (kZ _ _ _ _ 107 _ _ _ _ _ _ _) _))|refine zm ?_|refine zc hf ?_|refine⟨_,_,l5 (cz im c o fr tr) (And.intro rfl rfl),?_⟩|intro _)
  refine⟨_,hq 5,?_⟩
  repeat' ((conv=>whnf);first|exact zf|refine zm ?_|refine zr0 ?_|refine oF (cz im c o fr tr) f hr ?_|intro _)
  conv=>whnf
  rw[hF1]
  conv=>whnf
  rw[hF2]
  repeat' ((conv=>whnf);first|exact zf|refine zm ?_|refine zr0 ?_|refine hM _ ?_|refine zc (mL im c hI hs) ?_|intro _)
theorem P8(im:Im)(c:Co)(fr tr:Int)(o:Op)(f:Fr)(F i:Nat)(hI:FN im)(hs:c.st.length<1000000000)(h:fit im c=some o)(hr:PH (cz im c o fr tr) f)
    (hq:∀id,qI [0,3] [.d (.int .i64 o.c)] (D7 id) 0=some (some (i,.fc F [.p id 0]))) (hF1:Nat.blt F 1000000=false) (hF2:Nat.blt F 2000000=true) (frs':List Fr) (st':List Va) (ts':List Tr)
    (hM:∀K:Out->H->Prop,K (.ret (.tu [])) [.cells (iV (cz im c o fr tr) (.os 1) st' ts' (hT (nW (cz im c o fr tr))) cD false 0),.rows 5 (frs'.map bS)]->Z1 (F-1000000) [.p 0 0] [.cells (iV (cz im c o fr tr) (.os 1) (jP (cz im c o fr tr)) c.tr (hT (nW (cz im c o fr tr))) cD false 0),.rows 5 ((bV c.fr f).map bS)] K) :
    Z0 71 [x4 im,gZ c,.d (.int .i64 fr),.d (.int .i64 tr)] (.tu [gZ ⟨frs',st',ts'⟩,ux cD]):=by
  have hf:=mL im c hI hs
  rw[ik h]at hf
  refine sh0 Tryz.f71 ?_
  repeat' ((conv=>whnf);first|exact zf|refine gW 1 ?_|refine(bh (bu ?_):eO _ (eO (kZ _ _ _ _ 107 _ _ _ _ _ _ _) _))|refine zm ?_|refine zc hf ?_|refine⟨_,_,l5 (cz im c o fr tr) (And.intro rfl rfl),?_⟩|intro _)
  refine⟨_,hq 5,?_⟩
  repeat' ((conv=>whnf);first|exact zf|refine zm ?_|refine zr0 ?_|refine oF (cz im c o fr tr) f hr ?_|intro _)
  conv=>whnf
  rw[hF1]
  conv=>whnf
  rw[hF2]
  repeat' ((conv=>whnf);first|exact zf|refine zm ?_|refine zr0 ?_|refine hM _ ?_|refine zc (mL im c hI hs) ?_|intro _)
theorem P7(im:Im)(c:Co)(fr tr:Int)(o:Op)(f:Fr)(F i:Nat)(hI:FN im)(hs:c.st.length<1000000000)(h:fit im c=some o)(hr:PH (cz im c o fr tr) f)
    (hq:∀id,qI [0,3] [.d (.int .i64 o.c)] (D7 id) 0=some (some (i,.fc F [.p id 0]))) (hF1:Nat.blt F 1000000=false) (hF2:Nat.blt F 2000000=true) (frs':List Fr) (st':List Va) (ts':List Tr) (cd:Int) (hf9:c.fr.length<1000000000)
    (hM:∀K:Out->H->Prop,K (.ret (.tu [])) [.cells (iV (cz im c o fr tr) (.os 1) st' ts' (hT (nW (cz im c o fr tr))) cD true cd),.rows 5 (frs'.map bS)]->Z1 (F-1000000) [.p 0 0] [.cells (iV (cz im c o fr tr) (.os 1) (jP (cz im c o fr tr)) c.tr (hT (nW (cz im c o fr tr))) cD false 0),.rows 5 ((bV c.fr f).map bS)] K) :
    Z0 71 [x4 im,gZ c,.d (.int .i64 fr),.d (.int .i64 tr)] (.tu [gZ (raise c cd (max tr 0)).1,ux (raise c cd (max tr 0)).2]):=by
  have hf:=mL im c hI hs
  rw[ik h]at hf
  refine sh0 Tryz.f71 ?_
  repeat' ((conv=>whnf);first|exact zf|refine gW 1 ?_|refine(bh (bu ?_):eO _ (eO (kZ _ _ _ _ 107 _ _ _ _ _ _ _) _))|refine zm ?_|refine zc hf ?_|refine⟨_,_,l5 (cz im c o fr tr) (And.intro rfl rfl),?_⟩|intro _)
  refine⟨_,hq 5,?_⟩
  repeat' ((conv=>whnf);first|exact zf|refine zm ?_|refine zr0 ?_|refine oF (cz im c o fr tr) f hr ?_|intro _)
  conv=>whnf
  rw[hF1]
  conv=>whnf
  rw[hF2]
  repeat' ((conv=>whnf);first|exact zf|refine zm ?_|refine zr0 ?_|refine hM _ ?_|refine zc (ry c cd (max tr 0) hf9 hs) ?_|intro _)
theorem P6(im:Im)(c:Co)(fr tr:Int)(o:Op)(f:Fr)(F i:Nat)(hI:FN im)(hs:c.st.length<1000000000)(h:fit im c=some o)(hr:PH (cz im c o fr tr) f)
    (hq:∀id,qI [0,3] [.d (.int .i64 o.c)] (D7 id) 0=some (some (i,.fc F [.p id 0]))) (hF1:Nat.blt F 1000000=false) (hF2:Nat.blt F 2000000=true) (frs':List Fr) (st':List Va) (ts':List Tr)
    (hM:∀K:Out->H->Prop,K (.ret (.tu [])) [.cells (To (cz im c o fr tr) (.os 1) st' (.cl 3 (ts'.map eF)) (hT (nW (cz im c o fr tr))) cD false 0),.rows 5 (frs'.map bS)]->Z1 (F-1000000) [.p 0 0] [.cells (iV (cz im c o fr tr) (.os 1) (jP (cz im c o fr tr)) c.tr (hT (nW (cz im c o fr tr))) cD false 0),.rows 5 ((bV c.fr f).map bS)] K) :
    Z0 71 [x4 im,gZ c,.d (.int .i64 fr),.d (.int .i64 tr)] (.tu [gZ ⟨frs',st',ts'⟩,ux cD]):=by
  have hf:=mL im c hI hs
  rw[ik h]at hf
  refine sh0 Tryz.f71 ?_
  repeat' ((conv=>whnf);first|exact zf|refine gW 1 ?_|refine(bh (bu ?_):eO _ (eO (kZ _ _ _ _ 107 _ _ _ _ _ _ _) _))|refine zm ?_|refine zc hf ?_|refine⟨_,_,l5 (cz im c o fr tr) (And.intro rfl rfl),?_⟩|intro _)
  refine⟨_,hq 5,?_⟩
  repeat' ((conv=>whnf);first|exact zf|refine zm ?_|refine zr0 ?_|refine oF (cz im c o fr tr) f hr ?_|intro _)
  conv=>whnf
  rw[hF1]
  conv=>whnf
  rw[hF2]
  repeat' ((conv=>whnf);first|exact zf|refine zm ?_|refine zr0 ?_|refine hM _ ?_|refine zc (mL im c hI hs) ?_|intro _)
theorem Fh(im:Im)(c:Co)(fr tr:Int)(o:Op)(f:Fr)(F i:Nat)(hI:FN im)(hs:c.st.length<1000000000)(h:fit im c=some o)(hr:PH (cz im c o fr tr) f)
    (hq:∀id,qI [0,3] [.d (.int .i64 o.c)] (D7 id) 0=some (some (i,.fc F [.p id 0]))) (hF1:Nat.blt F 1000000=false) (hF2:Nat.blt F 2000000=true) (frs' frs2:List Fr) (st':List Va) (ts':List Tr) (u:Ou)
    (hM:∀K:Out->H->Prop,K (.ret (.tu [])) [.cells (iV (cz im c o fr tr) (.d (.sl 5 (frs'.map bS))) st' ts' (hT (nW (cz im c o fr tr))) u false 0),.rows 5 (frs2.map bS)]->Z1 (F-1000000) [.p 0 0] [.cells (iV (cz im c o fr tr) (.os 1) (jP (cz im c o fr tr)) c.tr (hT (nW (cz im c o fr tr))) cD false 0),.rows 5 ((bV c.fr f).map bS)] K) :
    Z0 71 [x4 im,gZ c,.d (.int .i64 fr),.d (.int .i64 tr)] (.tu [gZ ⟨frs',st',ts'⟩,ux u]):=by
  have hf:=mL im c hI hs
  rw[ik h]at hf
  refine sh0 Tryz.f71 ?_
  repeat' ((conv=>whnf);first|exact zf|refine gW 1 ?_|refine(bh (bu ?_):eO _ (eO (kZ _ _ _ _ 107 _ _ _ _ _ _ _) _))|refine zm ?_|refine zc hf ?_|refine⟨_,_,l5 (cz im c o fr tr) (And.intro rfl rfl),?_⟩|intro _)
  refine⟨_,hq 5,?_⟩
  repeat' ((conv=>whnf);first|exact zf|refine zm ?_|refine zr0 ?_|refine oF (cz im c o fr tr) f hr ?_|intro _)
  conv=>whnf
  rw[hF1]
  conv=>whnf
  rw[hF2]
  repeat' ((conv=>whnf);first|exact zf|refine zm ?_|refine zr0 ?_|refine hM _ ?_|refine zc (mL im c hI hs) ?_|intro _)
theorem P5(im:Im)(c:Co)(fr tr:Int)(o:Op)(f:Fr)(F i:Nat)(hI:FN im)(hs:c.st.length<1000000000)(h:fit im c=some o)(hr:PH (cz im c o fr tr) f)
    (hq:∀id,qI [0,3] [.d (.int .i64 o.c)] (D7 id) 0=some (some (i,.fc F [.p id 0]))) (hF1:Nat.blt F 1000000=false) (hF2:Nat.blt F 2000000=true) (frs':List Fr) (st':List Va) (ts':List Tr) (cd:Int) (hf9:c.fr.length<1000000000)
    (hM:∀K:Out->H->Prop,K (.ret (.tu [])) [.cells (iV (cz im c o fr tr) (.d (.sl 5 (frs'.map bS))) st' ts' (hT (nW (cz im c o fr tr))) cD true cd),.no]->Z1 (F-1000000) [.p 0 0] [.cells (iV (cz im c o fr tr) (.os 1) (jP (cz im c o fr tr)) c.tr (hT (nW (cz im c o fr tr))) cD false 0),.rows 5 ((bV c.fr f).map bS)] K) :
    Z0 71 [x4 im,gZ c,.d (.int .i64 fr),.d (.int .i64 tr)] (.tu [gZ (raise c cd (max tr 0)).1,ux (raise c cd (max tr 0)).2]):=by
  have hf:=mL im c hI hs
  rw[ik h]at hf
  refine sh0 Tryz.f71 ?_
  repeat' ((conv=>whnf);first|exact zf|refine gW 1 ?_|refine(bh (bu ?_):eO _ (eO (kZ _ _ _ _ 107 _ _ _ _ _ _ _) _))|refine zm ?_|refine zc hf ?_|refine⟨_,_,l5 (cz im c o fr tr) (And.intro rfl rfl),?_⟩|intro _)
  refine⟨_,hq 5,?_⟩
  repeat' ((conv=>whnf);first|exact zf|refine zm ?_|refine zr0 ?_|refine oF (cz im c o fr tr) f hr ?_|intro _)
  conv=>whnf
  rw[hF1]
  conv=>whnf
  rw[hF2]
  repeat' ((conv=>whnf);first|exact zf|refine zm ?_|refine zr0 ?_|refine hM _ ?_|refine zc (ry c cd (max tr 0) hf9 hs) ?_|intro _)
section
theorem nI{im:Im}{c:Co}{o:Op}(h:fit im c=some o):∃f fn,c.fr.getLast?=some f/\within f.fu im.fs.length=true/\im.fs[f.fu.toNat]?=some fn/\within f.pc fn.code.length=true/\fn.code[f.pc.toNat]?=some o /\
  jN o=true/\fS im f fn o=true/\ez c (fL im o)=true:=by
 unfold fit at h;split at h
 .cases h
 .rename_i f hl;cases h1:within f.fu im.fs.length<;>rw[h1]at h<;>simp only[δ,ε]at h
  .cases h
  split at h
  .cases h
  .rename_i fn hfn;cases h2:within f.pc fn.code.length<;>rw[h2]at h<;>simp only[δ,ε]at h
   .cases h
   split at h
   .cases h
   .rename_i o' ho;cases h3:jN o'&&(fS im f fn o'&&ez c (fL im o'))<;>rw[h3]at h<;>simp only[δ,ε]at h
    .cases h
    .cases h;simp only[aP]at h3;exact⟨f,fn,hl,h1,hfn,h2,ho,h3.1,h3.2.1,h3.2.2⟩
theorem mo{c:Co}{n:Int}(h:ez c n=true):(kf c n).length=n.toNat/\(rR c n).st.length+n.toNat=c.st.length:=by
 simp[ez]at h;simp[kf,rR,gw];omega
structure Cx(im:Im)(c:Co)(fr tr:Int)(o:Op)(f:Fr)(fn:Fn):Prop where
  hI:FN im
  h:fit im c=some o
  hl:c.fr.getLast?=some f
  w1:0<=f.pc/\f.pc<1000000000
  op:fS im f fn o=true
  po:ez c (fL im o)=true
  lf:c.fr.length<900000000
  ls:c.st.length<800000000
  lt:c.tr.length<900000000
namespace Cx
variable{im:Im}{c:Co}{fr tr:Int}{o:Op}{f:Fr}{fn:Fn}
theorem call(x:Cx im c fr tr o f fn)(hc:o.c=17):∃g,0<=o.a/\im.fs[o.a.toNat]?=some g/\eK .i64 g.args:=by
 obtain⟨k1,k2⟩:=within_iff.1 (pX hc x.op);obtain⟨g,hg⟩:∃g,im.fs[o.a.toNat]?=some g:=⟨_,aA (by omega)⟩
 exact⟨g,k1,hg,x.hI.args _ _ hg⟩
theorem NY(x:Cx im c fr tr o f fn):PH (cz im c o fr tr) f:=
 ⟨x.hl,by have:=x.lf;show c.fr.length<_;omega,by have:=x.ls;show c.st.length<_;omega,by have:=x.w1;omega,x.po,x.call⟩
theorem hs(x:Cx im c fr tr o f fn):c.st.length<1000000000:=by have:=x.ls;omega
theorem pos(x:Cx im c fr tr o f fn):0<c.fr.length:=by
 cases h:c.fr with
 |nil=>have:=x.hl;rw[h]at this;cases this
 |cons=>simp
theorem last(x:Cx im c fr tr o f fn):(bV c.fr f)[(bV c.fr f).length-1]?=some {f with pc:=f.pc+1}:=by
 have:=x.pos;rw[bV,ga,b_ (by omega)]
theorem qS(x:Cx im c fr tr o f fn):0<(bV c.fr f).length/\(bV c.fr f).length<1000000000:=by
 have:=x.pos;have:=x.lf;rw[bV,ga];omega
theorem tl(x:Cx im c fr tr o f fn):(nW (cz im c o fr tr)).length=(fL im o).toNat/\(jP (cz im c o fr tr)).length+(fL im o).toNat=c.st.length:=mo x.po
theorem sl(x:Cx im c fr tr o f fn):(jP (cz im c o fr tr)).length<800000000:=by have:=x.tl;have:=x.ls;omega
theorem SU(x:Cx im c fr tr o f fn)(h:fL im o=1):∃a,nW (cz im c o fr tr)=[a]:=by
 have:=x.tl.1;rw[h]at this
 match hh:nW (cz im c o fr tr),this with
 |[a],_=>exact⟨a,rfl⟩
theorem SR(x:Cx im c fr tr o f fn)(h:fL im o=2):∃a b,nW (cz im c o fr tr)=[a,b]:=by
 have:=x.tl.1;rw[h]at this
 match hh:nW (cz im c o fr tr),this with
 |[a,b],_=>exact⟨a,b,rfl⟩
end Cx
def fB(im:Im)(c:Co)(o:Op)(f:Fr)(l:List Va):Co×Ou:=(⟨bV c.fr f,jP (cz im c o 0 0)++l,c.tr⟩,cD)
def u7(im:Im)(c:Co)(o:Op):Va:=((nW (cz im c o 0 0))[0]?).getD zeroV
def qM(im:Im)(c:Co)(o:Op):Va:=((nW (cz im c o 0 0))[1]?).getD zeroV
def mw(im:Im)(c:Co)(fr tr:Int)(o:Op)(f:Fr):Co×Ou:=
 let exc:=λn=>raise c n (max tr 0)
 let a:=u7 im c o
 let b:=qM im c o
 let jmp:Co×Ou:=(⟨ed (bV c.fr f) { {f with pc:=f.pc+1}with pc:=o.a},jP (cz im c o 0 0),c.tr⟩,cD)
 bif o.c==1 then fB im c o f [(im.cs[o.a.toNat]?).getD zeroV]
 else bif o.c==2 then fB im c o f [(f.vars[o.a.toNat]?).getD zeroV]
 else bif o.c==4 then fB im c o f []
 else bif o.c==5 then fB im c o f [a,a]
 else bif o.c==6 then fB im c o f [b,a]
 else bif o.c==12 then fB im c o f [iY (Q_ a b)]
 else bif decide (7<=o.c)&&decide (o.c<=13)then(bif (a.k==1)&&(b.k==1)then(match p5 o.c a.n b.n with
  |.tu [.d (.int .i64 n),.d (.bool true)]=>fB im c o f [num n]
  |_=>exc (-2))else exc (-1))
 else bif o.c==14 then(bif a.k==1 then fB im c o f [iY (a.n==0)]else exc (-1))
 else bif o.c==15 then jmp
 else bif o.c==16 then(bif a.k==1 then(bif a.n==0 then fB im c o f []else jmp)else exc (-1))
 else bif o.c==17 then(bif db ⟨bV c.fr f,jP (cz im c o 0 0),c.tr⟩then(⟨(gA ⟨bV c.fr f,jP (cz im c o 0 0),c.tr⟩ o.a (match im.fs[o.a.toNat]? with|some g=>g.vars|none=>0) (nW (cz im c o 0 0)) f.ma).fr,jP (cz im c o 0 0),c.tr⟩,cD)else exc (-6))
 else bif o.c==18 then(bif decide (((fw c).fr.length:Int)<=max fr 0)then(fw c,⟨1,rQ c,o0⟩)else(⟨(fw c).fr,(fw c).st++[rQ c],(fw c).tr⟩,cD))
 else bif o.c==19 then(bif a.k==1 then exc a.n else exc (-1))
 else bif o.c==20 then(⟨bV c.fr f,jP (cz im c o 0 0),c.tr++[⟨(bV c.fr f).length,(jP (cz im c o 0 0)).length,o.a⟩]⟩,cD)
 else bif o.c==21 then(bif decide (max tr 0<c.tr.length)then(⟨bV c.fr f,jP (cz im c o 0 0),c.tr.take (c.tr.length-1)⟩,cD)else fB im c o f [])
 else bif o.c==44 then(⟨ed (bV c.fr f) { {f with pc:=f.pc+1}with ma:=ye o.a f.ma},jP (cz im c o 0 0),c.tr⟩,cD)
 else bif o.c==47 then fB im c o f [num f.ma]
 else(c,⟨3,zeroV,o⟩)
def XE(c:Int):Bool:= !((c==3)||(c==22)||(c==23)||(c==24)||(c==31))
def St(im:Im)(c:Co)(fr tr:Int)(r:Co×Ou):Prop:=Z0 71 [x4 im,gZ c,.d (.int .i64 fr),.d (.int .i64 tr)] (.tu [gZ r.1,ux r.2])
section
variable{im:Im}{c:Co}{fr tr:Int}{f:Fr}{fn:Fn}{oa:Int}
theorem um{o:Op}(x:Cx im c fr tr o f fn)(F i:Nat)(l:List Va)(hq:∀id,qI [0,3] [.d (.int .i64 o.c)] (D7 id) 0=some (some (i,.fc F [.p id 0])))(hF1:Nat.blt F 1000000=false)(hF2:Nat.blt F 2000000=true)
  (hM:uX (F-1000000) (cz im c o fr tr) (jP (cz im c o fr tr)) (jP (cz im c o fr tr)++l) c.tr (nW (cz im c o fr tr)) (bV c.fr f)):St im c fr tr (fB im c o f l):=
 Fi im c fr tr o f F i x.hI x.hs x.h x.NY hq hF1 hF2 (bV c.fr f) (jP (cz im c o fr tr)++l) c.tr hM
theorem rF{o:Op}(x:Cx im c fr tr o f fn)(F i:Nat)(frs':List Fr)(ts':List Tr)(hq:∀id,qI [0,3] [.d (.int .i64 o.c)] (D7 id) 0=some (some (i,.fc F [.p id 0])))(hF1:Nat.blt F 1000000=false)(hF2:Nat.blt F 2000000=true)
  (hM:jH (F-1000000) (cz im c o fr tr) (jP (cz im c o fr tr)) c.tr ts' (nW (cz im c o fr tr)) (bV c.fr f) frs' false 0):St im c fr tr (⟨frs',jP (cz im c o 0 0),ts'⟩,cD):=
 P8 im c fr tr o f F i x.hI x.hs x.h x.NY hq hF1 hF2 frs' (jP (cz im c o fr tr)) ts' hM
theorem yx{o:Op}(x:Cx im c fr tr o f fn)(F i:Nat)(n:Int)(hq:∀id,qI [0,3] [.d (.int .i64 o.c)] (D7 id) 0=some (some (i,.fc F [.p id 0])))(hF1:Nat.blt F 1000000=false)(hF2:Nat.blt F 2000000=true)
  (hM:jH (F-1000000) (cz im c o fr tr) (jP (cz im c o fr tr)) c.tr c.tr (nW (cz im c o fr tr)) (bV c.fr f) (bV c.fr f) true n):St im c fr tr (raise c n (max tr 0)):=
 P7 im c fr tr o f F i x.hI x.hs x.h x.NY hq hF1 hF2 (bV c.fr f) (jP (cz im c o fr tr)) c.tr n (by have:=x.lf;omega) hM
theorem Wv(x:Cx im c fr tr ⟨1,oa⟩ f fn):St im c fr tr (mw im c fr tr ⟨1,oa⟩ f):=by
 have hw:within oa im.cs.length=true:=x.op;obtain⟨k1,k2⟩:=within_iff.1 hw;obtain⟨v,hv⟩:∃v,im.cs[oa.toNat]?=some v:=⟨_,aA (by omega)⟩
 have e:mw im c fr tr ⟨1,oa⟩ f=fB im c ⟨1,oa⟩ f [v]:=by
  show fB im c ⟨1,oa⟩ f [(im.cs[oa.toNat]?).getD zeroV]=_;rw[hv];rfl
 rw[e];exact um x 1000145 0 [v] (λ_=>rfl) rfl rfl (QC _ _ _ _ _ v (by have:=x.sl;omega) k1 hv)
theorem Wu(x:Cx im c fr tr ⟨2,oa⟩ f fn):St im c fr tr (mw im c fr tr ⟨2,oa⟩ f):=by
 have hw:within oa f.vars.length=true:=x.op;obtain⟨k1,k2⟩:=within_iff.1 hw;obtain⟨v,hv⟩:∃v,f.vars[oa.toNat]?=some v:=⟨_,aA (by omega)⟩
 have e:mw im c fr tr ⟨2,oa⟩ f=fB im c ⟨2,oa⟩ f [v]:=by
  show fB im c ⟨2,oa⟩ f [(f.vars[oa.toNat]?).getD zeroV]=_;rw[hv];rfl
 rw[e];exact um x 1000146 1 [v] (λ_=>rfl) rfl rfl (Qc _ _ _ _ _ {f with pc:=f.pc+1} v (by have:=x.sl;omega) x.qS.1 x.qS.2 x.last k1 hv)
theorem X9(x:Cx im c fr tr ⟨4,oa⟩ f fn):St im c fr tr (mw im c fr tr ⟨4,oa⟩ f):=by
 have e:mw im c fr tr ⟨4,oa⟩ f=(⟨bV c.fr f,jP (cz im c ⟨4,oa⟩ 0 0),c.tr⟩,cD):=by
  show fB im c ⟨4,oa⟩ f []=_;simp[fB]
 rw[e];exact rF x 1000148 3 _ _ (λ_=>rfl) rfl rfl (Sn _ _ _ _ _)
theorem t0{o:Op}{a:Va}{l:List Va}(h:nW (cz im c o fr tr)=a::l):u7 im c o=a:=by
 have:nW (cz im c o 0 0)=a::l:=h;simp[u7,this]
theorem t1{o:Op}{a b:Va}{l:List Va}(h:nW (cz im c o fr tr)=a::b::l):qM im c o=b:=by
 have:nW (cz im c o 0 0)=a::b::l:=h;simp[qM,this]
theorem X8(x:Cx im c fr tr ⟨5,oa⟩ f fn):St im c fr tr (mw im c fr tr ⟨5,oa⟩ f):=by
 obtain⟨a,ha⟩:=x.SU rfl;have e:mw im c fr tr ⟨5,oa⟩ f=fB im c ⟨5,oa⟩ f [a,a]:=by
  show fB im c ⟨5,oa⟩ f [u7 im c ⟨5,oa⟩,u7 im c ⟨5,oa⟩]=_;rw[t0 ha]
 rw[e];refine um x 1000149 4 [a,a] (λ_=>rfl) rfl rfl ?_;rw[ha];have:=UN (cz im c ⟨5,oa⟩ fr tr) (jP (cz im c ⟨5,oa⟩ fr tr)) c.tr a (bV c.fr f) (by have:=x.sl;omega);rwa[bN]at this
theorem X7(x:Cx im c fr tr ⟨6,oa⟩ f fn):St im c fr tr (mw im c fr tr ⟨6,oa⟩ f):=by
 obtain⟨a,b,ha⟩:=x.SR rfl;have e:mw im c fr tr ⟨6,oa⟩ f=fB im c ⟨6,oa⟩ f [b,a]:=by
  show fB im c ⟨6,oa⟩ f [qM im c ⟨6,oa⟩,u7 im c ⟨6,oa⟩]=_;rw[t0 ha,t1 ha]
 rw[e];refine um x 1000150 5 [b,a] (λ_=>rfl) rfl rfl ?_;rw[ha];have:=P3 (cz im c ⟨6,oa⟩ fr tr) (jP (cz im c ⟨6,oa⟩ fr tr)) c.tr a b (bV c.fr f) (by have:=x.sl;omega);rwa[bN]at this
theorem Ve(x:Cx im c fr tr ⟨12,oa⟩ f fn):St im c fr tr (mw im c fr tr ⟨12,oa⟩ f):=by
 obtain⟨a,b,ha⟩:=x.SR rfl;have e:mw im c fr tr ⟨12,oa⟩ f=fB im c ⟨12,oa⟩ f [iY (Q_ a b)]:=by
  show fB im c ⟨12,oa⟩ f [iY (Q_ (u7 im c ⟨12,oa⟩) (qM im c ⟨12,oa⟩))]=_;rw[t0 ha,t1 ha]
 rw[e];refine um x 1000152 11 [iY (Q_ a b)] (λ_=>rfl) rfl rfl ?_;rw[ha];exact Vw (cz im c ⟨12,oa⟩ fr tr) (jP (cz im c ⟨12,oa⟩ fr tr)) c.tr a b (bV c.fr f) (by have:=x.sl;omega)
theorem L7(k a b:Int):(∃n,p5 k a b=lq n)\/p5 k a b=qR:=by
 unfold p5;cases k==7<;>cases k==8<;>cases k==9<;>cases k==10<;>cases k==11<;>cases k==12<;>simp only[δ,ε] <;>
  first
   |exact .inl ⟨_,rfl⟩
   |(cases b==0<;>simp only[δ,ε]<;>first|exact .inl ⟨_,rfl⟩|exact .inr trivial|exact .inr rfl)
def Tf(im:Im)(c:Co)(tr:Int)(o:Op)(f:Fr):Co×Ou:=
 bif ((u7 im c o).k==1)&&((qM im c o).k==1)then(match p5 o.c (u7 im c o).n (qM im c o).n with
  |.tu [.d (.int .i64 n),.d (.bool true)]=>fB im c o f [num n]
  |_=>raise c (-2) (max tr 0))else raise c (-1) (max tr 0)
theorem Ru{o:Op}(x:Cx im c fr tr o f fn)(i:Nat)(hc:7<=o.c/\o.c<=13)(ht:fL im o=2)(hq:∀id,qI [0,3] [.d (.int .i64 o.c)] (D7 id) 0=some (some (i,.fc 1000151 [.p id 0]))):St im c fr tr (Tf im c tr o f):=by
 obtain⟨a,b,ha⟩:=x.SR ht;have h0:=t0 ha;have h1:=t1 ha;unfold Tf;rw[h0,h1]
 by_cases hab:a.k=1/\b.k=1
 .rw[show((a.k==1)&&(b.k==1))=true by simp[hab.1,hab.2]];simp only[δ];rcases L7 o.c a.n b.n with⟨n,hn⟩|hn
  .rw[hn];refine um x 1000151 i [num n] hq rfl rfl ?_;rw[ha];exact EE (cz im c o fr tr) _ c.tr a b (bV c.fr f) n (by have:=x.sl;omega) hc hab.1 hab.2 hn
  .rw[hn];refine yx x 1000151 i (-2) hq rfl rfl ?_;rw[ha];exact ED (cz im c o fr tr) _ c.tr a b (bV c.fr f) hc hab.1 hab.2 hn
 .have e:((a.k==1)&&(b.k==1))=false:=by
   cases hh:((a.k==1)&&(b.k==1)) with
   |false=>rfl
   |true=>simp at hh;exact absurd hh hab
  rw[e];refine yx x 1000151 i (-1) hq rfl rfl ?_;rw[ha];exact EC (cz im c o fr tr) _ c.tr a b (bV c.fr f) hab
end
end
section
variable{im:Im}{c:Co}{fr tr:Int}{f:Fr}{fn:Fn}{oa:Int}
theorem zO{a b:Int}(h:a=b):(a==b)=true:=by simp[h]
theorem ra{a b:Int}(h:¬a=b):(a==b)=false:=by simp[h]
theorem Tz(o:Op):fB im c o f []=(⟨bV c.fr f,jP (cz im c o 0 0),c.tr⟩,cD):=by simp[fB]
theorem Vd(x:Cx im c fr tr ⟨14,oa⟩ f fn):St im c fr tr (mw im c fr tr ⟨14,oa⟩ f):=by
 obtain⟨a,ha⟩:=x.SU rfl;have e:mw im c fr tr ⟨14,oa⟩ f=bif a.k==1 then fB im c ⟨14,oa⟩ f [iY (a.n==0)]else raise c (-1) (max tr 0):=by
  show(bif (u7 im c ⟨14,oa⟩).k==1 then fB im c ⟨14,oa⟩ f [iY ((u7 im c ⟨14,oa⟩).n==0)]else raise c (-1) (max tr 0))=_;rw[t0 ha]
 rw[e]
 by_cases hk:a.k=1
 .rw[zO hk,δ];refine um x 1000153 13 _ (λ_=>rfl) rfl rfl ?_;rw[ha];exact Q1 (cz im c ⟨14,oa⟩ fr tr) _ c.tr a (bV c.fr f) (by have:=x.sl;omega) hk
 .rw[ra hk,ε];refine yx x 1000153 13 (-1) (λ_=>rfl) rfl rfl ?_;rw[ha];exact Q0 (cz im c ⟨14,oa⟩ fr tr) _ c.tr a (bV c.fr f) hk
theorem Vc(x:Cx im c fr tr ⟨15,oa⟩ f fn):St im c fr tr (mw im c fr tr ⟨15,oa⟩ f):=
 rF x 1000154 14 _ _ (λ_=>rfl) rfl rfl (H7 (cz im c ⟨15,oa⟩ fr tr) _ c.tr _ (bV c.fr f) {f with pc:=f.pc+1} x.qS.1 x.qS.2 x.last)
theorem Vb(x:Cx im c fr tr ⟨16,oa⟩ f fn):St im c fr tr (mw im c fr tr ⟨16,oa⟩ f):=by
 obtain⟨a,ha⟩:=x.SU rfl;have e:mw im c fr tr ⟨16,oa⟩ f=bif a.k==1 then(bif a.n==0 then fB im c ⟨16,oa⟩ f []else(⟨ed (bV c.fr f) { {f with pc:=f.pc+1}with pc:=oa},jP (cz im c ⟨16,oa⟩ 0 0),c.tr⟩,cD))else raise c (-1) (max tr 0):=by
  show(bif (u7 im c ⟨16,oa⟩).k==1 then(bif (u7 im c ⟨16,oa⟩).n==0 then fB im c ⟨16,oa⟩ f []else _)else raise c (-1) (max tr 0))=_;rw[t0 ha]
 rw[e]
 by_cases hk:a.k=1
 .rw[zO hk,δ]
  by_cases hn:a.n=0
  .rw[zO hn,δ,Tz];refine rF x 1000155 15 _ _ (λ_=>rfl) rfl rfl ?_;rw[ha];exact EZ (cz im c ⟨16,oa⟩ fr tr) _ c.tr a (bV c.fr f) hk hn
  .rw[ra hn,ε];refine rF x 1000155 15 _ _ (λ_=>rfl) rfl rfl ?_;rw[ha];exact E0 (cz im c ⟨16,oa⟩ fr tr) _ c.tr a (bV c.fr f) {f with pc:=f.pc+1} x.qS.1 x.qS.2 x.last hk hn
 .rw[ra hk,ε];refine yx x 1000155 15 (-1) (λ_=>rfl) rfl rfl ?_;rw[ha];exact EY (cz im c ⟨16,oa⟩ fr tr) _ c.tr a (bV c.fr f) hk
theorem V9(x:Cx im c fr tr ⟨17,oa⟩ f fn):St im c fr tr (mw im c fr tr ⟨17,oa⟩ f):=by
 obtain⟨g,h0,hg,_⟩:=x.call rfl;have hlen:=x.qS;have hpo:=mo x.po;have htk:(nW (cz im c ⟨17,oa⟩ fr tr)).length<1000000000:=by have:=x.tl;have:=x.ls;omega
 have e:mw im c fr tr ⟨17,oa⟩ f=bif db ⟨bV c.fr f,jP (cz im c ⟨17,oa⟩ 0 0),c.tr⟩then(⟨(gA ⟨bV c.fr f,jP (cz im c ⟨17,oa⟩ 0 0),c.tr⟩ oa g.vars (nW (cz im c ⟨17,oa⟩ 0 0)) f.ma).fr,jP (cz im c ⟨17,oa⟩ 0 0),c.tr⟩,cD)else raise c (-6) (max tr 0):=by
  show(bif db ⟨bV c.fr f,jP (cz im c ⟨17,oa⟩ 0 0),c.tr⟩then(⟨(gA ⟨bV c.fr f,jP (cz im c ⟨17,oa⟩ 0 0),c.tr⟩ oa (match im.fs[oa.toNat]? with|some g=>g.vars|none=>0) (nW (cz im c ⟨17,oa⟩ 0 0)) f.ma).fr,jP (cz im c ⟨17,oa⟩ 0 0),c.tr⟩,cD)else raise c (-6) (max tr 0))=_;rw[hg]
 rw[e];cases hy:db ⟨bV c.fr f,jP (cz im c ⟨17,oa⟩ 0 0),c.tr⟩ with
 |true=>
  rw[δ];exact Fi im c fr tr ⟨17,oa⟩ f 1000156 16 x.hI x.hs x.h x.NY (λ_=>rfl) rfl rfl _ (jP (cz im c ⟨17,oa⟩ fr tr)) c.tr (λK hk=>Mp (cz im c ⟨17,oa⟩ fr tr) _ c.tr _ (bV c.fr f) {f with pc:=f.pc+1} g hlen.1 hlen.2 htk x.last h0 hg hy hk)
 |false=>
  rw[ε];exact P5 im c fr tr ⟨17,oa⟩ f 1000156 16 x.hI x.hs x.h x.NY (λ_=>rfl) rfl rfl (bV c.fr f) (jP (cz im c ⟨17,oa⟩ fr tr)) c.tr (-6) (by have:=x.lf;omega) (λK hk=>Mo (cz im c ⟨17,oa⟩ fr tr) _ c.tr _ (bV c.fr f) {f with pc:=f.pc+1} g hlen.1 hlen.2 htk x.last h0 hg hy hk)
theorem T9(x:Cx im c fr tr ⟨18,oa⟩ f fn):St im c fr tr (mw im c fr tr ⟨18,oa⟩ f):=by
 have hlf:=x.lf;have hls:=x.ls;have hlt:=x.lt;have hpos:=x.pos;have hpo:ez c 1=true:=x.po;have hy:oU c=true:=by simp[oU,hpo,hpos]
 have hl2:(fw c).st.length<1000000000:=by
  show(gw c.st (base c)).length<_;simp only[gw,bC];omega
 have e:mw im c fr tr ⟨18,oa⟩ f=bif decide (((fw c).fr.length:Int)<=max fr 0)then(fw c,⟨1,rQ c,o0⟩)else(⟨(fw c).fr,(fw c).st++[rQ c],(fw c).tr⟩,cD):=rfl;rw[e]
 by_cases hn:((fw c).fr.length:Int)<=max fr 0
 .rw[show decide (((fw c).fr.length:Int)<=max fr 0)=true by simpa using hn,δ];exact Fh im c fr tr ⟨18,oa⟩ f 1000157 17 x.hI x.hs x.h x.NY (λ_=>rfl) rfl rfl (fw c).fr (bV c.fr f) (fw c).st (fw c).tr ⟨1,rQ c,o0⟩ (λK hk=>Pt (cz im c ⟨18,oa⟩ fr tr) _ c.tr _ (bV c.fr f) (by show c.fr.length<_;omega) (by show c.st.length<_;omega) (by show c.tr.length<_;omega) hy hn hk)
 .rw[show decide (((fw c).fr.length:Int)<=max fr 0)=false by simpa using hn,ε];exact Fh im c fr tr ⟨18,oa⟩ f 1000157 17 x.hI x.hs x.h x.NY (λ_=>rfl) rfl rfl (fw c).fr (bV c.fr f) ((fw c).st++[rQ c]) (fw c).tr cD (λK hk=>Ps (cz im c ⟨18,oa⟩ fr tr) _ c.tr _ (bV c.fr f) (by show c.fr.length<_;omega) (by show c.st.length<_;omega) (by show c.tr.length<_;omega) hl2 hy hn hk)
theorem V8(x:Cx im c fr tr ⟨19,oa⟩ f fn):St im c fr tr (mw im c fr tr ⟨19,oa⟩ f):=by
 obtain⟨a,ha⟩:=x.SU rfl;have e:mw im c fr tr ⟨19,oa⟩ f=bif a.k==1 then raise c a.n (max tr 0)else raise c (-1) (max tr 0):=by
  show(bif (u7 im c ⟨19,oa⟩).k==1 then raise c (u7 im c ⟨19,oa⟩).n (max tr 0)else raise c (-1) (max tr 0))=_;rw[t0 ha]
 rw[e]
 by_cases hk:a.k=1
 .rw[zO hk,δ];refine yx x 1000158 18 a.n (λ_=>rfl) rfl rfl ?_;rw[ha];exact Fb (cz im c ⟨19,oa⟩ fr tr) _ c.tr a (bV c.fr f) hk
 .rw[ra hk,ε];refine yx x 1000158 18 (-1) (λ_=>rfl) rfl rfl ?_;rw[ha];exact Fa (cz im c ⟨19,oa⟩ fr tr) _ c.tr a (bV c.fr f) hk
theorem V7(x:Cx im c fr tr ⟨20,oa⟩ f fn):St im c fr tr (mw im c fr tr ⟨20,oa⟩ f):=
 rF x 1000159 19 _ _ (λ_=>rfl) rfl rfl (SQ (cz im c ⟨20,oa⟩ fr tr) _ c.tr _ (bV c.fr f) (by have:=x.lt;omega))
theorem V6(x:Cx im c fr tr ⟨21,oa⟩ f fn):St im c fr tr (mw im c fr tr ⟨21,oa⟩ f):=by
 have e:mw im c fr tr ⟨21,oa⟩ f=bif decide (max tr 0<c.tr.length)then(⟨bV c.fr f,jP (cz im c ⟨21,oa⟩ 0 0),c.tr.take (c.tr.length-1)⟩,cD)else fB im c ⟨21,oa⟩ f []:=rfl;rw[e]
 by_cases hn:max tr 0<(c.tr.length:Int)
 .rw[show decide (max tr 0<(c.tr.length:Int))=true by simpa using hn,δ];exact P6 im c fr tr ⟨21,oa⟩ f 1000160 20 x.hI x.hs x.h x.NY (λ_=>rfl) rfl rfl (bV c.fr f) (jP (cz im c ⟨21,oa⟩ fr tr)) (c.tr.take (c.tr.length-1)) (λK hk=>RB (cz im c ⟨21,oa⟩ fr tr) _ c.tr _ (bV c.fr f) hn (by show 0<=max tr 0;omega) hk)
 .rw[show decide (max tr 0<(c.tr.length:Int))=false by simpa using hn,ε,Tz];exact rF x 1000160 20 _ _ (λ_=>rfl) rfl rfl (λK hk=>RA (cz im c ⟨21,oa⟩ fr tr) _ c.tr _ (bV c.fr f) hn hk)
theorem V3(x:Cx im c fr tr ⟨44,oa⟩ f fn):St im c fr tr (mw im c fr tr ⟨44,oa⟩ f):=
 rF x 1000165 25 _ _ (λ_=>rfl) rfl rfl (Qf (cz im c ⟨44,oa⟩ fr tr) _ c.tr _ (bV c.fr f) {f with pc:=f.pc+1} x.qS.1 x.qS.2 x.last)
theorem V2(x:Cx im c fr tr ⟨47,oa⟩ f fn)(hma:0<=f.ma/\f.ma<=255):St im c fr tr (mw im c fr tr ⟨47,oa⟩ f):=
 um x 1000166 26 [num f.ma] (λ_=>rfl) rfl rfl (Sr (cz im c ⟨47,oa⟩ fr tr) _ c.tr _ (bV c.fr f) {f with pc:=f.pc+1} (by have:=x.sl;omega) x.qS.1 x.qS.2 x.last hma)
theorem ui{o:Op}(x:Cx im c fr tr o f fn)(hq:∀id,qI [0,3] [.d (.int .i64 o.c)] (D7 id) 0=some none):St im c fr tr (c,⟨3,zeroV,o⟩):=
 SX im c fr tr o x.hI x.hs x.h hq
theorem T8{o:Op}(x:Cx im c fr tr o f fn)(hma:0<=f.ma/\f.ma<=255)(hd:XE o.c=true)(hr:jN o=true):St im c fr tr (mw im c fr tr o f):=by
 obtain⟨k,oa⟩:=o;have hk:1<=k/\k<=47:=by
  unfold jN at hr;cases hi:inf k with
  |none=>rw[hi]at hr;cases hr
  |some i=>have:=te hi;omega
 have h47:k=1\/k=2\/k=3\/k=4\/k=5\/k=6\/k=7\/k=8\/k=9\/k=10\/k=11\/k=12\/k=13\/k=14\/k=15\/k=16\/k=17\/k=18\/k=19\/k=20\/k=21\/k=22\/k=23\/k=24\/k=25\/k=26\/k=27\/k=28\/k=29\/k=30\/k=31\/k=32\/k=33\/k=34\/k=35\/k=36\/k=37\/k=38\/k=39\/k=40\/k=41\/k=42\/k=43\/k=44\/k=45\/k=46\/k=47:=by omega
 rcases h47 with rfl|rfl|rfl|rfl|rfl|rfl|rfl|rfl|rfl|rfl|rfl|rfl|rfl|rfl|rfl|rfl|rfl|rfl|rfl|rfl|rfl|rfl|rfl|rfl|rfl|rfl|rfl|rfl|rfl|rfl|rfl|rfl|rfl|rfl|rfl|rfl|rfl|rfl|rfl|rfl|rfl|rfl|rfl|rfl|rfl|rfl|rfl
 .exact Wv x
 .exact Wu x
 .exact absurd hd jU
 .exact X9 x
 .exact X8 x
 .exact X7 x
 .exact Ru x 6 (show(7:Int)<=7/\(7:Int)<=13 by decide) rfl (λ_=>rfl)
 .exact Ru x 7 (show(7:Int)<=8/\(8:Int)<=13 by decide) rfl (λ_=>rfl)
 .exact Ru x 8 (show(7:Int)<=9/\(9:Int)<=13 by decide) rfl (λ_=>rfl)
 .exact Ru x 9 (show(7:Int)<=10/\(10:Int)<=13 by decide) rfl (λ_=>rfl)
 .exact Ru x 10 (show(7:Int)<=11/\(11:Int)<=13 by decide) rfl (λ_=>rfl)
 .exact Ve x
 .exact Ru x 12 (show(7:Int)<=13/\(13:Int)<=13 by decide) rfl (λ_=>rfl)
 .exact Vd x
 .exact Vc x
 .exact Vb x
 .exact V9 x
 .exact T9 x
 .exact V8 x
 .exact V7 x
 .exact V6 x
 .exact absurd hd jU
 .exact absurd hd jU
 .exact absurd hd jU
 .exact ui x (λ_=>rfl)
 .exact ui x (λ_=>rfl)
 .exact ui x (λ_=>rfl)
 .exact ui x (λ_=>rfl)
 .exact ui x (λ_=>rfl)
 .exact ui x (λ_=>rfl)
 .exact absurd hd jU
 .exact ui x (λ_=>rfl)
 .exact ui x (λ_=>rfl)
 .exact ui x (λ_=>rfl)
 .exact ui x (λ_=>rfl)
 .exact ui x (λ_=>rfl)
 .exact ui x (λ_=>rfl)
 .exact ui x (λ_=>rfl)
 .exact ui x (λ_=>rfl)
 .exact ui x (λ_=>rfl)
 .exact ui x (λ_=>rfl)
 .exact ui x (λ_=>rfl)
 .exact ui x (λ_=>rfl)
 .exact V3 x
 .exact ui x (λ_=>rfl)
 .exact ui x (λ_=>rfl)
 .exact V2 x hma
end
def c00:Co:=⟨[],[],[]⟩
theorem Ko(m:Mh)(st:List Va)(ts:List Tr)(a:Va)(bY:List Fr)(f:Fr)(hl:0<bY.length)(hlf:bY.length<1000000000)(hf:bY[bY.length-1]?=some f)(hv:f.vars.length<1000000000)(h0:0<=m.o.a)(h1:m.o.a<f.vars.length) :
  jH 147 m st ts ts [a] bY (ed bY {f with vars:=f.vars.set m.o.a.toNat a}) false 0:=by
 intro K hk;have hrow:=nC hl hf;rw[<-nD hl]at hk;have e:bS {f with vars:=f.vars.set m.o.a.toNat a}=[.int .i64 f.fu,.int .i64 f.pc,.int .i64 f.ba,.int .u8 f.ma,.sl 5 ((f.vars.map cE).set m.o.a.toNat (cE a))]:=by simp[bS]
 rw[e]at hk;obtain⟨v0,hv0⟩:∃v0,f.vars[m.o.a.toNat]?=some v0:=⟨_,aA (by omega)⟩
 have hvr:(f.vars.map cE)[m.o.a.toNat]?=some (cE v0):=by simp[hv0]
 refine sh0 Tryz.f147 ?_
 repeat' ((conv=>whnf);first|exact zf|refine zm ?_|refine zr0 ?_|refine vC m st ts [a] cD false 0 _ (by simp;omega) (by simp;omega) ?_|intro _)
 refine⟨bS f,hrow,?_⟩
 repeat' ((conv=>whnf);first|exact zf|refine LG ?_|refine zm ?_|refine zr0 ?_|refine sL (f.vars.map cE) (by simpa using hv) ?_|intro _)
 conv=>whnf
 refine⟨bS f,hrow,⟨rfl,rfl,rfl⟩,?_⟩
 repeat' ((conv=>whnf);first|exact zf|refine zm ?_|intro _)
 refine⟨cE a,⟨by decide,rfl,rfl⟩,?_⟩
 repeat' ((conv=>whnf);first|exact zf|refine zm ?_|refine And.intro ⟨h0,by simpa using h1,rfl⟩ ?_|intro _)
 refine⟨cE v0,hvr,⟨rfl,rfl,rfl⟩,?_⟩
 repeat' ((conv=>whnf);first|exact zf|refine zm ?_|intro _)
 conv=>whnf
 exact hk
def rB(l:Lb):Va:=⟨2,0,[],l.s,l.i⟩
def a_(v:Va):Lb:=⟨v.ls,v.li⟩
theorem C5{K:KT}(m:Mh)(st:List Va)(ts:List Tr)(tk:List Va)(u:Ou)(wr:Bool)(cd:Int)(fs:List Fr)(l:Lb)(hs:st.length<1000000000)
  (hk:K (.ret (.tu [])) [.cells (iV m (.d (.sl 5 (fs.map bS))) (st++[rB l]) ts (hT tk) u wr cd),.no]) :
  Z1 227 [.p 0 0,je l] [.cells (iV m (.os 1) st ts (hT tk) u wr cd),.rows 5 (fs.map bS)] K:=by
 refine sh0 Tryz.f227 ?_
 repeat' ((conv=>whnf);first|exact zf|refine zm ?_|refine zr0 ?_|refine lz m st ts tk u wr cd fs (rB l) hs ?_|intro _)
 conv=>whnf
 exact hk
theorem L_(m:Mh)(st:List Va)(ts:List Tr)(a b:Va)(bY:List Fr)(hs:st.length<1000000000)(ha:cL (a_ a))(hb:cL (a_ b)):FF 226 [j7 a,j7 b] m st (st++[rB (da (a_ a) (a_ b))]) ts [a,b] bY:=by
 intro K hk;have h:=tZ (a_ a) (a_ b) ha hb;refine sh0 Tryz.f226 ?_
 repeat' ((conv=>whnf);first|exact zf|refine zm ?_|refine zc h ?_|refine zr0 ?_|refine C5 m st ts [a,b] cD false 0 bY (da (a_ a) (a_ b)) hs ?_|intro _)
 conv=>whnf
 exact hk
theorem Lj(m:Mh)(st:List Va)(ts:List Tr)(a b:Va)(bY:List Fr)(hs:st.length<1000000000)(ha:cL (a_ a))(hb:cL (a_ b)):FF 228 [j7 a,j7 b] m st (st++[rB (nA (a_ a) (a_ b))]) ts [a,b] bY:=by
 intro K hk;have h:=HD (a_ a) (a_ b) ha hb;refine sh0 Tryz.f228 ?_
 repeat' ((conv=>whnf);first|exact zf|refine zm ?_|refine zc h ?_|refine zr0 ?_|refine C5 m st ts [a,b] cD false 0 bY (nA (a_ a) (a_ b)) hs ?_|intro _)
 conv=>whnf
 exact hk
theorem Ly(m:Mh)(st:List Va)(ts:List Tr)(a b:Va)(bY:List Fr)(hs:st.length<1000000000)(ha:a.k=2)(hb:b.k=2)(hla:cL (a_ a))(hlb:cL (a_ b)):uX 161 m st (st++[rB (da (a_ a) (a_ b))]) ts [a,b] bY:=by
 intro K hk;refine sh0 Tryz.f161 ?_
 repeat' ((conv=>whnf);first|exact zf|refine zm ?_|refine zr0 ?_|refine AB 226 rfl m st (st++[rB (da (a_ a) (a_ b))]) ts a b 2 bY ha hb (L_ m st ts a b bY hs hla hlb) ?_|intro _)
 exact hk
theorem Lx(m:Mh)(st:List Va)(ts:List Tr)(a b:Va)(bY:List Fr)(hab:¬(a.k=2/\b.k=2)):jH 161 m st ts ts [a,b] bY bY true (-1):=by
 intro K hk;refine sh0 Tryz.f161 ?_
 repeat' ((conv=>whnf);first|exact zf|refine zm ?_|refine zr0 ?_|refine AA 226 m st ts a b 2 bY hab ?_|intro _)
 exact hk
theorem Li(m:Mh)(st:List Va)(ts:List Tr)(a b:Va)(bY:List Fr)(hs:st.length<1000000000)(ha:a.k=2)(hb:b.k=2)(hla:cL (a_ a))(hlb:cL (a_ b)):uX 162 m st (st++[rB (nA (a_ a) (a_ b))]) ts [a,b] bY:=by
 intro K hk;refine sh0 Tryz.f162 ?_
 repeat' ((conv=>whnf);first|exact zf|refine zm ?_|refine zr0 ?_|refine AB 228 rfl m st (st++[rB (nA (a_ a) (a_ b))]) ts a b 2 bY ha hb (Lj m st ts a b bY hs hla hlb) ?_|intro _)
 exact hk
theorem Lh(m:Mh)(st:List Va)(ts:List Tr)(a b:Va)(bY:List Fr)(hab:¬(a.k=2/\b.k=2)):jH 162 m st ts ts [a,b] bY bY true (-1):=by
 intro K hk;refine sh0 Tryz.f162 ?_
 repeat' ((conv=>whnf);first|exact zf|refine zm ?_|refine zr0 ?_|refine AA 228 m st ts a b 2 bY hab ?_|intro _)
 exact hk
def CO(im:Im)(c:Co)(fr tr:Int)(o:Op)(f:Fr):Co×Ou:=
 let a:=u7 im c o
 let b:=qM im c o
 bif o.c==3 then(⟨ed (bV c.fr f) { {f with pc:=f.pc+1}with vars:=f.vars.set o.a.toNat a},jP (cz im c o 0 0),c.tr⟩,cD)
 else bif o.c==22 then(bif (a.k==2)&&(b.k==2)then fB im c o f [rB (da (a_ a) (a_ b))]else raise c (-1) (max tr 0))
 else bif o.c==23 then(bif (a.k==2)&&(b.k==2)then fB im c o f [rB (nA (a_ a) (a_ b))]else raise c (-1) (max tr 0))
 else mw im c fr tr o f
section
variable{im:Im}{c:Co}{fr tr:Int}{f:Fr}{fn:Fn}{oa:Int}
theorem Xa(x:Cx im c fr tr ⟨3,oa⟩ f fn)(hv:f.vars.length<1000000000):St im c fr tr (CO im c fr tr ⟨3,oa⟩ f):=by
 have hw:within oa f.vars.length=true:=x.op;obtain⟨k1,k2⟩:=within_iff.1 hw;obtain⟨a,ha⟩:=x.SU rfl;have e:CO im c fr tr ⟨3,oa⟩ f=(⟨ed (bV c.fr f) { {f with pc:=f.pc+1}with vars:=f.vars.set oa.toNat a},jP (cz im c ⟨3,oa⟩ 0 0),c.tr⟩,cD):=by
  show((⟨ed (bV c.fr f) { {f with pc:=f.pc+1}with vars:=f.vars.set oa.toNat (u7 im c ⟨3,oa⟩)},jP (cz im c ⟨3,oa⟩ 0 0),c.tr⟩:Co),cD)=_;rw[t0 ha]
 rw[e];refine rF x 1000147 2 _ _ (λ_=>rfl) rfl rfl ?_;rw[ha];exact Ko (cz im c ⟨3,oa⟩ fr tr) (jP (cz im c ⟨3,oa⟩ fr tr)) c.tr a (bV c.fr f) {f with pc:=f.pc+1} x.qS.1 x.qS.2 x.last hv k1 k2
theorem rm{o:Op}{v:Va}(h:v∈nW (cz im c o fr tr)):v∈c.st:=dJ h
theorem V5(x:Cx im c fr tr ⟨22,oa⟩ f fn)(hm:∀v∈c.st,cL (a_ v)):St im c fr tr (CO im c fr tr ⟨22,oa⟩ f):=by
 obtain⟨a,b,ha⟩:=x.SR rfl;have ma:cL (a_ a):=hm a (rm (im:=im) (o:=⟨22,oa⟩) (fr:=fr) (tr:=tr) (by rw[ha];simp));have mb:cL (a_ b):=hm b (rm (im:=im) (o:=⟨22,oa⟩) (fr:=fr) (tr:=tr) (by rw[ha];simp));have e:CO im c fr tr ⟨22,oa⟩ f=(bif (a.k==2)&&(b.k==2)then fB im c ⟨22,oa⟩ f [rB (da (a_ a) (a_ b))]else raise c (-1) (max tr 0)):=by
  show(bif ((u7 im c ⟨22,oa⟩).k==2)&&((qM im c ⟨22,oa⟩).k==2)then fB im c ⟨22,oa⟩ f [rB (da (a_ (u7 im c ⟨22,oa⟩)) (a_ (qM im c ⟨22,oa⟩)))]else raise c (-1) (max tr 0))=_;rw[t0 ha,t1 ha]
 rw[e]
 by_cases hab:a.k=2/\b.k=2
 .rw[zO hab.1,zO hab.2];refine um x 1000161 21 [rB (da (a_ a) (a_ b))] (λ_=>rfl) rfl rfl ?_;rw[ha];exact Ly _ _ _ a b _ (by have:=x.sl;omega) hab.1 hab.2 ma mb
 .have e2:((a.k==2)&&(b.k==2))=false:=by
   cases h:(a.k==2)&&(b.k==2) with
   |false=>rfl
   |true=>simp at h;exact absurd h hab
  rw[e2];refine yx x 1000161 21 (-1) (λ_=>rfl) rfl rfl ?_;rw[ha];exact Lx _ _ _ a b _ hab
theorem V4(x:Cx im c fr tr ⟨23,oa⟩ f fn)(hm:∀v∈c.st,cL (a_ v)):St im c fr tr (CO im c fr tr ⟨23,oa⟩ f):=by
 obtain⟨a,b,ha⟩:=x.SR rfl;have ma:cL (a_ a):=hm a (rm (im:=im) (o:=⟨23,oa⟩) (fr:=fr) (tr:=tr) (by rw[ha];simp));have mb:cL (a_ b):=hm b (rm (im:=im) (o:=⟨23,oa⟩) (fr:=fr) (tr:=tr) (by rw[ha];simp));have e:CO im c fr tr ⟨23,oa⟩ f=(bif (a.k==2)&&(b.k==2)then fB im c ⟨23,oa⟩ f [rB (nA (a_ a) (a_ b))]else raise c (-1) (max tr 0)):=by
  show(bif ((u7 im c ⟨23,oa⟩).k==2)&&((qM im c ⟨23,oa⟩).k==2)then fB im c ⟨23,oa⟩ f [rB (nA (a_ (u7 im c ⟨23,oa⟩)) (a_ (qM im c ⟨23,oa⟩)))]else raise c (-1) (max tr 0))=_;rw[t0 ha,t1 ha]
 rw[e]
 by_cases hab:a.k=2/\b.k=2
 .rw[zO hab.1,zO hab.2];refine um x 1000162 22 [rB (nA (a_ a) (a_ b))] (λ_=>rfl) rfl rfl ?_;rw[ha];exact Li _ _ _ a b _ (by have:=x.sl;omega) hab.1 hab.2 ma mb
 .have e2:((a.k==2)&&(b.k==2))=false:=by
   cases h:(a.k==2)&&(b.k==2) with
   |false=>rfl
   |true=>simp at h;exact absurd h hab
  rw[e2];refine yx x 1000162 22 (-1) (λ_=>rfl) rfl rfl ?_;rw[ha];exact Lh _ _ _ a b _ hab
theorem QO{o:Op}(x:Cx im c fr tr o f fn)(hma:0<=f.ma/\f.ma<=255)(hv:f.vars.length<1000000000)(hm:∀v∈c.st,cL (a_ v))(hd:o.c≠24/\o.c≠31)(hr:jN o=true):St im c fr tr (CO im c fr tr o f):=by
 obtain⟨k,oa⟩:=o
 by_cases h3:k=3
 .subst h3;exact Xa x hv
 by_cases h22:k=22
 .subst h22;exact V5 x hm
 by_cases h23:k=23
 .subst h23;exact V4 x hm
 have e:CO im c fr tr ⟨k,oa⟩ f=mw im c fr tr ⟨k,oa⟩ f:=by
  simp only[CO,ra h3,ra h22,ra h23,ε]
 rw[e];refine T8 x hma ?_ hr;simp only[XE,ra h3,ra h22,ra h23,ra hd.1,ra hd.2,Bool.or_self,Bool.not_false]
def du(im:Im)(c:Co)(fr tr:Int):Co×Ou:=
 match fit im c with
 |none=>(c,failed (-6))
 |some o=>match c.fr.getLast? with
  |none=>(c,failed (-6))
  |some f=>CO im c fr tr o f
structure Rv(im:Im)(c:Co):Prop where
  hI:FN im
  cd:∀(i:Nat)(g:Fn),im.fs[i]?=some g->g.code.length<1000000000
  lf:c.fr.length<900000000
  ls:c.st.length<800000000
  lt:c.tr.length<900000000
  ma:∀f,c.fr.getLast?=some f->(0<=f.ma/\f.ma<=255)/\f.vars.length<1000000000
  sm:∀v∈c.st,cL (a_ v)
  dm:∀o,fit im c=some o->o.c≠24/\o.c≠31
theorem Kq(h:Rv im c):St im c fr tr (du im c fr tr):=by
 unfold du;cases hf:fit im c with
 |none=>exact SY im c fr tr h.hI (by have:=h.ls;omega) hf
 |some o=>
  obtain⟨f,fn,hl,w1,hfn,w2,ho,hr,hop,hpo⟩:=nI hf;simp only[hl];obtain⟨a1,a2⟩:=within_iff.1 w2;have:=h.cd _ _ hfn;exact QO (fn:=fn) ⟨h.hI,hf,hl,⟨a1,by omega⟩,hop,hpo,h.lf,h.ls,h.lt⟩ (h.ma f hl).1 (h.ma f hl).2 h.sm (h.dm o hf) hr
end
end Go.Proofs.YtjpgfgajkjhonaaGreatDoor