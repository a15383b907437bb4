/- Lemmas. Conditions: none. -/
import Derived.Test.YtmigecldjbgneaaGreatDoorQKAZ
set_option maxHeartbeats 4000000
set_option maxRecDepth 100000
namespace Go.Proofs.YtmigecldjbgneaaGreatDoor
open Go.Vx
set_option maxRecDepth 100000
def cn(im:Im)(c:Co)(o:Op)(fr tr:Int):Mh:=⟨im,c,o,max fr 0,max tr 0⟩
theorem jC{im:Im}{c:Co}{o:Op}(h:fit im c=some o):mR im c=.tu [CT o,.d (.bool true)]:=by simp only[mR,h]
theorem FV{im:Im}{c:Co}(h:fit im c=none):mR im c=.tu [CT o0,.d (.bool false)]:=by simp only[mR,h]
theorem TQ(im:Im)(c:Co)(fr tr:Int)(hI:GA im)(hs:c.st.length<1000000000)(h:fit im c=none) :
  Z0 106 [sC im,gp c,.d (.int .i64 fr),.d (.int .i64 tr)] (.tu [gp c,v7 (failed (-6))]):=by
 have hf:=mo im c hI hs;rw[FV h]at hf;refine sh0 Tryz.f106 ?_
 repeat' ((conv=>whnf);first|exact zf|refine zm ?_|refine zc hf ?_|refine zc (oW (-6)) ?_|refine zB ?_ ?_|intro _)
theorem TP(im:Im)(c:Co)(fr tr:Int)(o:Op)(hI:GA im)(hs:c.st.length<1000000000)(h:fit im c=some o)(hq:∀id,nI [0,3] [.d (.int .i64 o.c)] (EO id) 0=some none) :
    Z0 106 [sC im,gp c,.d (.int .i64 fr),.d (.int .i64 tr)] (.tu [gp c,v7 ⟨3,zeroV,o⟩]):=by
  have hf:=mo im c hI hs
  rw[jC h]at hf
  refine sh0 Tryz.f106 ?_
  repeat' ((conv=>whnf);first|exact zf|refine jQ 1 ?_|refine da _ _ [143] ?_ rfl|refine a8 (a8 ?_)|refine zm ?_|refine zc hf ?_|refine Sat.eqs (mB (cn im c o fr tr) (And.intro rfl rfl)) ?_|refine zr0 ?_|refine zB ?_ ?_|intro _)
  all_goals
    refine⟨_,hq _,?_⟩
    repeat' ((conv=>whnf);first|exact zf|refine zm ?_|refine zB ?_ ?_|intro _)
theorem Gk(im:Im)(c:Co)(fr tr:Int)(o:Op)(f:Fr)(F i:Nat)(hI:GA im)(hs:c.st.length<1000000000)(h:fit im c=some o)(hr:Py (cn im c o fr tr) f)
    (hq:∀id,nI [0,3] [.d (.int .i64 o.c)] (EO id) 0=some (some (i,.fc F [.p id 0]))) (hF1:Nat.blt F 1000000=false) (hF2:Nat.blt F 1500000=true) (frs':List Fr) (st':List Va) (ts':List Tr)
    (hM:∀K:Out->H->Prop,K (.ret (.tu [])) [.cells (iX (cn im c o fr tr) (.d (.sl 5 (frs'.map bP))) st' ts' (gw (oY (cn im c o fr tr))) bu false 0),.no]->Z1 (F-1000000) [.p 0 0] [.cells (iX (cn im c o fr tr) (.os 1) (j3 (cn im c o fr tr)) c.tr (gw (oY (cn im c o fr tr))) bu false 0),.rows 5 ((bS c.fr f).map bP)] K) :
    Z0 106 [sC im,gp c,.d (.int .i64 fr),.d (.int .i64 tr)] (.tu [gp ⟨frs',st',ts'⟩,v7 bu]):=by
  have hf:=mo im c hI hs
  rw[jC h]at hf
  refine sh0 Tryz.f106 ?_
  repeat' ((conv=>whnf);first|exact zf|refine jQ 1 ?_|refine da _ _ [143] ?_ rfl|refine a8 (a8 ?_)|refine zm ?_|refine zc hf ?_|refine Sat.eqs (mB (cn im c o fr tr) (And.intro rfl rfl)) ?_|refine zr0 ?_|refine zB ?_ ?_|intro _)
  all_goals
    refine⟨_,hq _,?_⟩
    repeat' ((conv=>whnf);first|exact zf|refine zm ?_|refine zr0 ?_|refine pH (cn im c o fr tr) f hr ?_|refine zB ?_ ?_|intro _)
    all_goals
      conv=>whnf
      rw[hF1]
      conv=>whnf
      rw[hF2]
      repeat' ((conv=>whnf);first|exact zf|refine zm ?_|refine zr0 ?_|refine hM _ ?_|refine zc (mo im c hI hs) ?_|refine zB ?_ ?_|intro _)
theorem QV(im:Im)(c:Co)(fr tr:Int)(o:Op)(f:Fr)(F i:Nat)(hI:GA im)(hs:c.st.length<1000000000)(h:fit im c=some o)(hr:Py (cn im c o fr tr) f)
    (hq:∀id,nI [0,3] [.d (.int .i64 o.c)] (EO id) 0=some (some (i,.fc F [.p id 0]))) (hF1:Nat.blt F 1000000=false) (hF2:Nat.blt F 1500000=true) (frs':List Fr) (st':List Va) (ts':List Tr)
    (hM:∀K:Out->H->Prop,K (.ret (.tu [])) [.cells (iX (cn im c o fr tr) (.os 1) st' ts' (gw (oY (cn im c o fr tr))) bu false 0),.rows 5 (frs'.map bP)]->Z1 (F-1000000) [.p 0 0] [.cells (iX (cn im c o fr tr) (.os 1) (j3 (cn im c o fr tr)) c.tr (gw (oY (cn im c o fr tr))) bu false 0),.rows 5 ((bS c.fr f).map bP)] K) :
    Z0 106 [sC im,gp c,.d (.int .i64 fr),.d (.int .i64 tr)] (.tu [gp ⟨frs',st',ts'⟩,v7 bu]):=by
  have hf:=mo im c hI hs
  rw[jC h]at hf
  refine sh0 Tryz.f106 ?_
  repeat' ((conv=>whnf);first|exact zf|refine jQ 1 ?_|refine da _ _ [143] ?_ rfl|refine a8 (a8 ?_)|refine zm ?_|refine zc hf ?_|refine Sat.eqs (mB (cn im c o fr tr) (And.intro rfl rfl)) ?_|refine zr0 ?_|refine zB ?_ ?_|intro _)
  all_goals
    refine⟨_,hq _,?_⟩
    repeat' ((conv=>whnf);first|exact zf|refine zm ?_|refine zr0 ?_|refine pH (cn im c o fr tr) f hr ?_|refine zB ?_ ?_|intro _)
    all_goals
      conv=>whnf
      rw[hF1]
      conv=>whnf
      rw[hF2]
      repeat' ((conv=>whnf);first|exact zf|refine zm ?_|refine zr0 ?_|refine hM _ ?_|refine zc (mo im c hI hs) ?_|refine zB ?_ ?_|intro _)
theorem QU(im:Im)(c:Co)(fr tr:Int)(o:Op)(f:Fr)(F i:Nat)(hI:GA im)(hs:c.st.length<1000000000)(h:fit im c=some o)(hr:Py (cn im c o fr tr) f)
    (hq:∀id,nI [0,3] [.d (.int .i64 o.c)] (EO id) 0=some (some (i,.fc F [.p id 0]))) (hF1:Nat.blt F 1000000=false) (hF2:Nat.blt F 1500000=true) (frs':List Fr) (st':List Va) (ts':List Tr) (cd:Int) (hf9:c.fr.length<1000000000)
    (hM:∀K:Out->H->Prop,K (.ret (.tu [])) [.cells (iX (cn im c o fr tr) (.os 1) st' ts' (gw (oY (cn im c o fr tr))) bu true cd),.rows 5 (frs'.map bP)]->Z1 (F-1000000) [.p 0 0] [.cells (iX (cn im c o fr tr) (.os 1) (j3 (cn im c o fr tr)) c.tr (gw (oY (cn im c o fr tr))) bu false 0),.rows 5 ((bS c.fr f).map bP)] K) :
    Z0 106 [sC im,gp c,.d (.int .i64 fr),.d (.int .i64 tr)] (.tu [gp (raise c cd (max tr 0)).1,v7 (raise c cd (max tr 0)).2]):=by
  have hf:=mo im c hI hs
  rw[jC h]at hf
  refine sh0 Tryz.f106 ?_
  repeat' ((conv=>whnf);first|exact zf|refine jQ 1 ?_|refine da _ _ [143] ?_ rfl|refine a8 (a8 ?_)|refine zm ?_|refine zc hf ?_|refine Sat.eqs (mB (cn im c o fr tr) (And.intro rfl rfl)) ?_|refine zr0 ?_|refine zB ?_ ?_|intro _)
  all_goals
    refine⟨_,hq _,?_⟩
    repeat' ((conv=>whnf);first|exact zf|refine zm ?_|refine zr0 ?_|refine pH (cn im c o fr tr) f hr ?_|refine zB ?_ ?_|intro _)
    all_goals
      conv=>whnf
      rw[hF1]
      conv=>whnf
      rw[hF2]
      repeat' ((conv=>whnf);first|exact zf|refine zm ?_|refine zr0 ?_|refine hM _ ?_|refine zc (sY c cd (max tr 0) hf9 hs) ?_|refine zB ?_ ?_|intro _)
theorem QT(im:Im)(c:Co)(fr tr:Int)(o:Op)(f:Fr)(F i:Nat)(hI:GA im)(hs:c.st.length<1000000000)(h:fit im c=some o)(hr:Py (cn im c o fr tr) f)
    (hq:∀id,nI [0,3] [.d (.int .i64 o.c)] (EO id) 0=some (some (i,.fc F [.p id 0]))) (hF1:Nat.blt F 1000000=false) (hF2:Nat.blt F 1500000=true) (frs':List Fr) (st':List Va) (ts':List Tr)
    (hM:∀K:Out->H->Prop,K (.ret (.tu [])) [.cells (Ui (cn im c o fr tr) (.os 1) st' (.cl 3 (ts'.map eJ)) (gw (oY (cn im c o fr tr))) bu false 0),.rows 5 (frs'.map bP)]->Z1 (F-1000000) [.p 0 0] [.cells (iX (cn im c o fr tr) (.os 1) (j3 (cn im c o fr tr)) c.tr (gw (oY (cn im c o fr tr))) bu false 0),.rows 5 ((bS c.fr f).map bP)] K) :
    Z0 106 [sC im,gp c,.d (.int .i64 fr),.d (.int .i64 tr)] (.tu [gp ⟨frs',st',ts'⟩,v7 bu]):=by
  have hf:=mo im c hI hs
  rw[jC h]at hf
  refine sh0 Tryz.f106 ?_
  repeat' ((conv=>whnf);first|exact zf|refine jQ 1 ?_|refine da _ _ [143] ?_ rfl|refine a8 (a8 ?_)|refine zm ?_|refine zc hf ?_|refine Sat.eqs (mB (cn im c o fr tr) (And.intro rfl rfl)) ?_|refine zr0 ?_|refine zB ?_ ?_|intro _)
  all_goals
    refine⟨_,hq _,?_⟩
    repeat' ((conv=>whnf);first|exact zf|refine zm ?_|refine zr0 ?_|refine pH (cn im c o fr tr) f hr ?_|refine zB ?_ ?_|intro _)
    all_goals
      conv=>whnf
      rw[hF1]
      conv=>whnf
      rw[hF2]
      repeat' ((conv=>whnf);first|exact zf|refine zm ?_|refine zr0 ?_|refine hM _ ?_|refine zc (mo im c hI hs) ?_|refine zB ?_ ?_|intro _)
theorem Gj(im:Im)(c:Co)(fr tr:Int)(o:Op)(f:Fr)(F i:Nat)(hI:GA im)(hs:c.st.length<1000000000)(h:fit im c=some o)(hr:Py (cn im c o fr tr) f)
    (hq:∀id,nI [0,3] [.d (.int .i64 o.c)] (EO id) 0=some (some (i,.fc F [.p id 0]))) (hF1:Nat.blt F 1000000=false) (hF2:Nat.blt F 1500000=true) (frs' frs2:List Fr) (st':List Va) (ts':List Tr) (u:Ou)
    (hM:∀K:Out->H->Prop,K (.ret (.tu [])) [.cells (iX (cn im c o fr tr) (.d (.sl 5 (frs'.map bP))) st' ts' (gw (oY (cn im c o fr tr))) u false 0),.rows 5 (frs2.map bP)]->Z1 (F-1000000) [.p 0 0] [.cells (iX (cn im c o fr tr) (.os 1) (j3 (cn im c o fr tr)) c.tr (gw (oY (cn im c o fr tr))) bu false 0),.rows 5 ((bS c.fr f).map bP)] K) :
    Z0 106 [sC im,gp c,.d (.int .i64 fr),.d (.int .i64 tr)] (.tu [gp ⟨frs',st',ts'⟩,v7 u]):=by
  have hf:=mo im c hI hs
  rw[jC h]at hf
  refine sh0 Tryz.f106 ?_
  repeat' ((conv=>whnf);first|exact zf|refine jQ 1 ?_|refine da _ _ [143] ?_ rfl|refine a8 (a8 ?_)|refine zm ?_|refine zc hf ?_|refine Sat.eqs (mB (cn im c o fr tr) (And.intro rfl rfl)) ?_|refine zr0 ?_|refine zB ?_ ?_|intro _)
  all_goals
    refine⟨_,hq _,?_⟩
    repeat' ((conv=>whnf);first|exact zf|refine zm ?_|refine zr0 ?_|refine pH (cn im c o fr tr) f hr ?_|refine zB ?_ ?_|intro _)
    all_goals
      conv=>whnf
      rw[hF1]
      conv=>whnf
      rw[hF2]
      repeat' ((conv=>whnf);first|exact zf|refine zm ?_|refine zr0 ?_|refine hM _ ?_|refine zc (mo im c hI hs) ?_|refine zB ?_ ?_|intro _)
theorem QS(im:Im)(c:Co)(fr tr:Int)(o:Op)(f:Fr)(F i:Nat)(hI:GA im)(hs:c.st.length<1000000000)(h:fit im c=some o)(hr:Py (cn im c o fr tr) f)
    (hq:∀id,nI [0,3] [.d (.int .i64 o.c)] (EO id) 0=some (some (i,.fc F [.p id 0]))) (hF1:Nat.blt F 1000000=false) (hF2:Nat.blt F 1500000=true) (frs':List Fr) (st':List Va) (ts':List Tr) (cd:Int) (hf9:c.fr.length<1000000000)
    (hM:∀K:Out->H->Prop,K (.ret (.tu [])) [.cells (iX (cn im c o fr tr) (.d (.sl 5 (frs'.map bP))) st' ts' (gw (oY (cn im c o fr tr))) bu true cd),.no]->Z1 (F-1000000) [.p 0 0] [.cells (iX (cn im c o fr tr) (.os 1) (j3 (cn im c o fr tr)) c.tr (gw (oY (cn im c o fr tr))) bu false 0),.rows 5 ((bS c.fr f).map bP)] K) :
    Z0 106 [sC im,gp c,.d (.int .i64 fr),.d (.int .i64 tr)] (.tu [gp (raise c cd (max tr 0)).1,v7 (raise c cd (max tr 0)).2]):=by
  have hf:=mo im c hI hs
  rw[jC h]at hf
  refine sh0 Tryz.f106 ?_
  repeat' ((conv=>whnf);first|exact zf|refine jQ 1 ?_|refine da _ _ [143] ?_ rfl|refine a8 (a8 ?_)|refine zm ?_|refine zc hf ?_|refine Sat.eqs (mB (cn im c o fr tr) (And.intro rfl rfl)) ?_|refine zr0 ?_|refine zB ?_ ?_|intro _)
  all_goals
    refine⟨_,hq _,?_⟩
    repeat' ((conv=>whnf);first|exact zf|refine zm ?_|refine zr0 ?_|refine pH (cn im c o fr tr) f hr ?_|refine zB ?_ ?_|intro _)
    all_goals
      conv=>whnf
      rw[hF1]
      conv=>whnf
      rw[hF2]
      repeat' ((conv=>whnf);first|exact zf|refine zm ?_|refine zr0 ?_|refine hM _ ?_|refine zc (sY c cd (max tr 0) hf9 hs) ?_|refine zB ?_ ?_|intro _)
section
theorem qe{im:Im}{c:Co}{o:Op}(h:fit im c=some o):∃f fn,c.fr.getLast?=some f/\within f.fu im.fs.length=true/\im.fs[f.fu.toNat]?=some fn/\within f.pc fn.code.length=true/\fn.code[f.pc.toNat]?=some o /\
  ep o=true/\fW im f fn o=true/\fQ c (bm im o)=true:=by
 unfold fit at h;split at h
 .cases h
 .rename_i f hl;cases h1:within f.fu im.fs.length<;>rw[h1]at h<;>simp only[δ,ε]at h
  .cases h
  split at h
  .cases h
  .rename_i fn hfn;cases h2:within f.pc fn.code.length<;>rw[h2]at h<;>simp only[δ,ε]at h
   .cases h
   split at h
   .cases h
   .rename_i o' ho;cases h3:ep o'&&(fW im f fn o'&&fQ c (bm im o'))<;>rw[h3]at h<;>simp only[δ,ε]at h
    .cases h
    .cases h;simp only[aO]at h3;exact⟨f,fn,hl,h1,hfn,h2,ho,h3.1,h3.2.1,h3.2.2⟩
theorem nX{c:Co}{n:Int}(h:fQ c n=true):(lF c n).length=n.toNat/\(sM c n).st.length+n.toNat=c.st.length:=by
 simp[fQ]at h;simp[lF,sM,gn];omega
structure Cx(im:Im)(c:Co)(fr tr:Int)(o:Op)(f:Fr)(fn:Fn):Prop where
  hI:GA im
  h:fit im c=some o
  hl:c.fr.getLast?=some f
  w1:0<=f.pc/\f.pc<1000000000
  op:fW im f fn o=true
  po:fQ c (bm im o)=true
  lf:c.fr.length<900000000
  ls:c.st.length<800000000
  lt:c.tr.length<900000000
namespace Cx
variable{im:Im}{c:Co}{fr tr:Int}{o:Op}{f:Fr}{fn:Fn}
theorem call(x:Cx im c fr tr o f fn)(hc:o.c=17):∃g,0<=o.a/\im.fs[o.a.toNat]?=some g/\dB .i64 g.args:=by
 obtain⟨k1,k2⟩:=within_iff.1 (qM hc x.op);obtain⟨g,hg⟩:∃g,im.fs[o.a.toNat]?=some g:=⟨_,aA (by omega)⟩
 exact⟨g,k1,hg,x.hI.args _ _ hg⟩
theorem PM(x:Cx im c fr tr o f fn):Py (cn im c o fr tr) f:=
 ⟨x.hl,by have:=x.lf;show c.fr.length<_;omega,by have:=x.ls;show c.st.length<_;omega,by have:=x.w1;omega,x.po,x.call⟩
theorem hs(x:Cx im c fr tr o f fn):c.st.length<1000000000:=by have:=x.ls;omega
theorem pos(x:Cx im c fr tr o f fn):0<c.fr.length:=by
 cases h:c.fr with
 |nil=>have:=x.hl;rw[h]at this;cases this
 |cons=>simp
theorem last(x:Cx im c fr tr o f fn):(bS c.fr f)[(bS c.fr f).length-1]?=some {f with pc:=f.pc+1}:=by
 have:=x.pos;rw[bS,dJ,bZ (by omega)]
theorem rK(x:Cx im c fr tr o f fn):0<(bS c.fr f).length/\(bS c.fr f).length<1000000000:=by
 have:=x.pos;have:=x.lf;rw[bS,dJ];omega
theorem tl(x:Cx im c fr tr o f fn):(oY (cn im c o fr tr)).length=(bm im o).toNat/\(j3 (cn im c o fr tr)).length+(bm im o).toNat=c.st.length:=nX x.po
theorem sl(x:Cx im c fr tr o f fn):(j3 (cn im c o fr tr)).length<800000000:=by have:=x.tl;have:=x.ls;omega
theorem TL(x:Cx im c fr tr o f fn)(h:bm im o=1):∃a,oY (cn im c o fr tr)=[a]:=by
 have:=x.tl.1;rw[h]at this
 match hh:oY (cn im c o fr tr),this with
 |[a],_=>exact⟨a,rfl⟩
theorem TK(x:Cx im c fr tr o f fn)(h:bm im o=2):∃a b,oY (cn im c o fr tr)=[a,b]:=by
 have:=x.tl.1;rw[h]at this
 match hh:oY (cn im c o fr tr),this with
 |[a,b],_=>exact⟨a,b,rfl⟩
end Cx
def fD(im:Im)(c:Co)(o:Op)(f:Fr)(l:List Va):Co×Ou:=(⟨bS c.fr f,j3 (cn im c o 0 0)++l,c.tr⟩,bu)
def vQ(im:Im)(c:Co)(o:Op):Va:=((oY (cn im c o 0 0))[0]?).getD zeroV
def q_(im:Im)(c:Co)(o:Op):Va:=((oY (cn im c o 0 0))[1]?).getD zeroV
def nZ(im:Im)(c:Co)(fr tr:Int)(o:Op)(f:Fr):Co×Ou:=
 let exc:=λn=>raise c n (max tr 0)
 let a:=vQ im c o
 let b:=q_ im c o
 let jmp:Co×Ou:=(⟨ea (bS c.fr f) { {f with pc:=f.pc+1}with pc:=o.a},j3 (cn im c o 0 0),c.tr⟩,bu)
 bif o.c==1 then fD im c o f [(im.cs[o.a.toNat]?).getD zeroV]
 else bif o.c==2 then fD im c o f [(f.vars[o.a.toNat]?).getD zeroV]
 else bif o.c==4 then fD im c o f []
 else bif o.c==5 then fD im c o f [a,a]
 else bif o.c==6 then fD im c o f [b,a]
 else bif o.c==12 then fD im c o f [iv (SB a b)]
 else bif decide (7<=o.c)&&decide (o.c<=13)then(bif (a.k==1)&&(b.k==1)then(match qO o.c a.n b.n with
  |.tu [.d (.int .i64 n),.d (.bool true)]=>fD im c o f [num n]
  |_=>exc (-2))else exc (-1))
 else bif o.c==14 then(bif a.k==1 then fD im c o f [iv (a.n==0)]else exc (-1))
 else bif o.c==15 then jmp
 else bif o.c==16 then(bif a.k==1 then(bif a.n==0 then fD im c o f []else jmp)else exc (-1))
 else bif o.c==17 then(bif dW ⟨bS c.fr f,j3 (cn im c o 0 0),c.tr⟩then(⟨(gK ⟨bS c.fr f,j3 (cn im c o 0 0),c.tr⟩ o.a (match im.fs[o.a.toNat]? with|some g=>g.vars|none=>0) (oY (cn im c o 0 0)) f.ma).fr,j3 (cn im c o 0 0),c.tr⟩,bu)else exc (-6))
 else bif o.c==18 then(bif decide (((ft c).fr.length:Int)<=max fr 0)then(ft c,⟨1,sL c,o0⟩)else(⟨(ft c).fr,(ft c).st++[sL c],(ft c).tr⟩,bu))
 else bif o.c==19 then(bif a.k==1 then exc a.n else exc (-1))
 else bif o.c==20 then(⟨bS c.fr f,j3 (cn im c o 0 0),c.tr++[⟨(bS c.fr f).length,(j3 (cn im c o 0 0)).length,o.a⟩]⟩,bu)
 else bif o.c==21 then(bif decide (max tr 0<c.tr.length)then(⟨bS c.fr f,j3 (cn im c o 0 0),c.tr.take (c.tr.length-1)⟩,bu)else fD im c o f [])
 else bif o.c==44 then(⟨ea (bS c.fr f) { {f with pc:=f.pc+1}with ma:=zY o.a f.ma},j3 (cn im c o 0 0),c.tr⟩,bu)
 else bif o.c==47 then fD im c o f [num f.ma]
 else(c,⟨3,zeroV,o⟩)
def YJ(c:Int):Bool:= !((c==3)||(c==22)||(c==23)||(c==24)||(c==31))
def St(im:Im)(c:Co)(fr tr:Int)(r:Co×Ou):Prop:=Z0 106 [sC im,gp c,.d (.int .i64 fr),.d (.int .i64 tr)] (.tu [gp r.1,v7 r.2])
section
variable{im:Im}{c:Co}{fr tr:Int}{f:Fr}{fn:Fn}{oa:Int}
theorem vX{o:Op}(x:Cx im c fr tr o f fn)(F i:Nat)(l:List Va)(hq:∀id,nI [0,3] [.d (.int .i64 o.c)] (EO id) 0=some (some (i,.fc F [.p id 0])))(hF1:Nat.blt F 1000000=false)(hF2:Nat.blt F 1500000=true)
  (hM:vG (F-1000000) (cn im c o fr tr) (j3 (cn im c o fr tr)) (j3 (cn im c o fr tr)++l) c.tr (oY (cn im c o fr tr)) (bS c.fr f)):St im c fr tr (fD im c o f l):=
 Gk im c fr tr o f F i x.hI x.hs x.h x.PM hq hF1 hF2 (bS c.fr f) (j3 (cn im c o fr tr)++l) c.tr hM
theorem ry{o:Op}(x:Cx im c fr tr o f fn)(F i:Nat)(frs':List Fr)(ts':List Tr)(hq:∀id,nI [0,3] [.d (.int .i64 o.c)] (EO id) 0=some (some (i,.fc F [.p id 0])))(hF1:Nat.blt F 1000000=false)(hF2:Nat.blt F 1500000=true)
  (hM:jX (F-1000000) (cn im c o fr tr) (j3 (cn im c o fr tr)) c.tr ts' (oY (cn im c o fr tr)) (bS c.fr f) frs' false 0):St im c fr tr (⟨frs',j3 (cn im c o 0 0),ts'⟩,bu):=
 QV im c fr tr o f F i x.hI x.hs x.h x.PM hq hF1 hF2 frs' (j3 (cn im c o fr tr)) ts' hM
theorem z_{o:Op}(x:Cx im c fr tr o f fn)(F i:Nat)(n:Int)(hq:∀id,nI [0,3] [.d (.int .i64 o.c)] (EO id) 0=some (some (i,.fc F [.p id 0])))(hF1:Nat.blt F 1000000=false)(hF2:Nat.blt F 1500000=true)
  (hM:jX (F-1000000) (cn im c o fr tr) (j3 (cn im c o fr tr)) c.tr c.tr (oY (cn im c o fr tr)) (bS c.fr f) (bS c.fr f) true n):St im c fr tr (raise c n (max tr 0)):=
 QU im c fr tr o f F i x.hI x.hs x.h x.PM hq hF1 hF2 (bS c.fr f) (j3 (cn im c o fr tr)) c.tr n (by have:=x.lf;omega) hM
theorem Y9(x:Cx im c fr tr ⟨1,oa⟩ f fn):St im c fr tr (nZ im c fr tr ⟨1,oa⟩ f):=by
 have hw:within oa im.cs.length=true:=x.op;obtain⟨k1,k2⟩:=within_iff.1 hw;obtain⟨v,hv⟩:∃v,im.cs[oa.toNat]?=some v:=⟨_,aA (by omega)⟩
 have e:nZ im c fr tr ⟨1,oa⟩ f=fD im c ⟨1,oa⟩ f [v]:=by
  show fD im c ⟨1,oa⟩ f [(im.cs[oa.toNat]?).getD zeroV]=_;rw[hv];rfl
 rw[e];exact vX x 1000173 0 [v] (λ_=>rfl) rfl rfl (Qw _ _ _ _ _ v (by have:=x.sl;omega) k1 hv)
theorem Y8(x:Cx im c fr tr ⟨2,oa⟩ f fn):St im c fr tr (nZ im c fr tr ⟨2,oa⟩ f):=by
 have hw:within oa f.vars.length=true:=x.op;obtain⟨k1,k2⟩:=within_iff.1 hw;obtain⟨v,hv⟩:∃v,f.vars[oa.toNat]?=some v:=⟨_,aA (by omega)⟩
 have e:nZ im c fr tr ⟨2,oa⟩ f=fD im c ⟨2,oa⟩ f [v]:=by
  show fD im c ⟨2,oa⟩ f [(f.vars[oa.toNat]?).getD zeroV]=_;rw[hv];rfl
 rw[e];exact vX x 1000174 1 [v] (λ_=>rfl) rfl rfl (Rc _ _ _ _ _ {f with pc:=f.pc+1} v (by have:=x.sl;omega) x.rK.1 x.rK.2 x.last k1 hv)
theorem Y6(x:Cx im c fr tr ⟨4,oa⟩ f fn):St im c fr tr (nZ im c fr tr ⟨4,oa⟩ f):=by
 have e:nZ im c fr tr ⟨4,oa⟩ f=(⟨bS c.fr f,j3 (cn im c ⟨4,oa⟩ 0 0),c.tr⟩,bu):=by
  show fD im c ⟨4,oa⟩ f []=_;simp[fD]
 rw[e];exact ry x 1000176 3 _ _ (λ_=>rfl) rfl rfl (T9 _ _ _ _ _)
theorem t0{o:Op}{a:Va}{l:List Va}(h:oY (cn im c o fr tr)=a::l):vQ im c o=a:=by
 have:oY (cn im c o 0 0)=a::l:=h;simp[vQ,this]
theorem t1{o:Op}{a b:Va}{l:List Va}(h:oY (cn im c o fr tr)=a::b::l):q_ im c o=b:=by
 have:oY (cn im c o 0 0)=a::b::l:=h;simp[q_,this]
theorem Y5(x:Cx im c fr tr ⟨5,oa⟩ f fn):St im c fr tr (nZ im c fr tr ⟨5,oa⟩ f):=by
 obtain⟨a,ha⟩:=x.TL rfl;have e:nZ im c fr tr ⟨5,oa⟩ f=fD im c ⟨5,oa⟩ f [a,a]:=by
  show fD im c ⟨5,oa⟩ f [vQ im c ⟨5,oa⟩,vQ im c ⟨5,oa⟩]=_;rw[t0 ha]
 rw[e];refine vX x 1000177 4 [a,a] (λ_=>rfl) rfl rfl ?_;rw[ha];have:=VN (cn im c ⟨5,oa⟩ fr tr) (j3 (cn im c ⟨5,oa⟩ fr tr)) c.tr a (bS c.fr f) (by have:=x.sl;omega);rwa[bI]at this
theorem Y4(x:Cx im c fr tr ⟨6,oa⟩ f fn):St im c fr tr (nZ im c fr tr ⟨6,oa⟩ f):=by
 obtain⟨a,b,ha⟩:=x.TK rfl;have e:nZ im c fr tr ⟨6,oa⟩ f=fD im c ⟨6,oa⟩ f [b,a]:=by
  show fD im c ⟨6,oa⟩ f [q_ im c ⟨6,oa⟩,vQ im c ⟨6,oa⟩]=_;rw[t0 ha,t1 ha]
 rw[e];refine vX x 1000178 5 [b,a] (λ_=>rfl) rfl rfl ?_;rw[ha];have:=QQ (cn im c ⟨6,oa⟩ fr tr) (j3 (cn im c ⟨6,oa⟩ fr tr)) c.tr a b (bS c.fr f) (by have:=x.sl;omega);rwa[bI]at this
theorem Wq(x:Cx im c fr tr ⟨12,oa⟩ f fn):St im c fr tr (nZ im c fr tr ⟨12,oa⟩ f):=by
 obtain⟨a,b,ha⟩:=x.TK rfl;have e:nZ im c fr tr ⟨12,oa⟩ f=fD im c ⟨12,oa⟩ f [iv (SB a b)]:=by
  show fD im c ⟨12,oa⟩ f [iv (SB (vQ im c ⟨12,oa⟩) (q_ im c ⟨12,oa⟩))]=_;rw[t0 ha,t1 ha]
 rw[e];refine vX x 1000180 11 [iv (SB a b)] (λ_=>rfl) rfl rfl ?_;rw[ha];exact XQ (cn im c ⟨12,oa⟩ fr tr) (j3 (cn im c ⟨12,oa⟩ fr tr)) c.tr a b (bS c.fr f) (by have:=x.sl;omega)
theorem MZ(k a b:Int):(∃n,qO k a b=mG n)\/qO k a b=rJ:=by
 unfold qO;cases k==7<;>cases k==8<;>cases k==9<;>cases k==10<;>cases k==11<;>cases k==12<;>simp only[δ,ε] <;>
  first
   |exact .inl ⟨_,rfl⟩
   |(cases b==0<;>simp only[δ,ε]<;>first|exact .inl ⟨_,rfl⟩|exact .inr trivial|exact .inr rfl)
def U6(im:Im)(c:Co)(tr:Int)(o:Op)(f:Fr):Co×Ou:=
 bif ((vQ im c o).k==1)&&((q_ im c o).k==1)then(match qO o.c (vQ im c o).n (q_ im c o).n with
  |.tu [.d (.int .i64 n),.d (.bool true)]=>fD im c o f [num n]
  |_=>raise c (-2) (max tr 0))else raise c (-1) (max tr 0)
theorem Sl{o:Op}(x:Cx im c fr tr o f fn)(i:Nat)(hc:7<=o.c/\o.c<=13)(ht:bm im o=2)(hq:∀id,nI [0,3] [.d (.int .i64 o.c)] (EO id) 0=some (some (i,.fc 1000179 [.p id 0]))):St im c fr tr (U6 im c tr o f):=by
 obtain⟨a,b,ha⟩:=x.TK ht;have h0:=t0 ha;have h1:=t1 ha;unfold U6;rw[h0,h1]
 by_cases hab:a.k=1/\b.k=1
 .rw[show((a.k==1)&&(b.k==1))=true by simp[hab.1,hab.2]];simp only[δ];rcases MZ o.c a.n b.n with⟨n,hn⟩|hn
  .rw[hn];refine vX x 1000179 i [num n] hq rfl rfl ?_;rw[ha];exact Em (cn im c o fr tr) _ c.tr a b (bS c.fr f) n (by have:=x.sl;omega) hc hab.1 hab.2 hn
  .rw[hn];refine z_ x 1000179 i (-2) hq rfl rfl ?_;rw[ha];exact El (cn im c o fr tr) _ c.tr a b (bS c.fr f) hc hab.1 hab.2 hn
 .have e:((a.k==1)&&(b.k==1))=false:=by
   cases hh:((a.k==1)&&(b.k==1)) with
   |false=>rfl
   |true=>simp at hh;exact absurd hh hab
  rw[e];refine z_ x 1000179 i (-1) hq rfl rfl ?_;rw[ha];exact Ek (cn im c o fr tr) _ c.tr a b (bS c.fr f) hab
end
end
section
variable{im:Im}{c:Co}{fr tr:Int}{f:Fr}{fn:Fn}{oa:Int}
theorem AQ{a b:Int}(h:a=b):(a==b)=true:=by simp[h]
theorem sR{a b:Int}(h:¬a=b):(a==b)=false:=by simp[h]
theorem Uu(o:Op):fD im c o f []=(⟨bS c.fr f,j3 (cn im c o 0 0),c.tr⟩,bu):=by simp[fD]
theorem Wp(x:Cx im c fr tr ⟨14,oa⟩ f fn):St im c fr tr (nZ im c fr tr ⟨14,oa⟩ f):=by
 obtain⟨a,ha⟩:=x.TL rfl;have e:nZ im c fr tr ⟨14,oa⟩ f=bif a.k==1 then fD im c ⟨14,oa⟩ f [iv (a.n==0)]else raise c (-1) (max tr 0):=by
  show(bif (vQ im c ⟨14,oa⟩).k==1 then fD im c ⟨14,oa⟩ f [iv ((vQ im c ⟨14,oa⟩).n==0)]else raise c (-1) (max tr 0))=_;rw[t0 ha]
 rw[e]
 by_cases hk:a.k=1
 .rw[AQ hk,δ];refine vX x 1000181 13 _ (λ_=>rfl) rfl rfl ?_;rw[ha];exact RX (cn im c ⟨14,oa⟩ fr tr) _ c.tr a (bS c.fr f) (by have:=x.sl;omega) hk
 .rw[sR hk,ε];refine z_ x 1000181 13 (-1) (λ_=>rfl) rfl rfl ?_;rw[ha];exact RW (cn im c ⟨14,oa⟩ fr tr) _ c.tr a (bS c.fr f) hk
theorem Wn(x:Cx im c fr tr ⟨15,oa⟩ f fn):St im c fr tr (nZ im c fr tr ⟨15,oa⟩ f):=
 ry x 1000182 14 _ _ (λ_=>rfl) rfl rfl (JS (cn im c ⟨15,oa⟩ fr tr) _ c.tr _ (bS c.fr f) {f with pc:=f.pc+1} x.rK.1 x.rK.2 x.last)
theorem Wm(x:Cx im c fr tr ⟨16,oa⟩ f fn):St im c fr tr (nZ im c fr tr ⟨16,oa⟩ f):=by
 obtain⟨a,ha⟩:=x.TL rfl;have e:nZ im c fr tr ⟨16,oa⟩ f=bif a.k==1 then(bif a.n==0 then fD im c ⟨16,oa⟩ f []else(⟨ea (bS c.fr f) { {f with pc:=f.pc+1}with pc:=oa},j3 (cn im c ⟨16,oa⟩ 0 0),c.tr⟩,bu))else raise c (-1) (max tr 0):=by
  show(bif (vQ im c ⟨16,oa⟩).k==1 then(bif (vQ im c ⟨16,oa⟩).n==0 then fD im c ⟨16,oa⟩ f []else _)else raise c (-1) (max tr 0))=_;rw[t0 ha]
 rw[e]
 by_cases hk:a.k=1
 .rw[AQ hk,δ]
  by_cases hn:a.n=0
  .rw[AQ hn,δ,Uu];refine ry x 1000183 15 _ _ (λ_=>rfl) rfl rfl ?_;rw[ha];exact FG (cn im c ⟨16,oa⟩ fr tr) _ c.tr a (bS c.fr f) hk hn
  .rw[sR hn,ε];refine ry x 1000183 15 _ _ (λ_=>rfl) rfl rfl ?_;rw[ha];exact FH (cn im c ⟨16,oa⟩ fr tr) _ c.tr a (bS c.fr f) {f with pc:=f.pc+1} x.rK.1 x.rK.2 x.last hk hn
 .rw[sR hk,ε];refine z_ x 1000183 15 (-1) (λ_=>rfl) rfl rfl ?_;rw[ha];exact FF (cn im c ⟨16,oa⟩ fr tr) _ c.tr a (bS c.fr f) hk
theorem Wl(x:Cx im c fr tr ⟨17,oa⟩ f fn):St im c fr tr (nZ im c fr tr ⟨17,oa⟩ f):=by
 obtain⟨g,h0,hg,_⟩:=x.call rfl;have hlen:=x.rK;have hpo:=nX x.po;have htk:(oY (cn im c ⟨17,oa⟩ fr tr)).length<1000000000:=by have:=x.tl;have:=x.ls;omega
 have e:nZ im c fr tr ⟨17,oa⟩ f=bif dW ⟨bS c.fr f,j3 (cn im c ⟨17,oa⟩ 0 0),c.tr⟩then(⟨(gK ⟨bS c.fr f,j3 (cn im c ⟨17,oa⟩ 0 0),c.tr⟩ oa g.vars (oY (cn im c ⟨17,oa⟩ 0 0)) f.ma).fr,j3 (cn im c ⟨17,oa⟩ 0 0),c.tr⟩,bu)else raise c (-6) (max tr 0):=by
  show(bif dW ⟨bS c.fr f,j3 (cn im c ⟨17,oa⟩ 0 0),c.tr⟩then(⟨(gK ⟨bS c.fr f,j3 (cn im c ⟨17,oa⟩ 0 0),c.tr⟩ oa (match im.fs[oa.toNat]? with|some g=>g.vars|none=>0) (oY (cn im c ⟨17,oa⟩ 0 0)) f.ma).fr,j3 (cn im c ⟨17,oa⟩ 0 0),c.tr⟩,bu)else raise c (-6) (max tr 0))=_;rw[hg]
 rw[e];cases hy:dW ⟨bS c.fr f,j3 (cn im c ⟨17,oa⟩ 0 0),c.tr⟩ with
 |true=>
  rw[δ];exact Gk im c fr tr ⟨17,oa⟩ f 1000184 16 x.hI x.hs x.h x.PM (λ_=>rfl) rfl rfl _ (j3 (cn im c ⟨17,oa⟩ fr tr)) c.tr (λK hk=>Nb (cn im c ⟨17,oa⟩ fr tr) _ c.tr _ (bS c.fr f) {f with pc:=f.pc+1} g hlen.1 hlen.2 htk x.last h0 hg hy hk)
 |false=>
  rw[ε];exact QS im c fr tr ⟨17,oa⟩ f 1000184 16 x.hI x.hs x.h x.PM (λ_=>rfl) rfl rfl (bS c.fr f) (j3 (cn im c ⟨17,oa⟩ fr tr)) c.tr (-6) (by have:=x.lf;omega) (λK hk=>Na (cn im c ⟨17,oa⟩ fr tr) _ c.tr _ (bS c.fr f) {f with pc:=f.pc+1} g hlen.1 hlen.2 htk x.last h0 hg hy hk)
theorem Wk(x:Cx im c fr tr ⟨18,oa⟩ f fn):St im c fr tr (nZ im c fr tr ⟨18,oa⟩ f):=by
 have hlf:=x.lf;have hls:=x.ls;have hlt:=x.lt;have hpos:=x.pos;have hpo:fQ c 1=true:=x.po;have hy:pM c=true:=by simp[pM,hpo,hpos]
 have hl2:(ft c).st.length<1000000000:=by
  show(gn c.st (base c)).length<_;simp only[gn,a_];omega
 have e:nZ im c fr tr ⟨18,oa⟩ f=bif decide (((ft c).fr.length:Int)<=max fr 0)then(ft c,⟨1,sL c,o0⟩)else(⟨(ft c).fr,(ft c).st++[sL c],(ft c).tr⟩,bu):=rfl;rw[e]
 by_cases hn:((ft c).fr.length:Int)<=max fr 0
 .rw[show decide (((ft c).fr.length:Int)<=max fr 0)=true by simpa using hn,δ];exact Gj im c fr tr ⟨18,oa⟩ f 1000185 17 x.hI x.hs x.h x.PM (λ_=>rfl) rfl rfl (ft c).fr (bS c.fr f) (ft c).st (ft c).tr ⟨1,sL c,o0⟩ (λK hk=>Qg (cn im c ⟨18,oa⟩ fr tr) _ c.tr _ (bS c.fr f) (by show c.fr.length<_;omega) (by show c.st.length<_;omega) (by show c.tr.length<_;omega) hy hn hk)
 .rw[show decide (((ft c).fr.length:Int)<=max fr 0)=false by simpa using hn,ε];exact Gj im c fr tr ⟨18,oa⟩ f 1000185 17 x.hI x.hs x.h x.PM (λ_=>rfl) rfl rfl (ft c).fr (bS c.fr f) ((ft c).st++[sL c]) (ft c).tr bu (λK hk=>Qf (cn im c ⟨18,oa⟩ fr tr) _ c.tr _ (bS c.fr f) (by show c.fr.length<_;omega) (by show c.st.length<_;omega) (by show c.tr.length<_;omega) hl2 hy hn hk)
theorem Wj(x:Cx im c fr tr ⟨19,oa⟩ f fn):St im c fr tr (nZ im c fr tr ⟨19,oa⟩ f):=by
 obtain⟨a,ha⟩:=x.TL rfl;have e:nZ im c fr tr ⟨19,oa⟩ f=bif a.k==1 then raise c a.n (max tr 0)else raise c (-1) (max tr 0):=by
  show(bif (vQ im c ⟨19,oa⟩).k==1 then raise c (vQ im c ⟨19,oa⟩).n (max tr 0)else raise c (-1) (max tr 0))=_;rw[t0 ha]
 rw[e]
 by_cases hk:a.k=1
 .rw[AQ hk,δ];refine z_ x 1000186 18 a.n (λ_=>rfl) rfl rfl ?_;rw[ha];exact G5 (cn im c ⟨19,oa⟩ fr tr) _ c.tr a (bS c.fr f) hk
 .rw[sR hk,ε];refine z_ x 1000186 18 (-1) (λ_=>rfl) rfl rfl ?_;rw[ha];exact G4 (cn im c ⟨19,oa⟩ fr tr) _ c.tr a (bS c.fr f) hk
theorem Wi(x:Cx im c fr tr ⟨20,oa⟩ f fn):St im c fr tr (nZ im c fr tr ⟨20,oa⟩ f):=
 ry x 1000187 19 _ _ (λ_=>rfl) rfl rfl (TJ (cn im c ⟨20,oa⟩ fr tr) _ c.tr _ (bS c.fr f) (by have:=x.lt;omega))
theorem Wh(x:Cx im c fr tr ⟨21,oa⟩ f fn):St im c fr tr (nZ im c fr tr ⟨21,oa⟩ f):=by
 have e:nZ im c fr tr ⟨21,oa⟩ f=bif decide (max tr 0<c.tr.length)then(⟨bS c.fr f,j3 (cn im c ⟨21,oa⟩ 0 0),c.tr.take (c.tr.length-1)⟩,bu)else fD im c ⟨21,oa⟩ f []:=rfl;rw[e]
 by_cases hn:max tr 0<(c.tr.length:Int)
 .rw[show decide (max tr 0<(c.tr.length:Int))=true by simpa using hn,δ];exact QT im c fr tr ⟨21,oa⟩ f 1000188 20 x.hI x.hs x.h x.PM (λ_=>rfl) rfl rfl (bS c.fr f) (j3 (cn im c ⟨21,oa⟩ fr tr)) (c.tr.take (c.tr.length-1)) (λK hk=>SE (cn im c ⟨21,oa⟩ fr tr) _ c.tr _ (bS c.fr f) hn (by show 0<=max tr 0;omega) hk)
 .rw[show decide (max tr 0<(c.tr.length:Int))=false by simpa using hn,ε,Uu];exact ry x 1000188 20 _ _ (λ_=>rfl) rfl rfl (λK hk=>SC (cn im c ⟨21,oa⟩ fr tr) _ c.tr _ (bS c.fr f) hn hk)
theorem We(x:Cx im c fr tr ⟨44,oa⟩ f fn):St im c fr tr (nZ im c fr tr ⟨44,oa⟩ f):=
 ry x 1000193 25 _ _ (λ_=>rfl) rfl rfl (Rg (cn im c ⟨44,oa⟩ fr tr) _ c.tr _ (bS c.fr f) {f with pc:=f.pc+1} x.rK.1 x.rK.2 x.last)
theorem Wd(x:Cx im c fr tr ⟨47,oa⟩ f fn)(hma:0<=f.ma/\f.ma<=255):St im c fr tr (nZ im c fr tr ⟨47,oa⟩ f):=
 vX x 1000194 26 [num f.ma] (λ_=>rfl) rfl rfl (Tf (cn im c ⟨47,oa⟩ fr tr) _ c.tr _ (bS c.fr f) {f with pc:=f.pc+1} (by have:=x.sl;omega) x.rK.1 x.rK.2 x.last hma)
theorem vw{o:Op}(x:Cx im c fr tr o f fn)(hq:∀id,nI [0,3] [.d (.int .i64 o.c)] (EO id) 0=some none):St im c fr tr (c,⟨3,zeroV,o⟩):=
 TP im c fr tr o x.hI x.hs x.h hq
theorem UZ{o:Op}(x:Cx im c fr tr o f fn)(hma:0<=f.ma/\f.ma<=255)(hd:YJ o.c=true)(hr:ep o=true):St im c fr tr (nZ im c fr tr o f):=by
 obtain⟨k,oa⟩:=o;have hk:1<=k/\k<=47:=by
  unfold ep at hr;cases hi:inf k with
  |none=>rw[hi]at hr;cases hr
  |some i=>have:=ei hi;omega
 have h47:k=1\/k=2\/k=3\/k=4\/k=5\/k=6\/k=7\/k=8\/k=9\/k=10\/k=11\/k=12\/k=13\/k=14\/k=15\/k=16\/k=17\/k=18\/k=19\/k=20\/k=21\/k=22\/k=23\/k=24\/k=25\/k=26\/k=27\/k=28\/k=29\/k=30\/k=31\/k=32\/k=33\/k=34\/k=35\/k=36\/k=37\/k=38\/k=39\/k=40\/k=41\/k=42\/k=43\/k=44\/k=45\/k=46\/k=47:=by omega
 rcases h47 with rfl|rfl|rfl|rfl|rfl|rfl|rfl|rfl|rfl|rfl|rfl|rfl|rfl|rfl|rfl|rfl|rfl|rfl|rfl|rfl|rfl|rfl|rfl|rfl|rfl|rfl|rfl|rfl|rfl|rfl|rfl|rfl|rfl|rfl|rfl|rfl|rfl|rfl|rfl|rfl|rfl|rfl|rfl|rfl|rfl|rfl|rfl
 .exact Y9 x
 .exact Y8 x
 .exact absurd hd j9
 .exact Y6 x
 .exact Y5 x
 .exact Y4 x
 .exact Sl x 6 (show(7:Int)<=7/\(7:Int)<=13 by decide) rfl (λ_=>rfl)
 .exact Sl x 7 (show(7:Int)<=8/\(8:Int)<=13 by decide) rfl (λ_=>rfl)
 .exact Sl x 8 (show(7:Int)<=9/\(9:Int)<=13 by decide) rfl (λ_=>rfl)
 .exact Sl x 9 (show(7:Int)<=10/\(10:Int)<=13 by decide) rfl (λ_=>rfl)
 .exact Sl x 10 (show(7:Int)<=11/\(11:Int)<=13 by decide) rfl (λ_=>rfl)
 .exact Wq x
 .exact Sl x 12 (show(7:Int)<=13/\(13:Int)<=13 by decide) rfl (λ_=>rfl)
 .exact Wp x
 .exact Wn x
 .exact Wm x
 .exact Wl x
 .exact Wk x
 .exact Wj x
 .exact Wi x
 .exact Wh x
 .exact absurd hd j9
 .exact absurd hd j9
 .exact absurd hd j9
 .exact vw x (λ_=>rfl)
 .exact vw x (λ_=>rfl)
 .exact vw x (λ_=>rfl)
 .exact vw x (λ_=>rfl)
 .exact vw x (λ_=>rfl)
 .exact vw x (λ_=>rfl)
 .exact absurd hd j9
 .exact vw x (λ_=>rfl)
 .exact vw x (λ_=>rfl)
 .exact vw x (λ_=>rfl)
 .exact vw x (λ_=>rfl)
 .exact vw x (λ_=>rfl)
 .exact vw x (λ_=>rfl)
 .exact vw x (λ_=>rfl)
 .exact vw x (λ_=>rfl)
 .exact vw x (λ_=>rfl)
 .exact vw x (λ_=>rfl)
 .exact vw x (λ_=>rfl)
 .exact vw x (λ_=>rfl)
 .exact We x
 .exact vw x (λ_=>rfl)
 .exact vw x (λ_=>rfl)
 .exact Wd x hma
end
def c00:Co:=⟨[],[],[]⟩
theorem Lj(m:Mh)(st:List Va)(ts:List Tr)(a:Va)(bW:List Fr)(f:Fr)(hl:0<bW.length)(hlf:bW.length<1000000000)(hf:bW[bW.length-1]?=some f)(hv:f.vars.length<1000000000)(h0:0<=m.o.a)(h1:m.o.a<f.vars.length) :
  jX 175 m st ts ts [a] bW (ea bW {f with vars:=f.vars.set m.o.a.toNat a}) false 0:=by
 intro K hk;have hrow:=oB hl hf;rw[<-oC hl]at hk;have e:bP {f with vars:=f.vars.set m.o.a.toNat a}=[.int .i64 f.fu,.int .i64 f.pc,.int .i64 f.ba,.int .u8 f.ma,.sl 5 ((f.vars.map b9).set m.o.a.toNat (b9 a))]:=by simp[bP]
 rw[e]at hk;obtain⟨v0,hv0⟩:∃v0,f.vars[m.o.a.toNat]?=some v0:=⟨_,aA (by omega)⟩
 have hvr:(f.vars.map b9)[m.o.a.toNat]?=some (b9 v0):=by simp[hv0]
 refine sh0 Tryz.f175 ?_
 repeat' ((conv=>whnf);first|exact zf|refine zm ?_|refine zr0 ?_|refine vf m st ts [a] bu false 0 _ (by simp;omega) (by simp;omega) ?_|refine zB ?_ ?_|intro _)
 refine⟨bP f,hrow,?_⟩
 repeat' ((conv=>whnf);first|exact zf|refine Lv ?_|refine zm ?_|refine zr0 ?_|refine sy (f.vars.map b9) (by simpa using hv) ?_|refine zB ?_ ?_|intro _)
 conv=>whnf
 refine⟨bP f,hrow,⟨rfl,rfl,rfl⟩,?_⟩
 repeat' ((conv=>whnf);first|exact zf|refine zm ?_|refine zB ?_ ?_|intro _)
 refine⟨b9 a,⟨by decide,rfl,rfl⟩,?_⟩
 repeat' ((conv=>whnf);first|exact zf|refine zm ?_|refine And.intro ⟨h0,by simpa using h1,rfl⟩ ?_|refine zB ?_ ?_|intro _)
 refine⟨b9 v0,hvr,⟨rfl,rfl,rfl⟩,?_⟩
 repeat' ((conv=>whnf);first|exact zf|refine zm ?_|refine zB ?_ ?_|intro _)
 conv=>whnf
 exact hk
def sh(l:Lb):Va:=⟨2,0,[],l.s,l.i⟩
def bF(v:Va):Lb:=⟨v.ls,v.li⟩
theorem DM{K:KT}(m:Mh)(st:List Va)(ts:List Tr)(tk:List Va)(u:Ou)(wr:Bool)(cd:Int)(fs:List Fr)(l:Lb)(hs:st.length<1000000000)
  (hk:K (.ret (.tu [])) [.cells (iX m (.d (.sl 5 (fs.map bP))) (st++[sh l]) ts (gw tk) u wr cd),.no]) :
  Z1 253 [.p 0 0,lO l] [.cells (iX m (.os 1) st ts (gw tk) u wr cd),.rows 5 (fs.map bP)] K:=by
 refine sh0 Tryz.f253 ?_
 repeat' ((conv=>whnf);first|exact zf|refine zm ?_|refine zr0 ?_|refine mJ m st ts tk u wr cd fs (sh l) hs ?_|refine zB ?_ ?_|intro _)
 conv=>whnf
 exact hk
theorem Ms(m:Mh)(st:List Va)(ts:List Tr)(a b:Va)(bW:List Fr)(hs:st.length<1000000000)(ha:cC (bF a))(hb:cC (bF b)):Fs 252 [jh a,jh b] m st (st++[sh (dS (bF a) (bF b))]) ts [a,b] bW:=by
 intro K hk;have h:=uT (bF a) (bF b) ha hb;refine sh0 Tryz.f252 ?_
 repeat' ((conv=>whnf);first|exact zf|refine zm ?_|refine zc h ?_|refine zr0 ?_|refine DM m st ts [a,b] bu false 0 bW (dS (bF a) (bF b)) hs ?_|refine zB ?_ ?_|intro _)
 conv=>whnf
 exact hk
theorem Mc(m:Mh)(st:List Va)(ts:List Tr)(a b:Va)(bW:List Fr)(hs:st.length<1000000000)(ha:cC (bF a))(hb:cC (bF b)):Fs 254 [jh a,jh b] m st (st++[sh (nv (bF a) (bF b))]) ts [a,b] bW:=by
 intro K hk;have h:=JC (bF a) (bF b) ha hb;refine sh0 Tryz.f254 ?_
 repeat' ((conv=>whnf);first|exact zf|refine zm ?_|refine zc h ?_|refine zr0 ?_|refine DM m st ts [a,b] bu false 0 bW (nv (bF a) (bF b)) hs ?_|refine zB ?_ ?_|intro _)
 conv=>whnf
 exact hk
theorem Mr(m:Mh)(st:List Va)(ts:List Tr)(a b:Va)(bW:List Fr)(hs:st.length<1000000000)(ha:a.k=2)(hb:b.k=2)(hla:cC (bF a))(hlb:cC (bF b)):vG 189 m st (st++[sh (dS (bF a) (bF b))]) ts [a,b] bW:=by
 intro K hk;refine sh0 Tryz.f189 ?_
 repeat' ((conv=>whnf);first|exact zf|refine zm ?_|refine zr0 ?_|refine Aj 252 rfl m st (st++[sh (dS (bF a) (bF b))]) ts a b 2 bW ha hb (Ms m st ts a b bW hs hla hlb) ?_|refine zB ?_ ?_|intro _)
 exact hk
theorem Mq(m:Mh)(st:List Va)(ts:List Tr)(a b:Va)(bW:List Fr)(hab:¬(a.k=2/\b.k=2)):jX 189 m st ts ts [a,b] bW bW true (-1):=by
 intro K hk;refine sh0 Tryz.f189 ?_
 repeat' ((conv=>whnf);first|exact zf|refine zm ?_|refine zr0 ?_|refine Ai 252 m st ts a b 2 bW hab ?_|refine zB ?_ ?_|intro _)
 exact hk
theorem Mb(m:Mh)(st:List Va)(ts:List Tr)(a b:Va)(bW:List Fr)(hs:st.length<1000000000)(ha:a.k=2)(hb:b.k=2)(hla:cC (bF a))(hlb:cC (bF b)):vG 190 m st (st++[sh (nv (bF a) (bF b))]) ts [a,b] bW:=by
 intro K hk;refine sh0 Tryz.f190 ?_
 repeat' ((conv=>whnf);first|exact zf|refine zm ?_|refine zr0 ?_|refine Aj 254 rfl m st (st++[sh (nv (bF a) (bF b))]) ts a b 2 bW ha hb (Mc m st ts a b bW hs hla hlb) ?_|refine zB ?_ ?_|intro _)
 exact hk
theorem Ma(m:Mh)(st:List Va)(ts:List Tr)(a b:Va)(bW:List Fr)(hab:¬(a.k=2/\b.k=2)):jX 190 m st ts ts [a,b] bW bW true (-1):=by
 intro K hk;refine sh0 Tryz.f190 ?_
 repeat' ((conv=>whnf);first|exact zf|refine zm ?_|refine zr0 ?_|refine Ai 254 m st ts a b 2 bW hab ?_|refine zB ?_ ?_|intro _)
 exact hk
def Cz(im:Im)(c:Co)(fr tr:Int)(o:Op)(f:Fr):Co×Ou:=
 let a:=vQ im c o
 let b:=q_ im c o
 bif o.c==3 then(⟨ea (bS c.fr f) { {f with pc:=f.pc+1}with vars:=f.vars.set o.a.toNat a},j3 (cn im c o 0 0),c.tr⟩,bu)
 else bif o.c==22 then(bif (a.k==2)&&(b.k==2)then fD im c o f [sh (dS (bF a) (bF b))]else raise c (-1) (max tr 0))
 else bif o.c==23 then(bif (a.k==2)&&(b.k==2)then fD im c o f [sh (nv (bF a) (bF b))]else raise c (-1) (max tr 0))
 else nZ im c fr tr o f
section
variable{im:Im}{c:Co}{fr tr:Int}{f:Fr}{fn:Fn}{oa:Int}
theorem Y7(x:Cx im c fr tr ⟨3,oa⟩ f fn)(hv:f.vars.length<1000000000):St im c fr tr (Cz im c fr tr ⟨3,oa⟩ f):=by
 have hw:within oa f.vars.length=true:=x.op;obtain⟨k1,k2⟩:=within_iff.1 hw;obtain⟨a,ha⟩:=x.TL rfl;have e:Cz im c fr tr ⟨3,oa⟩ f=(⟨ea (bS c.fr f) { {f with pc:=f.pc+1}with vars:=f.vars.set oa.toNat a},j3 (cn im c ⟨3,oa⟩ 0 0),c.tr⟩,bu):=by
  show((⟨ea (bS c.fr f) { {f with pc:=f.pc+1}with vars:=f.vars.set oa.toNat (vQ im c ⟨3,oa⟩)},j3 (cn im c ⟨3,oa⟩ 0 0),c.tr⟩:Co),bu)=_;rw[t0 ha]
 rw[e];refine ry x 1000175 2 _ _ (λ_=>rfl) rfl rfl ?_;rw[ha];exact Lj (cn im c ⟨3,oa⟩ fr tr) (j3 (cn im c ⟨3,oa⟩ fr tr)) c.tr a (bS c.fr f) {f with pc:=f.pc+1} x.rK.1 x.rK.2 x.last hv k1 k2
theorem sW{o:Op}{v:Va}(h:v∈oY (cn im c o fr tr)):v∈c.st:=eS h
theorem Wg(x:Cx im c fr tr ⟨22,oa⟩ f fn)(hm:∀v∈c.st,cC (bF v)):St im c fr tr (Cz im c fr tr ⟨22,oa⟩ f):=by
 obtain⟨a,b,ha⟩:=x.TK rfl;have ma:cC (bF a):=hm a (sW (im:=im) (o:=⟨22,oa⟩) (fr:=fr) (tr:=tr) (by rw[ha];simp));have mb:cC (bF b):=hm b (sW (im:=im) (o:=⟨22,oa⟩) (fr:=fr) (tr:=tr) (by rw[ha];simp));have e:Cz im c fr tr ⟨22,oa⟩ f=(bif (a.k==2)&&(b.k==2)then fD im c ⟨22,oa⟩ f [sh (dS (bF a) (bF b))]else raise c (-1) (max tr 0)):=by
  show(bif ((vQ im c ⟨22,oa⟩).k==2)&&((q_ im c ⟨22,oa⟩).k==2)then fD im c ⟨22,oa⟩ f [sh (dS (bF (vQ im c ⟨22,oa⟩)) (bF (q_ im c ⟨22,oa⟩)))]else raise c (-1) (max tr 0))=_;rw[t0 ha,t1 ha]
 rw[e]
 by_cases hab:a.k=2/\b.k=2
 .rw[AQ hab.1,AQ hab.2];refine vX x 1000189 21 [sh (dS (bF a) (bF b))] (λ_=>rfl) rfl rfl ?_;rw[ha];exact Mr _ _ _ a b _ (by have:=x.sl;omega) hab.1 hab.2 ma mb
 .have e2:((a.k==2)&&(b.k==2))=false:=by
   cases h:(a.k==2)&&(b.k==2) with
   |false=>rfl
   |true=>simp at h;exact absurd h hab
  rw[e2];refine z_ x 1000189 21 (-1) (λ_=>rfl) rfl rfl ?_;rw[ha];exact Mq _ _ _ a b _ hab
theorem Wf(x:Cx im c fr tr ⟨23,oa⟩ f fn)(hm:∀v∈c.st,cC (bF v)):St im c fr tr (Cz im c fr tr ⟨23,oa⟩ f):=by
 obtain⟨a,b,ha⟩:=x.TK rfl;have ma:cC (bF a):=hm a (sW (im:=im) (o:=⟨23,oa⟩) (fr:=fr) (tr:=tr) (by rw[ha];simp));have mb:cC (bF b):=hm b (sW (im:=im) (o:=⟨23,oa⟩) (fr:=fr) (tr:=tr) (by rw[ha];simp));have e:Cz im c fr tr ⟨23,oa⟩ f=(bif (a.k==2)&&(b.k==2)then fD im c ⟨23,oa⟩ f [sh (nv (bF a) (bF b))]else raise c (-1) (max tr 0)):=by
  show(bif ((vQ im c ⟨23,oa⟩).k==2)&&((q_ im c ⟨23,oa⟩).k==2)then fD im c ⟨23,oa⟩ f [sh (nv (bF (vQ im c ⟨23,oa⟩)) (bF (q_ im c ⟨23,oa⟩)))]else raise c (-1) (max tr 0))=_;rw[t0 ha,t1 ha]
 rw[e]
 by_cases hab:a.k=2/\b.k=2
 .rw[AQ hab.1,AQ hab.2];refine vX x 1000190 22 [sh (nv (bF a) (bF b))] (λ_=>rfl) rfl rfl ?_;rw[ha];exact Mb _ _ _ a b _ (by have:=x.sl;omega) hab.1 hab.2 ma mb
 .have e2:((a.k==2)&&(b.k==2))=false:=by
   cases h:(a.k==2)&&(b.k==2) with
   |false=>rfl
   |true=>simp at h;exact absurd h hab
  rw[e2];refine z_ x 1000190 22 (-1) (λ_=>rfl) rfl rfl ?_;rw[ha];exact Ma _ _ _ a b _ hab
theorem RF{o:Op}(x:Cx im c fr tr o f fn)(hma:0<=f.ma/\f.ma<=255)(hv:f.vars.length<1000000000)(hm:∀v∈c.st,cC (bF v))(hd:o.c≠24/\o.c≠31)(hr:ep o=true):St im c fr tr (Cz im c fr tr o f):=by
 obtain⟨k,oa⟩:=o
 by_cases h3:k=3
 .subst h3;exact Y7 x hv
 by_cases h22:k=22
 .subst h22;exact Wg x hm
 by_cases h23:k=23
 .subst h23;exact Wf x hm
 have e:Cz im c fr tr ⟨k,oa⟩ f=nZ im c fr tr ⟨k,oa⟩ f:=by
  simp only[Cz,sR h3,sR h22,sR h23,ε]
 rw[e];refine UZ x hma ?_ hr;simp only[YJ,sR h3,sR h22,sR h23,sR hd.1,sR hd.2,Bool.or_self,Bool.not_false]
def ij(im:Im)(c:Co)(fr tr:Int):Co×Ou:=
 match fit im c with
 |none=>(c,failed (-6))
 |some o=>match c.fr.getLast? with
  |none=>(c,failed (-6))
  |some f=>Cz im c fr tr o f
structure Vu(im:Im)(c:Co):Prop where
  hI:GA im
  cd:∀(i:Nat)(g:Fn),im.fs[i]?=some g->g.code.length<1000000000
  lf:c.fr.length<900000000
  ls:c.st.length<800000000
  lt:c.tr.length<900000000
  ma:∀f,c.fr.getLast?=some f->(0<=f.ma/\f.ma<=255)/\f.vars.length<1000000000
  sm:∀v∈c.st,cC (bF v)
  dm:∀o,fit im c=some o->o.c≠24/\o.c≠31
theorem Ll(h:Vu im c):St im c fr tr (ij im c fr tr):=by
 unfold ij;cases hf:fit im c with
 |none=>exact TQ im c fr tr h.hI (by have:=h.ls;omega) hf
 |some o=>
  obtain⟨f,fn,hl,w1,hfn,w2,ho,hr,hop,hpo⟩:=qe hf;simp only[hl];obtain⟨a1,a2⟩:=within_iff.1 w2;have:=h.cd _ _ hfn;exact RF (fn:=fn) ⟨h.hI,hf,hl,⟨a1,by omega⟩,hop,hpo,h.lf,h.ls,h.lt⟩ (h.ma f hl).1 (h.ma f hl).2 h.sm (h.dm o hf) hr
end
end Go.Proofs.YtmigecldjbgneaaGreatDoor