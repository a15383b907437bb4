/- One step: its parts. Conditions: lists are not too long; numbers are in range. -/
import Derived.Test.YtjpgfgajkjhonaaGreatDoorQEBB
import Derived.KernelRfl
import Derived.Test.YtjpgfgajkjhonaaGreatDoorQEAV
set_option maxRecDepth 100000
namespace Go.Proofs.YtjpgfgajkjhonaaGreatDoor
open Go.Vx
set_option maxRecDepth 100000
def cz (im:Im) (c:Co) (o:Op) (fr tr:Int):Mh:=⟨im,c,o,max fr 0,max tr 0⟩
theorem iR {im:Im} {c:Co} {o:Op} (h:fit im c=some o):lO im c = .tu [AO o,.d (.bool true)]:=by simp only [lO,h]
theorem DC {im:Im} {c:Co} (h:fit im c=none):lO im c = .tu [AO o0,.d (.bool false)]:=by simp only [lO,h]
theorem PZ (im:Im) (c:Co) (fr tr:Int) (hI:C3 im) (hs:c.st.length<1000000000) (h:fit im c=none) :
  bJ Tryz.prog 71 [wF im,gN c,.d (.int .i64 fr),.d (.int .i64 tr)] (.tu [gN c,te (failed (-6))]):=by
 have hf:=lX im c hI hs;rw [DC h] at hf;refine s71.go (keep:=false) rfl ?_
 repeat' ((conv=>whnf);first | exact zf | refine zm ?_ | refine zc hf ?_ | refine zc (mZ (-6)) ?_ | intro _)
set_option maxHeartbeats 4000000 in
theorem PY (im:Im) (c:Co) (fr tr:Int) (o:Op) (hI:C3 im) (hs:c.st.length<1000000000) (h:fit im c=some o) (hq:∀id,pI [0,3] [.d (.int .i64 o.c)] (B_ id) 0=some none) :
    bJ Tryz.prog 71 [wF im,gN c,.d (.int .i64 fr),.d (.int .i64 tr)] (.tu [gN c,te ⟨3,zeroV,o⟩]):=by
  have hf:=lX im c hI hs
  rw [iR h] at hf
  refine s71.go (keep:=false) rfl ?_
  repeat' ((conv=>whnf);first | exact zf | refine h_ 1 ?_ | refine (bp (bw ?_):eQ _ (eQ (kG _ _ _ _ 107 _ _ _ _ _ _ _) _)) | refine zm ?_ | refine zc hf ?_ | refine ⟨_,_,kz (cz im c o fr tr) (And.intro rfl rfl),?_⟩ | intro _)
  refine ⟨_,hq 5,?_⟩
  repeat' ((conv=>whnf);first | exact zf | refine zm ?_ | intro _)
set_option maxHeartbeats 4000000 in
theorem Dx (im:Im) (c:Co) (fr tr:Int) (o:Op) (f:Fr) (F i:Nat) (hI:C3 im) (hs:c.st.length<1000000000) (h:fit im c=some o) (hr:L0 (cz im c o fr tr) f)
    (hq:∀id,pI [0,3] [.d (.int .i64 o.c)] (B_ id) 0=some (some (i,.fc F [.p id 0]))) (hF1:Nat.blt F 1000000=false) (hF2:Nat.blt F 2000000=true) (frs':List Fr) (st':List Va) (ts':List Tr)
    (hM:∀K:Out→H→Prop,K (.ret (.tu [])) [.cells (iE (cz im c o fr tr) (.d (.sl 5 (frs'.map bQ))) st' ts' (gj (mc (cz im c o fr tr))) cD false 0),.no]→Sat Tryz.prog (F - 1000000) [.p 0 0] [.cells (iE (cz im c o fr tr) (.os 1) (jA (cz im c o fr tr)) c.tr (gj (mc (cz im c o fr tr))) cD false 0),.rows 5 ((bU c.fr f).map bQ)] K) :
    bJ Tryz.prog 71 [wF im,gN c,.d (.int .i64 fr),.d (.int .i64 tr)] (.tu [gN ⟨frs',st',ts'⟩,te cD]):=by
  have hf:=lX im c hI hs
  rw [iR h] at hf
  refine s71.go (keep:=false) rfl ?_
  repeat' ((conv=>whnf);first | exact zf | refine h_ 1 ?_ | refine (bp (bw ?_):eQ _ (eQ (kG _ _ _ _ 107 _ _ _ _ _ _ _) _)) | refine zm ?_ | refine zc hf ?_ | refine ⟨_,_,kz (cz im c o fr tr) (And.intro rfl rfl),?_⟩ | intro _)
  refine ⟨_,hq 5,?_⟩
  repeat' ((conv=>whnf);first | exact zf | refine zm ?_ | refine (.inr ?_:(∃_,_)∨_) | refine nG (cz im c o fr tr) f hr ?_ | intro _)
  conv=>whnf
  rw [hF1]
  conv=>whnf
  rw [hF2]
  repeat' ((conv=>whnf);first | exact zf | refine zm ?_ | refine (.inr ?_:(∃_,_)∨_) | refine hM _ ?_ | refine zc (lX im c hI hs) ?_ | intro _)
set_option maxHeartbeats 4000000 in
theorem Lo (im:Im) (c:Co) (fr tr:Int) (o:Op) (f:Fr) (F i:Nat) (hI:C3 im) (hs:c.st.length<1000000000) (h:fit im c=some o) (hr:L0 (cz im c o fr tr) f)
    (hq:∀id,pI [0,3] [.d (.int .i64 o.c)] (B_ id) 0=some (some (i,.fc F [.p id 0]))) (hF1:Nat.blt F 1000000=false) (hF2:Nat.blt F 2000000=true) (frs':List Fr) (st':List Va) (ts':List Tr)
    (hM:∀K:Out→H→Prop,K (.ret (.tu [])) [.cells (iE (cz im c o fr tr) (.os 1) st' ts' (gj (mc (cz im c o fr tr))) cD false 0),.rows 5 (frs'.map bQ)]→Sat Tryz.prog (F - 1000000) [.p 0 0] [.cells (iE (cz im c o fr tr) (.os 1) (jA (cz im c o fr tr)) c.tr (gj (mc (cz im c o fr tr))) cD false 0),.rows 5 ((bU c.fr f).map bQ)] K) :
    bJ Tryz.prog 71 [wF im,gN c,.d (.int .i64 fr),.d (.int .i64 tr)] (.tu [gN ⟨frs',st',ts'⟩,te cD]):=by
  have hf:=lX im c hI hs
  rw [iR h] at hf
  refine s71.go (keep:=false) rfl ?_
  repeat' ((conv=>whnf);first | exact zf | refine h_ 1 ?_ | refine (bp (bw ?_):eQ _ (eQ (kG _ _ _ _ 107 _ _ _ _ _ _ _) _)) | refine zm ?_ | refine zc hf ?_ | refine ⟨_,_,kz (cz im c o fr tr) (And.intro rfl rfl),?_⟩ | intro _)
  refine ⟨_,hq 5,?_⟩
  repeat' ((conv=>whnf);first | exact zf | refine zm ?_ | refine (.inr ?_:(∃_,_)∨_) | refine nG (cz im c o fr tr) f hr ?_ | intro _)
  conv=>whnf
  rw [hF1]
  conv=>whnf
  rw [hF2]
  repeat' ((conv=>whnf);first | exact zf | refine zm ?_ | refine (.inr ?_:(∃_,_)∨_) | refine hM _ ?_ | refine zc (lX im c hI hs) ?_ | intro _)
set_option maxHeartbeats 4000000 in
theorem Ln (im:Im) (c:Co) (fr tr:Int) (o:Op) (f:Fr) (F i:Nat) (hI:C3 im) (hs:c.st.length<1000000000) (h:fit im c=some o) (hr:L0 (cz im c o fr tr) f)
    (hq:∀id,pI [0,3] [.d (.int .i64 o.c)] (B_ id) 0=some (some (i,.fc F [.p id 0]))) (hF1:Nat.blt F 1000000=false) (hF2:Nat.blt F 2000000=true) (frs':List Fr) (st':List Va) (ts':List Tr) (cd:Int) (hf9:c.fr.length<1000000000)
    (hM:∀K:Out→H→Prop,K (.ret (.tu [])) [.cells (iE (cz im c o fr tr) (.os 1) st' ts' (gj (mc (cz im c o fr tr))) cD true cd),.rows 5 (frs'.map bQ)]→Sat Tryz.prog (F - 1000000) [.p 0 0] [.cells (iE (cz im c o fr tr) (.os 1) (jA (cz im c o fr tr)) c.tr (gj (mc (cz im c o fr tr))) cD false 0),.rows 5 ((bU c.fr f).map bQ)] K) :
    bJ Tryz.prog 71 [wF im,gN c,.d (.int .i64 fr),.d (.int .i64 tr)] (.tu [gN (raise c cd (max tr 0)).1,te (raise c cd (max tr 0)).2]):=by
  have hf:=lX im c hI hs
  rw [iR h] at hf
  refine s71.go (keep:=false) rfl ?_
  repeat' ((conv=>whnf);first | exact zf | refine h_ 1 ?_ | refine (bp (bw ?_):eQ _ (eQ (kG _ _ _ _ 107 _ _ _ _ _ _ _) _)) | refine zm ?_ | refine zc hf ?_ | refine ⟨_,_,kz (cz im c o fr tr) (And.intro rfl rfl),?_⟩ | intro _)
  refine ⟨_,hq 5,?_⟩
  repeat' ((conv=>whnf);first | exact zf | refine zm ?_ | refine (.inr ?_:(∃_,_)∨_) | refine nG (cz im c o fr tr) f hr ?_ | intro _)
  conv=>whnf
  rw [hF1]
  conv=>whnf
  rw [hF2]
  repeat' ((conv=>whnf);first | exact zf | refine zm ?_ | refine (.inr ?_:(∃_,_)∨_) | refine hM _ ?_ | refine zc (qc c cd (max tr 0) hf9 hs) ?_ | intro _)
set_option maxHeartbeats 4000000 in
theorem Lm (im:Im) (c:Co) (fr tr:Int) (o:Op) (f:Fr) (F i:Nat) (hI:C3 im) (hs:c.st.length<1000000000) (h:fit im c=some o) (hr:L0 (cz im c o fr tr) f)
    (hq:∀id,pI [0,3] [.d (.int .i64 o.c)] (B_ id) 0=some (some (i,.fc F [.p id 0]))) (hF1:Nat.blt F 1000000=false) (hF2:Nat.blt F 2000000=true) (frs':List Fr) (st':List Va) (ts':List Tr)
    (hM:∀K:Out→H→Prop,K (.ret (.tu [])) [.cells (Qk (cz im c o fr tr) (.os 1) st' (.cl 3 (ts'.map eC)) (gj (mc (cz im c o fr tr))) cD false 0),.rows 5 (frs'.map bQ)]→Sat Tryz.prog (F - 1000000) [.p 0 0] [.cells (iE (cz im c o fr tr) (.os 1) (jA (cz im c o fr tr)) c.tr (gj (mc (cz im c o fr tr))) cD false 0),.rows 5 ((bU c.fr f).map bQ)] K) :
    bJ Tryz.prog 71 [wF im,gN c,.d (.int .i64 fr),.d (.int .i64 tr)] (.tu [gN ⟨frs',st',ts'⟩,te cD]):=by
  have hf:=lX im c hI hs
  rw [iR h] at hf
  refine s71.go (keep:=false) rfl ?_
  repeat' ((conv=>whnf);first | exact zf | refine h_ 1 ?_ | refine (bp (bw ?_):eQ _ (eQ (kG _ _ _ _ 107 _ _ _ _ _ _ _) _)) | refine zm ?_ | refine zc hf ?_ | refine ⟨_,_,kz (cz im c o fr tr) (And.intro rfl rfl),?_⟩ | intro _)
  refine ⟨_,hq 5,?_⟩
  repeat' ((conv=>whnf);first | exact zf | refine zm ?_ | refine (.inr ?_:(∃_,_)∨_) | refine nG (cz im c o fr tr) f hr ?_ | intro _)
  conv=>whnf
  rw [hF1]
  conv=>whnf
  rw [hF2]
  repeat' ((conv=>whnf);first | exact zf | refine zm ?_ | refine (.inr ?_:(∃_,_)∨_) | refine hM _ ?_ | refine zc (lX im c hI hs) ?_ | intro _)
set_option maxHeartbeats 4000000 in
theorem Dw (im:Im) (c:Co) (fr tr:Int) (o:Op) (f:Fr) (F i:Nat) (hI:C3 im) (hs:c.st.length<1000000000) (h:fit im c=some o) (hr:L0 (cz im c o fr tr) f)
    (hq:∀id,pI [0,3] [.d (.int .i64 o.c)] (B_ id) 0=some (some (i,.fc F [.p id 0]))) (hF1:Nat.blt F 1000000=false) (hF2:Nat.blt F 2000000=true) (frs' frs2:List Fr) (st':List Va) (ts':List Tr) (u:Ou)
    (hM:∀K:Out→H→Prop,K (.ret (.tu [])) [.cells (iE (cz im c o fr tr) (.d (.sl 5 (frs'.map bQ))) st' ts' (gj (mc (cz im c o fr tr))) u false 0),.rows 5 (frs2.map bQ)]→Sat Tryz.prog (F - 1000000) [.p 0 0] [.cells (iE (cz im c o fr tr) (.os 1) (jA (cz im c o fr tr)) c.tr (gj (mc (cz im c o fr tr))) cD false 0),.rows 5 ((bU c.fr f).map bQ)] K) :
    bJ Tryz.prog 71 [wF im,gN c,.d (.int .i64 fr),.d (.int .i64 tr)] (.tu [gN ⟨frs',st',ts'⟩,te u]):=by
  have hf:=lX im c hI hs
  rw [iR h] at hf
  refine s71.go (keep:=false) rfl ?_
  repeat' ((conv=>whnf);first | exact zf | refine h_ 1 ?_ | refine (bp (bw ?_):eQ _ (eQ (kG _ _ _ _ 107 _ _ _ _ _ _ _) _)) | refine zm ?_ | refine zc hf ?_ | refine ⟨_,_,kz (cz im c o fr tr) (And.intro rfl rfl),?_⟩ | intro _)
  refine ⟨_,hq 5,?_⟩
  repeat' ((conv=>whnf);first | exact zf | refine zm ?_ | refine (.inr ?_:(∃_,_)∨_) | refine nG (cz im c o fr tr) f hr ?_ | intro _)
  conv=>whnf
  rw [hF1]
  conv=>whnf
  rw [hF2]
  repeat' ((conv=>whnf);first | exact zf | refine zm ?_ | refine (.inr ?_:(∃_,_)∨_) | refine hM _ ?_ | refine zc (lX im c hI hs) ?_ | intro _)
set_option maxHeartbeats 4000000 in
theorem Ll (im:Im) (c:Co) (fr tr:Int) (o:Op) (f:Fr) (F i:Nat) (hI:C3 im) (hs:c.st.length<1000000000) (h:fit im c=some o) (hr:L0 (cz im c o fr tr) f)
    (hq:∀id,pI [0,3] [.d (.int .i64 o.c)] (B_ id) 0=some (some (i,.fc F [.p id 0]))) (hF1:Nat.blt F 1000000=false) (hF2:Nat.blt F 2000000=true) (frs':List Fr) (st':List Va) (ts':List Tr) (cd:Int) (hf9:c.fr.length<1000000000)
    (hM:∀K:Out→H→Prop,K (.ret (.tu [])) [.cells (iE (cz im c o fr tr) (.d (.sl 5 (frs'.map bQ))) st' ts' (gj (mc (cz im c o fr tr))) cD true cd),.no]→Sat Tryz.prog (F - 1000000) [.p 0 0] [.cells (iE (cz im c o fr tr) (.os 1) (jA (cz im c o fr tr)) c.tr (gj (mc (cz im c o fr tr))) cD false 0),.rows 5 ((bU c.fr f).map bQ)] K) :
    bJ Tryz.prog 71 [wF im,gN c,.d (.int .i64 fr),.d (.int .i64 tr)] (.tu [gN (raise c cd (max tr 0)).1,te (raise c cd (max tr 0)).2]):=by
  have hf:=lX im c hI hs
  rw [iR h] at hf
  refine s71.go (keep:=false) rfl ?_
  repeat' ((conv=>whnf);first | exact zf | refine h_ 1 ?_ | refine (bp (bw ?_):eQ _ (eQ (kG _ _ _ _ 107 _ _ _ _ _ _ _) _)) | refine zm ?_ | refine zc hf ?_ | refine ⟨_,_,kz (cz im c o fr tr) (And.intro rfl rfl),?_⟩ | intro _)
  refine ⟨_,hq 5,?_⟩
  repeat' ((conv=>whnf);first | exact zf | refine zm ?_ | refine (.inr ?_:(∃_,_)∨_) | refine nG (cz im c o fr tr) f hr ?_ | intro _)
  conv=>whnf
  rw [hF1]
  conv=>whnf
  rw [hF2]
  repeat' ((conv=>whnf);first | exact zf | refine zm ?_ | refine (.inr ?_:(∃_,_)∨_) | refine hM _ ?_ | refine zc (qc c cd (max tr 0) hf9 hs) ?_ | intro _)
end Go.Proofs.YtjpgfgajkjhonaaGreatDoor
namespace Go.Proofs.YtjpgfgajkjhonaaGreatDoor
open Go.Vx
theorem mO {im:Im} {c:Co} {o:Op} (h:fit im c=some o):∃f fn,c.fr.getLast? = some f∧within f.fu im.fs.length=true∧im.fs[f.fu.toNat]? = some fn∧within f.pc fn.code.length=true∧fn.code[f.pc.toNat]? = some o ∧
  iy o=true∧fN im f fn o=true∧et c (fH im o)=true:=by
 unfold fit at h;split at h
 ·cases h
 ·rename_i f hl;cases h1:within f.fu im.fs.length<;>rw [h1] at h<;>simp only [cond_true,cond_false] at h
  ·cases h
  split at h
  ·cases h
  ·rename_i fn hfn;cases h2:within f.pc fn.code.length<;>rw [h2] at h<;>simp only [cond_true,cond_false] at h
   ·cases h
   split at h
   ·cases h
   ·rename_i o' ho;cases h3:iy o'&&(fN im f fn o'&&et c (fH im o'))<;>rw [h3] at h<;>simp only [cond_true,cond_false] at h
    ·cases h
    ·cases h;simp only [aS] at h3;exact ⟨f,fn,hl,h1,hfn,h2,ho,h3.1,h3.2.1,h3.2.2⟩
theorem mC {c:Co} {n:Int} (h:et c n=true):(kK c n).length=n.toNat∧(qP c n).st.length+n.toNat=c.st.length:=by
 simp [et] at h;simp [kK,qP,gf];omega
structure Cx (im:Im) (c:Co) (fr tr:Int) (o:Op) (f:Fr) (fn:Fn):Prop where
  hI:C3 im
  h:fit im c=some o
  hl:c.fr.getLast? = some f
  w1:0≤f.pc∧f.pc<1000000000
  op:fN im f fn o=true
  po:et c (fH im o)=true
  lf:c.fr.length<900000000
  ls:c.st.length<800000000
  lt:c.tr.length<900000000
namespace Cx
variable {im:Im} {c:Co} {fr tr:Int} {o:Op} {f:Fr} {fn:Fn}
theorem call (x:Cx im c fr tr o f fn) (hc:o.c=17):∃g,0≤o.a∧im.fs[o.a.toNat]? = some g∧eN .i64 g.args:=by
 obtain ⟨k1,k2⟩:=within_iff.1 (oS hc x.op);obtain ⟨g,hg⟩:∃g,im.fs[o.a.toNat]? = some g:=⟨_,aB (by omega)⟩
 exact ⟨g,k1,hg,x.hI.args _ _ hg⟩
theorem Ki (x:Cx im c fr tr o f fn):L0 (cz im c o fr tr) f:=
 ⟨x.hl,by have:=x.lf;show c.fr.length<_;omega,by have:=x.ls;show c.st.length<_;omega,by have:=x.w1;omega,x.po,x.call⟩
theorem hs (x:Cx im c fr tr o f fn):c.st.length<1000000000:=by have:=x.ls;omega
theorem pos (x:Cx im c fr tr o f fn):0<c.fr.length:=by
 cases h:c.fr with
 |nil=>have:=x.hl;rw [h] at this;cases this
 |cons=>simp
theorem last (x:Cx im c fr tr o f fn):(bU c.fr f)[(bU c.fr f).length - 1]? = some { f with pc:=f.pc+1 }:=by
 have:=x.pos;rw [bU,gQ,bc (by omega)]
theorem pR (x:Cx im c fr tr o f fn):0<(bU c.fr f).length∧(bU c.fr f).length<1000000000:=by
 have:=x.pos;have:=x.lf;rw [bU,gQ];omega
theorem tl (x:Cx im c fr tr o f fn):(mc (cz im c o fr tr)).length=(fH im o).toNat∧(jA (cz im c o fr tr)).length+(fH im o).toNat=c.st.length:=mC x.po
theorem sl (x:Cx im c fr tr o f fn):(jA (cz im c o fr tr)).length<800000000:=by have:=x.tl;have:=x.ls;omega
theorem PW (x:Cx im c fr tr o f fn) (h:fH im o=1):∃a,mc (cz im c o fr tr) = [a]:=by
 have:=x.tl.1;rw [h] at this
 match hh:mc (cz im c o fr tr),this with
 |[a],_=>exact ⟨a,rfl⟩
theorem PV (x:Cx im c fr tr o f fn) (h:fH im o=2):∃a b,mc (cz im c o fr tr) = [a,b]:=by
 have:=x.tl.1;rw [h] at this
 match hh:mc (cz im c o fr tr),this with
 |[a,b],_=>exact ⟨a,b,rfl⟩
end Cx
def ev (im:Im) (c:Co) (o:Op) (f:Fr) (l:List Va):Co×Ou:=(⟨bU c.fr f,jA (cz im c o 0 0)++l,c.tr⟩,cD)
def tD (im:Im) (c:Co) (o:Op):Va:=((mc (cz im c o 0 0))[0]?).getD zeroV
def pL (im:Im) (c:Co) (o:Op):Va:=((mc (cz im c o 0 0))[1]?).getD zeroV
def mE (im:Im) (c:Co) (fr tr:Int) (o:Op) (f:Fr):Co×Ou:=
 let exc:=λn=>raise c n (max tr 0)
 let a:=tD im c o
 let b:=pL im c o
 let jmp:Co×Ou:=(⟨eb (bU c.fr f) { { f with pc:=f.pc+1 } with pc:=o.a },jA (cz im c o 0 0),c.tr⟩,cD)
 bif o.c==1 then ev im c o f [(im.cs[o.a.toNat]?).getD zeroV]
 else bif o.c==2 then ev im c o f [(f.vars[o.a.toNat]?).getD zeroV]
 else bif o.c==4 then ev im c o f []
 else bif o.c==5 then ev im c o f [a,a]
 else bif o.c==6 then ev im c o f [b,a]
 else bif o.c==12 then ev im c o f [iK (NI a b)]
 else bif decide (7≤o.c)&&decide (o.c≤13) then (bif (a.k==1)&&(b.k==1) then (match oV o.c a.n b.n with
  |.tu [.d (.int .i64 n),.d (.bool true)]=>ev im c o f [num n]
  |_=>exc (-2)) else exc (-1))
 else bif o.c==14 then (bif a.k==1 then ev im c o f [iK (a.n==0)] else exc (-1))
 else bif o.c==15 then jmp
 else bif o.c==16 then (bif a.k==1 then (bif a.n==0 then ev im c o f [] else jmp) else exc (-1))
 else bif o.c==17 then (bif dZ ⟨bU c.fr f,jA (cz im c o 0 0),c.tr⟩ then (⟨(ft ⟨bU c.fr f,jA (cz im c o 0 0),c.tr⟩ o.a (match im.fs[o.a.toNat]? with | some g=>g.vars | none=>0) (mc (cz im c o 0 0)) f.ma).fr,jA (cz im c o 0 0),c.tr⟩,cD) else exc (-6))
 else bif o.c==18 then (bif decide (((fm c).fr.length:Int)≤max fr 0) then (fm c,⟨1,qO c,o0⟩) else (⟨(fm c).fr,(fm c).st ++ [qO c],(fm c).tr⟩,cD))
 else bif o.c==19 then (bif a.k==1 then exc a.n else exc (-1))
 else bif o.c==20 then (⟨bU c.fr f,jA (cz im c o 0 0),c.tr ++ [⟨(bU c.fr f).length,(jA (cz im c o 0 0)).length,o.a⟩]⟩,cD)
 else bif o.c==21 then (bif decide (max tr 0<c.tr.length) then (⟨bU c.fr f,jA (cz im c o 0 0),c.tr.take (c.tr.length - 1)⟩,cD) else ev im c o f [])
 else bif o.c==44 then (⟨eb (bU c.fr f) { { f with pc:=f.pc+1 } with ma:=xU o.a f.ma },jA (cz im c o 0 0),c.tr⟩,cD)
 else bif o.c==47 then ev im c o f [num f.ma]
 else (c,⟨3,zeroV,o⟩)
def TA (c:Int):Bool:= !((c==3)||(c==22)||(c==23)||(c==24)||(c==31))
def St (im:Im) (c:Co) (fr tr:Int) (r:Co×Ou):Prop:=bJ Tryz.prog 71 [wF im,gN c,.d (.int .i64 fr),.d (.int .i64 tr)] (.tu [gN r.1,te r.2])
section
variable {im:Im} {c:Co} {fr tr:Int} {f:Fr} {fn:Fn} {oa:Int}
theorem tU {o:Op} (x:Cx im c fr tr o f fn) (F i:Nat) (l:List Va) (hq:∀id,pI [0,3] [.d (.int .i64 o.c)] (B_ id) 0=some (some (i,.fc F [.p id 0]))) (hF1:Nat.blt F 1000000=false) (hF2:Nat.blt F 2000000=true)
  (hM:sr (F - 1000000) (cz im c o fr tr) (jA (cz im c o fr tr)) (jA (cz im c o fr tr)++l) c.tr (mc (cz im c o fr tr)) (bU c.fr f)):St im c fr tr (ev im c o f l):=
 Dx im c fr tr o f F i x.hI x.hs x.h x.Ki hq hF1 hF2 (bU c.fr f) (jA (cz im c o fr tr)++l) c.tr hM
theorem qG {o:Op} (x:Cx im c fr tr o f fn) (F i:Nat) (frs':List Fr) (ts':List Tr) (hq:∀id,pI [0,3] [.d (.int .i64 o.c)] (B_ id) 0=some (some (i,.fc F [.p id 0]))) (hF1:Nat.blt F 1000000=false) (hF2:Nat.blt F 2000000=true)
  (hM:ik (F - 1000000) (cz im c o fr tr) (jA (cz im c o fr tr)) c.tr ts' (mc (cz im c o fr tr)) (bU c.fr f) frs' false 0):St im c fr tr (⟨frs',jA (cz im c o 0 0),ts'⟩,cD):=
 Lo im c fr tr o f F i x.hI x.hs x.h x.Ki hq hF1 hF2 frs' (jA (cz im c o fr tr)) ts' hM
theorem xc {o:Op} (x:Cx im c fr tr o f fn) (F i:Nat) (n:Int) (hq:∀id,pI [0,3] [.d (.int .i64 o.c)] (B_ id) 0=some (some (i,.fc F [.p id 0]))) (hF1:Nat.blt F 1000000=false) (hF2:Nat.blt F 2000000=true)
  (hM:ik (F - 1000000) (cz im c o fr tr) (jA (cz im c o fr tr)) c.tr c.tr (mc (cz im c o fr tr)) (bU c.fr f) (bU c.fr f) true n):St im c fr tr (raise c n (max tr 0)):=
 Ln im c fr tr o f F i x.hI x.hs x.h x.Ki hq hF1 hF2 (bU c.fr f) (jA (cz im c o fr tr)) c.tr n (by have:=x.lf;omega) hM
theorem Tp (x:Cx im c fr tr ⟨1,oa⟩ f fn):St im c fr tr (mE im c fr tr ⟨1,oa⟩ f):=by
 have hw:within oa im.cs.length=true:=x.op;obtain ⟨k1,k2⟩:=within_iff.1 hw;obtain ⟨v,hv⟩:∃v,im.cs[oa.toNat]? = some v:=⟨_,aB (by omega)⟩
 have e:mE im c fr tr ⟨1,oa⟩ f=ev im c ⟨1,oa⟩ f [v]:=by
  show ev im c ⟨1,oa⟩ f [(im.cs[oa.toNat]?).getD zeroV]=_;rw [hv];rfl
 rw [e];exact tU x 1000145 0 [v] (λ_=>rfl) rfl rfl (MQ _ _ _ _ _ v (by have:=x.sl;omega) k1 hv)
theorem To (x:Cx im c fr tr ⟨2,oa⟩ f fn):St im c fr tr (mE im c fr tr ⟨2,oa⟩ f):=by
 have hw:within oa f.vars.length=true:=x.op;obtain ⟨k1,k2⟩:=within_iff.1 hw;obtain ⟨v,hv⟩:∃v,f.vars[oa.toNat]? = some v:=⟨_,aB (by omega)⟩
 have e:mE im c fr tr ⟨2,oa⟩ f=ev im c ⟨2,oa⟩ f [v]:=by
  show ev im c ⟨2,oa⟩ f [(f.vars[oa.toNat]?).getD zeroV]=_;rw [hv];rfl
 rw [e];exact tU x 1000146 1 [v] (λ_=>rfl) rfl rfl (Mq _ _ _ _ _ { f with pc:=f.pc+1 } v (by have:=x.sl;omega) x.pR.1 x.pR.2 x.last k1 hv)
theorem UX (x:Cx im c fr tr ⟨4,oa⟩ f fn):St im c fr tr (mE im c fr tr ⟨4,oa⟩ f):=by
 have e:mE im c fr tr ⟨4,oa⟩ f=(⟨bU c.fr f,jA (cz im c ⟨4,oa⟩ 0 0),c.tr⟩,cD):=by
  show ev im c ⟨4,oa⟩ f []=_;simp [ev]
 rw [e];exact qG x 1000148 3 _ _ (λ_=>rfl) rfl rfl (Pl _ _ _ _ _)
theorem t0 {o:Op} {a:Va} {l:List Va} (h:mc (cz im c o fr tr)=a :: l):tD im c o=a:=by
 have:mc (cz im c o 0 0)=a :: l:=h;simp [tD,this]
theorem t1 {o:Op} {a b:Va} {l:List Va} (h:mc (cz im c o fr tr)=a :: b :: l):pL im c o=b:=by
 have:mc (cz im c o 0 0)=a :: b :: l:=h;simp [pL,this]
theorem UW (x:Cx im c fr tr ⟨5,oa⟩ f fn):St im c fr tr (mE im c fr tr ⟨5,oa⟩ f):=by
 obtain ⟨a,ha⟩:=x.PW rfl;have e:mE im c fr tr ⟨5,oa⟩ f=ev im c ⟨5,oa⟩ f [a,a]:=by
  show ev im c ⟨5,oa⟩ f [tD im c ⟨5,oa⟩,tD im c ⟨5,oa⟩]=_;rw [t0 ha]
 rw [e];refine tU x 1000149 4 [a,a] (λ_=>rfl) rfl rfl ?_;rw [ha];have:=RJ (cz im c ⟨5,oa⟩ fr tr) (jA (cz im c ⟨5,oa⟩ fr tr)) c.tr a (bU c.fr f) (by have:=x.sl;omega);rwa [bK] at this
theorem UU (x:Cx im c fr tr ⟨6,oa⟩ f fn):St im c fr tr (mE im c fr tr ⟨6,oa⟩ f):=by
 obtain ⟨a,b,ha⟩:=x.PV rfl;have e:mE im c fr tr ⟨6,oa⟩ f=ev im c ⟨6,oa⟩ f [b,a]:=by
  show ev im c ⟨6,oa⟩ f [pL im c ⟨6,oa⟩,tD im c ⟨6,oa⟩]=_;rw [t0 ha,t1 ha]
 rw [e];refine tU x 1000150 5 [b,a] (λ_=>rfl) rfl rfl ?_;rw [ha];have:=Lj (cz im c ⟨6,oa⟩ fr tr) (jA (cz im c ⟨6,oa⟩ fr tr)) c.tr a b (bU c.fr f) (by have:=x.sl;omega);rwa [bK] at this
theorem Si (x:Cx im c fr tr ⟨12,oa⟩ f fn):St im c fr tr (mE im c fr tr ⟨12,oa⟩ f):=by
 obtain ⟨a,b,ha⟩:=x.PV rfl;have e:mE im c fr tr ⟨12,oa⟩ f=ev im c ⟨12,oa⟩ f [iK (NI a b)]:=by
  show ev im c ⟨12,oa⟩ f [iK (NI (tD im c ⟨12,oa⟩) (pL im c ⟨12,oa⟩))]=_;rw [t0 ha,t1 ha]
 rw [e];refine tU x 1000152 11 [iK (NI a b)] (λ_=>rfl) rfl rfl ?_;rw [ha];exact Sz (cz im c ⟨12,oa⟩ fr tr) (jA (cz im c ⟨12,oa⟩ fr tr)) c.tr a b (bU c.fr f) (by have:=x.sl;omega)
theorem JK (k a b:Int):(∃n,oV k a b=lH n)∨oV k a b=pQ:=by
 unfold oV;cases k==7<;>cases k==8<;>cases k==9<;>cases k==10<;>cases k==11<;>cases k==12<;>simp only [cond_true,cond_false] <;>
  first
   |exact .inl ⟨_,rfl⟩
   |(cases b==0<;>simp only [cond_true,cond_false]<;>first | exact .inl ⟨_,rfl⟩ | exact .inr trivial | exact .inr rfl)
def Qc (im:Im) (c:Co) (tr:Int) (o:Op) (f:Fr):Co×Ou:=
 bif ((tD im c o).k==1)&&((pL im c o).k==1) then (match oV o.c (tD im c o).n (pL im c o).n with
  |.tu [.d (.int .i64 n),.d (.bool true)]=>ev im c o f [num n]
  |_=>raise c (-2) (max tr 0)) else raise c (-1) (max tr 0)
theorem Nw {o:Op} (x:Cx im c fr tr o f fn) (i:Nat) (hc:7≤o.c∧o.c≤13) (ht:fH im o=2) (hq:∀id,pI [0,3] [.d (.int .i64 o.c)] (B_ id) 0=some (some (i,.fc 1000151 [.p id 0]))):St im c fr tr (Qc im c tr o f):=by
 obtain ⟨a,b,ha⟩:=x.PV ht;have h0:=t0 ha;have h1:=t1 ha;unfold Qc;rw [h0,h1]
 by_cases hab:a.k=1∧b.k=1
 ·rw [show ((a.k==1)&&(b.k==1))=true by simp [hab.1,hab.2]];simp only [cond_true];rcases JK o.c a.n b.n with ⟨n,hn⟩ | hn
  ·rw [hn];refine tU x 1000151 i [num n] hq rfl rfl ?_;rw [ha];exact C7 (cz im c o fr tr) _ c.tr a b (bU c.fr f) n (by have:=x.sl;omega) hc hab.1 hab.2 hn
  ·rw [hn];refine xc x 1000151 i (-2) hq rfl rfl ?_;rw [ha];exact C6 (cz im c o fr tr) _ c.tr a b (bU c.fr f) hc hab.1 hab.2 hn
 ·have e:((a.k==1)&&(b.k==1))=false:=by
   cases hh:((a.k==1)&&(b.k==1)) with
   |false=>rfl
   |true=>simp at hh;exact absurd hh hab
  rw [e];refine xc x 1000151 i (-1) hq rfl rfl ?_;rw [ha];exact C5 (cz im c o fr tr) _ c.tr a b (bU c.fr f) hab
end
end Go.Proofs.YtjpgfgajkjhonaaGreatDoor
namespace Go.Proofs.YtjpgfgajkjhonaaGreatDoor
open Go.Vx
section
variable {im:Im} {c:Co} {fr tr:Int} {f:Fr} {fn:Fn} {oa:Int}
theorem xw {a b:Int} (h:a=b):(a==b)=true:=by simp [h]
theorem qW {a b:Int} (h:¬a=b):(a==b)=false:=by simp [h]
theorem Qu (o:Op):ev im c o f []=(⟨bU c.fr f,jA (cz im c o 0 0),c.tr⟩,cD):=by simp [ev]
theorem Sh (x:Cx im c fr tr ⟨14,oa⟩ f fn):St im c fr tr (mE im c fr tr ⟨14,oa⟩ f):=by
 obtain ⟨a,ha⟩:=x.PW rfl;have e:mE im c fr tr ⟨14,oa⟩ f=bif a.k==1 then ev im c ⟨14,oa⟩ f [iK (a.n==0)] else raise c (-1) (max tr 0):=by
  show (bif (tD im c ⟨14,oa⟩).k==1 then ev im c ⟨14,oa⟩ f [iK ((tD im c ⟨14,oa⟩).n==0)] else raise c (-1) (max tr 0))=_;rw [t0 ha]
 rw [e]
 by_cases hk:a.k=1
 ·rw [xw hk,cond_true];refine tU x 1000153 13 _ (λ_=>rfl) rfl rfl ?_;rw [ha];exact Me (cz im c ⟨14,oa⟩ fr tr) _ c.tr a (bU c.fr f) (by have:=x.sl;omega) hk
 ·rw [qW hk,cond_false];refine xc x 1000153 13 (-1) (λ_=>rfl) rfl rfl ?_;rw [ha];exact Md (cz im c ⟨14,oa⟩ fr tr) _ c.tr a (bU c.fr f) hk
theorem Sg (x:Cx im c fr tr ⟨15,oa⟩ f fn):St im c fr tr (mE im c fr tr ⟨15,oa⟩ f):=
 qG x 1000154 14 _ _ (λ_=>rfl) rfl rfl (F3 (cz im c ⟨15,oa⟩ fr tr) _ c.tr _ (bU c.fr f) { f with pc:=f.pc+1 } x.pR.1 x.pR.2 x.last)
theorem Sf (x:Cx im c fr tr ⟨16,oa⟩ f fn):St im c fr tr (mE im c fr tr ⟨16,oa⟩ f):=by
 obtain ⟨a,ha⟩:=x.PW rfl;have e:mE im c fr tr ⟨16,oa⟩ f=bif a.k==1 then (bif a.n==0 then ev im c ⟨16,oa⟩ f [] else (⟨eb (bU c.fr f) { { f with pc:=f.pc+1 } with pc:=oa },jA (cz im c ⟨16,oa⟩ 0 0),c.tr⟩,cD)) else raise c (-1) (max tr 0):=by
  show (bif (tD im c ⟨16,oa⟩).k==1 then (bif (tD im c ⟨16,oa⟩).n==0 then ev im c ⟨16,oa⟩ f [] else _) else raise c (-1) (max tr 0))=_;rw [t0 ha]
 rw [e]
 by_cases hk:a.k=1
 ·rw [xw hk,cond_true]
  by_cases hn:a.n=0
  ·rw [xw hn,cond_true,Qu];refine qG x 1000155 15 _ _ (λ_=>rfl) rfl rfl ?_;rw [ha];exact Cr (cz im c ⟨16,oa⟩ fr tr) _ c.tr a (bU c.fr f) hk hn
  ·rw [qW hn,cond_false];refine qG x 1000155 15 _ _ (λ_=>rfl) rfl rfl ?_;rw [ha];exact Cs (cz im c ⟨16,oa⟩ fr tr) _ c.tr a (bU c.fr f) { f with pc:=f.pc+1 } x.pR.1 x.pR.2 x.last hk hn
 ·rw [qW hk,cond_false];refine xc x 1000155 15 (-1) (λ_=>rfl) rfl rfl ?_;rw [ha];exact Cq (cz im c ⟨16,oa⟩ fr tr) _ c.tr a (bU c.fr f) hk
theorem Se (x:Cx im c fr tr ⟨17,oa⟩ f fn):St im c fr tr (mE im c fr tr ⟨17,oa⟩ f):=by
 obtain ⟨g,h0,hg,_⟩:=x.call rfl;have hlen:=x.pR;have hpo:=mC x.po;have htk:(mc (cz im c ⟨17,oa⟩ fr tr)).length<1000000000:=by have:=x.tl;have:=x.ls;omega
 have e:mE im c fr tr ⟨17,oa⟩ f=bif dZ ⟨bU c.fr f,jA (cz im c ⟨17,oa⟩ 0 0),c.tr⟩ then (⟨(ft ⟨bU c.fr f,jA (cz im c ⟨17,oa⟩ 0 0),c.tr⟩ oa g.vars (mc (cz im c ⟨17,oa⟩ 0 0)) f.ma).fr,jA (cz im c ⟨17,oa⟩ 0 0),c.tr⟩,cD) else raise c (-6) (max tr 0):=by
  show (bif dZ ⟨bU c.fr f,jA (cz im c ⟨17,oa⟩ 0 0),c.tr⟩ then (⟨(ft ⟨bU c.fr f,jA (cz im c ⟨17,oa⟩ 0 0),c.tr⟩ oa (match im.fs[oa.toNat]? with | some g=>g.vars | none=>0) (mc (cz im c ⟨17,oa⟩ 0 0)) f.ma).fr,jA (cz im c ⟨17,oa⟩ 0 0),c.tr⟩,cD) else raise c (-6) (max tr 0))=_;rw [hg]
 rw [e];cases hy:dZ ⟨bU c.fr f,jA (cz im c ⟨17,oa⟩ 0 0),c.tr⟩ with
 |true=>
  rw [cond_true];exact Dx im c fr tr ⟨17,oa⟩ f 1000156 16 x.hI x.hs x.h x.Ki (λ_=>rfl) rfl rfl _ (jA (cz im c ⟨17,oa⟩ fr tr)) c.tr (λK hk=>KM (cz im c ⟨17,oa⟩ fr tr) _ c.tr _ (bU c.fr f) { f with pc:=f.pc+1 } g hlen.1 hlen.2 htk x.last h0 hg hy hk)
 |false=>
  rw [cond_false];exact Ll im c fr tr ⟨17,oa⟩ f 1000156 16 x.hI x.hs x.h x.Ki (λ_=>rfl) rfl rfl (bU c.fr f) (jA (cz im c ⟨17,oa⟩ fr tr)) c.tr (-6) (by have:=x.lf;omega) (λK hk=>KL (cz im c ⟨17,oa⟩ fr tr) _ c.tr _ (bU c.fr f) { f with pc:=f.pc+1 } g hlen.1 hlen.2 htk x.last h0 hg hy hk)
theorem Q6 (x:Cx im c fr tr ⟨18,oa⟩ f fn):St im c fr tr (mE im c fr tr ⟨18,oa⟩ f):=by
 have hlf:=x.lf;have hls:=x.ls;have hlt:=x.lt;have hpos:=x.pos;have hpo:et c 1=true:=x.po;have hy:nP c=true:=by simp [nP,hpo,hpos]
 have hl2:(fm c).st.length<1000000000:=by
  show (gf c.st (base c)).length<_;simp only [gf,ah];omega
 have e:mE im c fr tr ⟨18,oa⟩ f=bif decide (((fm c).fr.length:Int)≤max fr 0) then (fm c,⟨1,qO c,o0⟩) else (⟨(fm c).fr,(fm c).st ++ [qO c],(fm c).tr⟩,cD):=rfl;rw [e]
 by_cases hn:((fm c).fr.length:Int)≤max fr 0
 ·rw [show decide (((fm c).fr.length:Int)≤max fr 0)=true by simpa using hn,cond_true];exact Dw im c fr tr ⟨18,oa⟩ f 1000157 17 x.hI x.hs x.h x.Ki (λ_=>rfl) rfl rfl (fm c).fr (bU c.fr f) (fm c).st (fm c).tr ⟨1,qO c,o0⟩ (λK hk=>MG (cz im c ⟨18,oa⟩ fr tr) _ c.tr _ (bU c.fr f) (by show c.fr.length<_;omega) (by show c.st.length<_;omega) (by show c.tr.length<_;omega) hy hn hk)
 ·rw [show decide (((fm c).fr.length:Int)≤max fr 0)=false by simpa using hn,cond_false];exact Dw im c fr tr ⟨18,oa⟩ f 1000157 17 x.hI x.hs x.h x.Ki (λ_=>rfl) rfl rfl (fm c).fr (bU c.fr f) ((fm c).st ++ [qO c]) (fm c).tr cD (λK hk=>MF (cz im c ⟨18,oa⟩ fr tr) _ c.tr _ (bU c.fr f) (by show c.fr.length<_;omega) (by show c.st.length<_;omega) (by show c.tr.length<_;omega) hl2 hy hn hk)
theorem Sd (x:Cx im c fr tr ⟨19,oa⟩ f fn):St im c fr tr (mE im c fr tr ⟨19,oa⟩ f):=by
 obtain ⟨a,ha⟩:=x.PW rfl;have e:mE im c fr tr ⟨19,oa⟩ f=bif a.k==1 then raise c a.n (max tr 0) else raise c (-1) (max tr 0):=by
  show (bif (tD im c ⟨19,oa⟩).k==1 then raise c (tD im c ⟨19,oa⟩).n (max tr 0) else raise c (-1) (max tr 0))=_;rw [t0 ha]
 rw [e]
 by_cases hk:a.k=1
 ·rw [xw hk,cond_true];refine xc x 1000158 18 a.n (λ_=>rfl) rfl rfl ?_;rw [ha];exact Ds (cz im c ⟨19,oa⟩ fr tr) _ c.tr a (bU c.fr f) hk
 ·rw [qW hk,cond_false];refine xc x 1000158 18 (-1) (λ_=>rfl) rfl rfl ?_;rw [ha];exact Dr (cz im c ⟨19,oa⟩ fr tr) _ c.tr a (bU c.fr f) hk
theorem Sb (x:Cx im c fr tr ⟨20,oa⟩ f fn):St im c fr tr (mE im c fr tr ⟨20,oa⟩ f):=
 qG x 1000159 19 _ _ (λ_=>rfl) rfl rfl (PT (cz im c ⟨20,oa⟩ fr tr) _ c.tr _ (bU c.fr f) (by have:=x.lt;omega))
theorem Sa (x:Cx im c fr tr ⟨21,oa⟩ f fn):St im c fr tr (mE im c fr tr ⟨21,oa⟩ f):=by
 have e:mE im c fr tr ⟨21,oa⟩ f=bif decide (max tr 0<c.tr.length) then (⟨bU c.fr f,jA (cz im c ⟨21,oa⟩ 0 0),c.tr.take (c.tr.length - 1)⟩,cD) else ev im c ⟨21,oa⟩ f []:=rfl;rw [e]
 by_cases hn:max tr 0<(c.tr.length:Int)
 ·rw [show decide (max tr 0<(c.tr.length:Int))=true by simpa using hn,cond_true];exact Lm im c fr tr ⟨21,oa⟩ f 1000160 20 x.hI x.hs x.h x.Ki (λ_=>rfl) rfl rfl (bU c.fr f) (jA (cz im c ⟨21,oa⟩ fr tr)) (c.tr.take (c.tr.length - 1)) (λK hk=>NK (cz im c ⟨21,oa⟩ fr tr) _ c.tr _ (bU c.fr f) hn (by show 0≤max tr 0;omega) hk)
 ·rw [show decide (max tr 0<(c.tr.length:Int))=false by simpa using hn,cond_false,Qu];exact qG x 1000160 20 _ _ (λ_=>rfl) rfl rfl (λK hk=>NJ (cz im c ⟨21,oa⟩ fr tr) _ c.tr _ (bU c.fr f) hn hk)
theorem S6 (x:Cx im c fr tr ⟨44,oa⟩ f fn):St im c fr tr (mE im c fr tr ⟨44,oa⟩ f):=
 qG x 1000165 25 _ _ (λ_=>rfl) rfl rfl (Ms (cz im c ⟨44,oa⟩ fr tr) _ c.tr _ (bU c.fr f) { f with pc:=f.pc+1 } x.pR.1 x.pR.2 x.last)
theorem S5 (x:Cx im c fr tr ⟨47,oa⟩ f fn) (hma:0≤f.ma∧f.ma≤255):St im c fr tr (mE im c fr tr ⟨47,oa⟩ f):=
 tU x 1000166 26 [num f.ma] (λ_=>rfl) rfl rfl (Po (cz im c ⟨47,oa⟩ fr tr) _ c.tr _ (bU c.fr f) { f with pc:=f.pc+1 } (by have:=x.sl;omega) x.pR.1 x.pR.2 x.last hma)
theorem tN {o:Op} (x:Cx im c fr tr o f fn) (hq:∀id,pI [0,3] [.d (.int .i64 o.c)] (B_ id) 0=some none):St im c fr tr (c,⟨3,zeroV,o⟩):=
 PY im c fr tr o x.hI x.hs x.h hq
structure Us (im:Im) (c:Co):Prop where
  hI:C3 im
  cd:∀(i:Nat) (g:Fn),im.fs[i]? = some g→g.code.length<1000000000
  lf:c.fr.length<900000000
  ls:c.st.length<800000000
  lt:c.tr.length<900000000
  ma:∀f,c.fr.getLast? = some f→0≤f.ma∧f.ma≤255
  dm:∀o,fit im c=some o→TA o.c=true
set_option maxHeartbeats 4000000 in
theorem Q5 {o:Op} (x:Cx im c fr tr o f fn) (hma:0≤f.ma∧f.ma≤255) (hd:TA o.c=true) (hr:iy o=true):St im c fr tr (mE im c fr tr o f):=by
 obtain ⟨k,oa⟩:=o;have hk:1≤k∧k≤47:=by
  unfold iy at hr;cases hi:inf k with
  |none=>rw [hi] at hr;cases hr
  |some i=>have:=sA hi;omega
 have h47:k=1∨k=2∨k=3∨k=4∨k=5∨k=6∨k=7∨k=8∨k=9∨k=10∨k=11∨k=12∨k=13∨k=14∨k=15∨k=16∨k=17∨k=18∨k=19∨k=20∨k=21∨k=22∨k=23∨k=24∨k=25∨k=26∨k=27∨k=28∨k=29∨k=30∨k=31∨k=32∨k=33∨k=34∨k=35∨k=36∨k=37∨k=38∨k=39∨k=40∨k=41∨k=42∨k=43∨k=44∨k=45∨k=46∨k=47:=by omega
 rcases h47 with rfl | rfl | rfl | rfl | rfl | rfl | rfl | rfl | rfl | rfl | rfl | rfl | rfl | rfl | rfl | rfl | rfl | rfl | rfl | rfl | rfl | rfl | rfl | rfl | rfl | rfl | rfl | rfl | rfl | rfl | rfl | rfl | rfl | rfl | rfl | rfl | rfl | rfl | rfl | rfl | rfl | rfl | rfl | rfl | rfl | rfl | rfl
 ·exact Tp x
 ·exact To x
 ·exact absurd hd jG
 ·exact UX x
 ·exact UW x
 ·exact UU x
 ·exact Nw x 6 (show (7:Int)≤7∧(7:Int)≤13 by decide) rfl (λ_=>rfl)
 ·exact Nw x 7 (show (7:Int)≤8∧(8:Int)≤13 by decide) rfl (λ_=>rfl)
 ·exact Nw x 8 (show (7:Int)≤9∧(9:Int)≤13 by decide) rfl (λ_=>rfl)
 ·exact Nw x 9 (show (7:Int)≤10∧(10:Int)≤13 by decide) rfl (λ_=>rfl)
 ·exact Nw x 10 (show (7:Int)≤11∧(11:Int)≤13 by decide) rfl (λ_=>rfl)
 ·exact Si x
 ·exact Nw x 12 (show (7:Int)≤13∧(13:Int)≤13 by decide) rfl (λ_=>rfl)
 ·exact Sh x
 ·exact Sg x
 ·exact Sf x
 ·exact Se x
 ·exact Q6 x
 ·exact Sd x
 ·exact Sb x
 ·exact Sa x
 ·exact absurd hd jG
 ·exact absurd hd jG
 ·exact absurd hd jG
 ·exact tN x (λ_=>rfl)
 ·exact tN x (λ_=>rfl)
 ·exact tN x (λ_=>rfl)
 ·exact tN x (λ_=>rfl)
 ·exact tN x (λ_=>rfl)
 ·exact tN x (λ_=>rfl)
 ·exact absurd hd jG
 ·exact tN x (λ_=>rfl)
 ·exact tN x (λ_=>rfl)
 ·exact tN x (λ_=>rfl)
 ·exact tN x (λ_=>rfl)
 ·exact tN x (λ_=>rfl)
 ·exact tN x (λ_=>rfl)
 ·exact tN x (λ_=>rfl)
 ·exact tN x (λ_=>rfl)
 ·exact tN x (λ_=>rfl)
 ·exact tN x (λ_=>rfl)
 ·exact tN x (λ_=>rfl)
 ·exact tN x (λ_=>rfl)
 ·exact S6 x
 ·exact tN x (λ_=>rfl)
 ·exact tN x (λ_=>rfl)
 ·exact S5 x hma
end
end Go.Proofs.YtjpgfgajkjhonaaGreatDoor
namespace Go.Proofs.YtjpgfgajkjhonaaGreatDoor
open Go.Vx
def c00:Co:=⟨[],[],[]⟩
end Go.Proofs.YtjpgfgajkjhonaaGreatDoor
namespace Go.Proofs.YtjpgfgajkjhonaaGreatDoor
open Go.Vx
end Go.Proofs.YtjpgfgajkjhonaaGreatDoor
namespace Go.Proofs.YtjpgfgajkjhonaaGreatDoor
open Go.Vx
end Go.Proofs.YtjpgfgajkjhonaaGreatDoor
namespace Go.Proofs.YtjpgfgajkjhonaaGreatDoor
open Go.Vx
set_option maxRecDepth 100000
theorem H8 (m:Mh) (st:List Va) (ts:List Tr) (a:Va) (bW:List Fr) (f:Fr) (hl:0<bW.length) (hlf:bW.length<1000000000) (hf:bW[bW.length - 1]? = some f) (hv:f.vars.length<1000000000) (h0:0≤m.o.a) (h1:m.o.a<f.vars.length) :
  ik 147 m st ts ts [a] bW (eb bW { f with vars:=f.vars.set m.o.a.toNat a }) false 0:=by
 intro K hk;have hrow:=mJ hl hf;rw [←mK hl] at hk;have e:bQ { f with vars:=f.vars.set m.o.a.toNat a } = [.int .i64 f.fu,.int .i64 f.pc,.int .i64 f.ba,.int .u8 f.ma,.sl 5 ((f.vars.map cE).set m.o.a.toNat (cE a))]:=by simp [bQ]
 rw [e] at hk;obtain ⟨v0,hv0⟩:∃v0,f.vars[m.o.a.toNat]? = some v0:=⟨_,aB (by omega)⟩
 have hvr:(f.vars.map cE)[m.o.a.toNat]? = some (cE v0):=by simp [hv0]
 refine s147.go (keep:=false) rfl ?_
 repeat' ((conv=>whnf);first | exact zf | refine zm ?_ | refine (.inr ?_:(∃_,_)∨_) | refine tp m st ts [a] cD false 0 _ (by simp;omega) (by simp;omega) ?_ | intro _)
 refine ⟨bQ f,hrow,?_⟩
 repeat' ((conv=>whnf);first | exact zf | refine zm ?_ | refine (.inr ?_:(∃_,_)∨_) | refine qt (f.vars.map cE) (by simpa using hv) ?_ | refine Hl ?_ | intro _)
 conv=>whnf
 refine ⟨bQ f,hrow,⟨rfl,rfl,rfl⟩,?_⟩
 repeat' ((conv=>whnf);first | exact zf | refine zm ?_ | intro _)
 refine ⟨cE a,⟨by decide,rfl,rfl⟩,?_⟩
 repeat' ((conv=>whnf);first | exact zf | refine zm ?_ | refine And.intro ⟨h0,by simpa using h1,rfl⟩ ?_ | intro _)
 refine ⟨cE v0,hvr,⟨rfl,rfl,rfl⟩,?_⟩
 repeat' ((conv=>whnf);first | exact zf | refine zm ?_ | intro _)
 conv=>whnf
 exact hk
def qC (l:Lb):Va:=⟨2,0,[],l.s,l.i⟩
def bB (v:Va):Lb:=⟨v.ls,v.li⟩
theorem BG {K:Out→H→Prop} (m:Mh) (st:List Va) (ts:List Tr) (tk:List Va) (u:Ou) (wr:Bool) (cd:Int) (fs:List Fr) (l:Lb) (hs:st.length<1000000000)
  (hk:K (.ret (.tu [])) [.cells (iE m (.d (.sl 5 (fs.map bQ))) (st ++ [qC l]) ts (gj tk) u wr cd),.no]) :
  Sat Tryz.prog 227 [.p 0 0,jr l] [.cells (iE m (.os 1) st ts (gj tk) u wr cd),.rows 5 (fs.map bQ)] K:=by
 refine s227.go (keep:=false) rfl ?_
 repeat' ((conv=>whnf);first | exact zf | refine zm ?_ | refine (.inr ?_:(∃_,_)∨_) | refine lL m st ts tk u wr cd fs (qC l) hs ?_ | intro _)
 conv=>whnf
 exact hk
theorem J7 (m:Mh) (st:List Va) (ts:List Tr) (a b:Va) (bW:List Fr) (hs:st.length<1000000000) (ha:cL (bB a)) (hb:cL (bB b)):DZ 226 [jT a,jT b] m st (st ++ [qC (dU (bB a) (bB b))]) ts [a,b] bW:=by
 intro K hk;have h:=rz (bB a) (bB b) ha hb;refine s226.go (keep:=false) rfl ?_
 repeat' ((conv=>whnf);first | exact zf | refine zm ?_ | refine zc h ?_ | refine (.inr ?_:(∃_,_)∨_) | refine BG m st ts [a,b] cD false 0 bW (dU (bB a) (bB b)) hs ?_ | intro _)
 conv=>whnf
 exact hk
theorem JR (m:Mh) (st:List Va) (ts:List Tr) (a b:Va) (bW:List Fr) (hs:st.length<1000000000) (ha:cL (bB a)) (hb:cL (bB b)):DZ 228 [jT a,jT b] m st (st ++ [qC (mH (bB a) (bB b))]) ts [a,b] bW:=by
 intro K hk;have h:=FG (bB a) (bB b) ha hb;refine s228.go (keep:=false) rfl ?_
 repeat' ((conv=>whnf);first | exact zf | refine zm ?_ | refine zc h ?_ | refine (.inr ?_:(∃_,_)∨_) | refine BG m st ts [a,b] cD false 0 bW (mH (bB a) (bB b)) hs ?_ | intro _)
 conv=>whnf
 exact hk
theorem J6 (m:Mh) (st:List Va) (ts:List Tr) (a b:Va) (bW:List Fr) (hs:st.length<1000000000) (ha:a.k=2) (hb:b.k=2) (hla:cL (bB a)) (hlb:cL (bB b)):sr 161 m st (st ++ [qC (dU (bB a) (bB b))]) ts [a,b] bW:=by
 intro K hk;refine s161.go (keep:=false) rfl ?_
 repeat' ((conv=>whnf);first | exact zf | refine zm ?_ | refine (.inr ?_:(∃_,_)∨_) | refine yW 226 rfl m st (st ++ [qC (dU (bB a) (bB b))]) ts a b 2 bW ha hb (J7 m st ts a b bW hs hla hlb) ?_ | intro _)
 exact hk
theorem J5 (m:Mh) (st:List Va) (ts:List Tr) (a b:Va) (bW:List Fr) (hab:¬(a.k=2∧b.k=2)):ik 161 m st ts ts [a,b] bW bW true (-1):=by
 intro K hk;refine s161.go (keep:=false) rfl ?_
 repeat' ((conv=>whnf);first | exact zf | refine zm ?_ | refine (.inr ?_:(∃_,_)∨_) | refine yV 226 m st ts a b 2 bW hab ?_ | intro _)
 exact hk
theorem JQ (m:Mh) (st:List Va) (ts:List Tr) (a b:Va) (bW:List Fr) (hs:st.length<1000000000) (ha:a.k=2) (hb:b.k=2) (hla:cL (bB a)) (hlb:cL (bB b)):sr 162 m st (st ++ [qC (mH (bB a) (bB b))]) ts [a,b] bW:=by
 intro K hk;refine s162.go (keep:=false) rfl ?_
 repeat' ((conv=>whnf);first | exact zf | refine zm ?_ | refine (.inr ?_:(∃_,_)∨_) | refine yW 228 rfl m st (st ++ [qC (mH (bB a) (bB b))]) ts a b 2 bW ha hb (JR m st ts a b bW hs hla hlb) ?_ | intro _)
 exact hk
theorem JP (m:Mh) (st:List Va) (ts:List Tr) (a b:Va) (bW:List Fr) (hab:¬(a.k=2∧b.k=2)):ik 162 m st ts ts [a,b] bW bW true (-1):=by
 intro K hk;refine s162.go (keep:=false) rfl ?_
 repeat' ((conv=>whnf);first | exact zf | refine zm ?_ | refine (.inr ?_:(∃_,_)∨_) | refine yV 228 m st ts a b 2 bW hab ?_ | intro _)
 exact hk
def Ar (im:Im) (c:Co) (fr tr:Int) (o:Op) (f:Fr):Co×Ou:=
 let a:=tD im c o
 let b:=pL im c o
 bif o.c==3 then (⟨eb (bU c.fr f) { { f with pc:=f.pc+1 } with vars:=f.vars.set o.a.toNat a },jA (cz im c o 0 0),c.tr⟩,cD)
 else bif o.c==22 then (bif (a.k==2)&&(b.k==2) then ev im c o f [qC (dU (bB a) (bB b))] else raise c (-1) (max tr 0))
 else bif o.c==23 then (bif (a.k==2)&&(b.k==2) then ev im c o f [qC (mH (bB a) (bB b))] else raise c (-1) (max tr 0))
 else mE im c fr tr o f
section
variable {im:Im} {c:Co} {fr tr:Int} {f:Fr} {fn:Fn} {oa:Int}
theorem UY (x:Cx im c fr tr ⟨3,oa⟩ f fn) (hv:f.vars.length<1000000000):St im c fr tr (Ar im c fr tr ⟨3,oa⟩ f):=by
 have hw:within oa f.vars.length=true:=x.op;obtain ⟨k1,k2⟩:=within_iff.1 hw;obtain ⟨a,ha⟩:=x.PW rfl;have e:Ar im c fr tr ⟨3,oa⟩ f=(⟨eb (bU c.fr f) { { f with pc:=f.pc+1 } with vars:=f.vars.set oa.toNat a },jA (cz im c ⟨3,oa⟩ 0 0),c.tr⟩,cD):=by
  show ((⟨eb (bU c.fr f) { { f with pc:=f.pc+1 } with vars:=f.vars.set oa.toNat (tD im c ⟨3,oa⟩) },jA (cz im c ⟨3,oa⟩ 0 0),c.tr⟩:Co),cD)=_;rw [t0 ha]
 rw [e];refine qG x 1000147 2 _ _ (λ_=>rfl) rfl rfl ?_;rw [ha];exact H8 (cz im c ⟨3,oa⟩ fr tr) (jA (cz im c ⟨3,oa⟩ fr tr)) c.tr a (bU c.fr f) { f with pc:=f.pc+1 } x.pR.1 x.pR.2 x.last hv k1 k2
theorem q7 {o:Op} {v:Va} (h:v∈mc (cz im c o fr tr)):v∈c.st:=dr h
theorem S8 (x:Cx im c fr tr ⟨22,oa⟩ f fn) (hm:∀v∈c.st,cL (bB v)):St im c fr tr (Ar im c fr tr ⟨22,oa⟩ f):=by
 obtain ⟨a,b,ha⟩:=x.PV rfl;have ma:cL (bB a):=hm a (q7 (im:=im) (o:=⟨22,oa⟩) (fr:=fr) (tr:=tr) (by rw [ha];simp));have mb:cL (bB b):=hm b (q7 (im:=im) (o:=⟨22,oa⟩) (fr:=fr) (tr:=tr) (by rw [ha];simp));have e:Ar im c fr tr ⟨22,oa⟩ f=(bif (a.k==2)&&(b.k==2) then ev im c ⟨22,oa⟩ f [qC (dU (bB a) (bB b))] else raise c (-1) (max tr 0)):=by
  show (bif ((tD im c ⟨22,oa⟩).k==2)&&((pL im c ⟨22,oa⟩).k==2) then ev im c ⟨22,oa⟩ f [qC (dU (bB (tD im c ⟨22,oa⟩)) (bB (pL im c ⟨22,oa⟩)))] else raise c (-1) (max tr 0))=_;rw [t0 ha,t1 ha]
 rw [e]
 by_cases hab:a.k=2∧b.k=2
 ·rw [xw hab.1,xw hab.2];refine tU x 1000161 21 [qC (dU (bB a) (bB b))] (λ_=>rfl) rfl rfl ?_;rw [ha];exact J6 _ _ _ a b _ (by have:=x.sl;omega) hab.1 hab.2 ma mb
 ·have e2:((a.k==2)&&(b.k==2))=false:=by
   cases h:(a.k==2)&&(b.k==2) with
   |false=>rfl
   |true=>simp at h;exact absurd h hab
  rw [e2];refine xc x 1000161 21 (-1) (λ_=>rfl) rfl rfl ?_;rw [ha];exact J5 _ _ _ a b _ hab
theorem S7 (x:Cx im c fr tr ⟨23,oa⟩ f fn) (hm:∀v∈c.st,cL (bB v)):St im c fr tr (Ar im c fr tr ⟨23,oa⟩ f):=by
 obtain ⟨a,b,ha⟩:=x.PV rfl;have ma:cL (bB a):=hm a (q7 (im:=im) (o:=⟨23,oa⟩) (fr:=fr) (tr:=tr) (by rw [ha];simp));have mb:cL (bB b):=hm b (q7 (im:=im) (o:=⟨23,oa⟩) (fr:=fr) (tr:=tr) (by rw [ha];simp));have e:Ar im c fr tr ⟨23,oa⟩ f=(bif (a.k==2)&&(b.k==2) then ev im c ⟨23,oa⟩ f [qC (mH (bB a) (bB b))] else raise c (-1) (max tr 0)):=by
  show (bif ((tD im c ⟨23,oa⟩).k==2)&&((pL im c ⟨23,oa⟩).k==2) then ev im c ⟨23,oa⟩ f [qC (mH (bB (tD im c ⟨23,oa⟩)) (bB (pL im c ⟨23,oa⟩)))] else raise c (-1) (max tr 0))=_;rw [t0 ha,t1 ha]
 rw [e]
 by_cases hab:a.k=2∧b.k=2
 ·rw [xw hab.1,xw hab.2];refine tU x 1000162 22 [qC (mH (bB a) (bB b))] (λ_=>rfl) rfl rfl ?_;rw [ha];exact JQ _ _ _ a b _ (by have:=x.sl;omega) hab.1 hab.2 ma mb
 ·have e2:((a.k==2)&&(b.k==2))=false:=by
   cases h:(a.k==2)&&(b.k==2) with
   |false=>rfl
   |true=>simp at h;exact absurd h hab
  rw [e2];refine xc x 1000162 22 (-1) (λ_=>rfl) rfl rfl ?_;rw [ha];exact JP _ _ _ a b _ hab
theorem M0 {o:Op} (x:Cx im c fr tr o f fn) (hma:0≤f.ma∧f.ma≤255) (hv:f.vars.length<1000000000) (hm:∀v∈c.st,cL (bB v)) (hd:o.c≠24∧o.c≠31) (hr:iy o=true):St im c fr tr (Ar im c fr tr o f):=by
 obtain ⟨k,oa⟩:=o
 by_cases h3:k=3
 ·subst h3;exact UY x hv
 by_cases h22:k=22
 ·subst h22;exact S8 x hm
 by_cases h23:k=23
 ·subst h23;exact S7 x hm
 have e:Ar im c fr tr ⟨k,oa⟩ f=mE im c fr tr ⟨k,oa⟩ f:=by
  simp only [Ar,qW h3,qW h22,qW h23,cond_false]
 rw [e];refine Q5 x hma ?_ hr;simp only [TA,qW h3,qW h22,qW h23,qW hd.1,qW hd.2,Bool.or_self,Bool.not_false]
def dw (im:Im) (c:Co) (fr tr:Int):Co×Ou:=
 match fit im c with
 |none=>(c,failed (-6))
 |some o=>match c.fr.getLast? with
  |none=>(c,failed (-6))
  |some f=>Ar im c fr tr o f
structure Nx (im:Im) (c:Co):Prop where
  hI:C3 im
  cd:∀(i:Nat) (g:Fn),im.fs[i]? = some g→g.code.length<1000000000
  lf:c.fr.length<900000000
  ls:c.st.length<800000000
  lt:c.tr.length<900000000
  ma:∀f,c.fr.getLast? = some f→(0≤f.ma∧f.ma≤255)∧f.vars.length<1000000000
  sm:∀v∈c.st,cL (bB v)
  dm:∀o,fit im c=some o→o.c≠24∧o.c≠31
theorem H9 (h:Nx im c):St im c fr tr (dw im c fr tr):=by
 unfold dw;cases hf:fit im c with
 |none=>exact PZ im c fr tr h.hI (by have:=h.ls;omega) hf
 |some o=>
  obtain ⟨f,fn,hl,w1,hfn,w2,ho,hr,hop,hpo⟩:=mO hf;simp only [hl];obtain ⟨a1,a2⟩:=within_iff.1 w2;have:=h.cd _ _ hfn;exact M0 (fn:=fn) ⟨h.hI,hf,hl,⟨a1,by omega⟩,hop,hpo,h.lf,h.ls,h.lt⟩ (h.ma f hl).1 (h.ma f hl).2 h.sm (h.dm o hf) hr
end
end Go.Proofs.YtjpgfgajkjhonaaGreatDoor
