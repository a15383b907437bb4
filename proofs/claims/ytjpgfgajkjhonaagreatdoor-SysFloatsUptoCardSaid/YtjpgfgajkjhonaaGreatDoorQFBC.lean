/- One step: its parts. Conditions: lists are not too long; numbers are in range. -/
import Derived.Test.YtjpgfgajkjhonaaGreatDoorQFBB
import Derived.KernelRfl
import Derived.Test.YtjpgfgajkjhonaaGreatDoorQFAV
set_option maxRecDepth 100000
namespace Go.Proofs.YtjpgfgajkjhonaaGreatDoor
open Go.Vx
set_option maxRecDepth 100000
def cz (im:Im) (c:Co) (o:Op) (fr tr:Int):Mh:=⟨im,c,o,max fr 0,max tr 0⟩
theorem ij {im:Im} {c:Co} {o:Op} (h:fit im c=some o):l7 im c = .tu [Ao o,.d (.bool true)]:=by simp only [l7,h]
theorem Df {im:Im} {c:Co} (h:fit im c=none):l7 im c = .tu [Ao o0,.d (.bool false)]:=by simp only [l7,h]
theorem QJ (im:Im) (c:Co) (fr tr:Int) (hI:DI im) (hs:c.st.length<1000000000) (h:fit im c=none) :
  bJ Tryz.prog 71 [wb im,gT c,.d (.int .i64 fr),.d (.int .i64 tr)] (.tu [gT c,uI (failed (-6))]):=by
 have hf:=lv im c hI hs;rw [Df h] at hf;refine s71.go (keep:=false) rfl ?_
 repeat' ((conv=>whnf);first | exact zf | refine zm ?_ | refine zc hf ?_ | refine zc (nC (-6)) ?_ | intro _)
set_option maxHeartbeats 4000000 in
theorem QI (im:Im) (c:Co) (fr tr:Int) (o:Op) (hI:DI im) (hs:c.st.length<1000000000) (h:fit im c=some o) (hq:∀id,p8 [0,3] [.d (.int .i64 o.c)] (Ce id) 0=some none) :
    bJ Tryz.prog 71 [wb im,gT c,.d (.int .i64 fr),.d (.int .i64 tr)] (.tu [gT c,uI ⟨3,zeroV,o⟩]):=by
  have hf:=lv im c hI hs
  rw [ij h] at hf
  refine s71.go (keep:=false) rfl ?_
  repeat' ((conv=>whnf);first | exact zf | refine iH 1 ?_ | refine (bo (bu ?_):eQ _ (eQ (kT _ _ _ _ 107 _ _ _ _ _ _ _) _)) | refine zm ?_ | refine zc hf ?_ | refine ⟨_,_,lK (cz im c o fr tr) (And.intro rfl rfl),?_⟩ | intro _)
  refine ⟨_,hq 5,?_⟩
  repeat' ((conv=>whnf);first | exact zf | refine zm ?_ | intro _)
set_option maxHeartbeats 4000000 in
theorem Ed (im:Im) (c:Co) (fr tr:Int) (o:Op) (f:Fr) (F i:Nat) (hI:DI im) (hs:c.st.length<1000000000) (h:fit im c=some o) (hr:MI (cz im c o fr tr) f)
    (hq:∀id,p8 [0,3] [.d (.int .i64 o.c)] (Ce id) 0=some (some (i,.fc F [.p id 0]))) (hF1:Nat.blt F 1000000=false) (hF2:Nat.blt F 2000000=true) (frs':List Fr) (st':List Va) (ts':List Tr)
    (hM:∀K:Out→H→Prop,K (.ret (.tu [])) [.cells (iO (cz im c o fr tr) (.d (.sl 5 (frs'.map bR))) st' ts' (gp (nD (cz im c o fr tr))) cC false 0),.no]→Sat Tryz.prog (F - 1000000) [.p 0 0] [.cells (iO (cz im c o fr tr) (.os 1) (jL (cz im c o fr tr)) c.tr (gp (nD (cz im c o fr tr))) cC false 0),.rows 5 ((bW c.fr f).map bR)] K) :
    bJ Tryz.prog 71 [wb im,gT c,.d (.int .i64 fr),.d (.int .i64 tr)] (.tu [gT ⟨frs',st',ts'⟩,uI cC]):=by
  have hf:=lv im c hI hs
  rw [ij h] at hf
  refine s71.go (keep:=false) rfl ?_
  repeat' ((conv=>whnf);first | exact zf | refine iH 1 ?_ | refine (bo (bu ?_):eQ _ (eQ (kT _ _ _ _ 107 _ _ _ _ _ _ _) _)) | refine zm ?_ | refine zc hf ?_ | refine ⟨_,_,lK (cz im c o fr tr) (And.intro rfl rfl),?_⟩ | intro _)
  refine ⟨_,hq 5,?_⟩
  repeat' ((conv=>whnf);first | exact zf | refine zm ?_ | refine (.inr ?_:(∃_,_)∨_) | refine nT (cz im c o fr tr) f hr ?_ | intro _)
  conv=>whnf
  rw [hF1]
  conv=>whnf
  rw [hF2]
  repeat' ((conv=>whnf);first | exact zf | refine zm ?_ | refine (.inr ?_:(∃_,_)∨_) | refine hM _ ?_ | refine zc (lv im c hI hs) ?_ | intro _)
set_option maxHeartbeats 4000000 in
theorem M5 (im:Im) (c:Co) (fr tr:Int) (o:Op) (f:Fr) (F i:Nat) (hI:DI im) (hs:c.st.length<1000000000) (h:fit im c=some o) (hr:MI (cz im c o fr tr) f)
    (hq:∀id,p8 [0,3] [.d (.int .i64 o.c)] (Ce id) 0=some (some (i,.fc F [.p id 0]))) (hF1:Nat.blt F 1000000=false) (hF2:Nat.blt F 2000000=true) (frs':List Fr) (st':List Va) (ts':List Tr)
    (hM:∀K:Out→H→Prop,K (.ret (.tu [])) [.cells (iO (cz im c o fr tr) (.os 1) st' ts' (gp (nD (cz im c o fr tr))) cC false 0),.rows 5 (frs'.map bR)]→Sat Tryz.prog (F - 1000000) [.p 0 0] [.cells (iO (cz im c o fr tr) (.os 1) (jL (cz im c o fr tr)) c.tr (gp (nD (cz im c o fr tr))) cC false 0),.rows 5 ((bW c.fr f).map bR)] K) :
    bJ Tryz.prog 71 [wb im,gT c,.d (.int .i64 fr),.d (.int .i64 tr)] (.tu [gT ⟨frs',st',ts'⟩,uI cC]):=by
  have hf:=lv im c hI hs
  rw [ij h] at hf
  refine s71.go (keep:=false) rfl ?_
  repeat' ((conv=>whnf);first | exact zf | refine iH 1 ?_ | refine (bo (bu ?_):eQ _ (eQ (kT _ _ _ _ 107 _ _ _ _ _ _ _) _)) | refine zm ?_ | refine zc hf ?_ | refine ⟨_,_,lK (cz im c o fr tr) (And.intro rfl rfl),?_⟩ | intro _)
  refine ⟨_,hq 5,?_⟩
  repeat' ((conv=>whnf);first | exact zf | refine zm ?_ | refine (.inr ?_:(∃_,_)∨_) | refine nT (cz im c o fr tr) f hr ?_ | intro _)
  conv=>whnf
  rw [hF1]
  conv=>whnf
  rw [hF2]
  repeat' ((conv=>whnf);first | exact zf | refine zm ?_ | refine (.inr ?_:(∃_,_)∨_) | refine hM _ ?_ | refine zc (lv im c hI hs) ?_ | intro _)
set_option maxHeartbeats 4000000 in
theorem M4 (im:Im) (c:Co) (fr tr:Int) (o:Op) (f:Fr) (F i:Nat) (hI:DI im) (hs:c.st.length<1000000000) (h:fit im c=some o) (hr:MI (cz im c o fr tr) f)
    (hq:∀id,p8 [0,3] [.d (.int .i64 o.c)] (Ce id) 0=some (some (i,.fc F [.p id 0]))) (hF1:Nat.blt F 1000000=false) (hF2:Nat.blt F 2000000=true) (frs':List Fr) (st':List Va) (ts':List Tr) (cd:Int) (hf9:c.fr.length<1000000000)
    (hM:∀K:Out→H→Prop,K (.ret (.tu [])) [.cells (iO (cz im c o fr tr) (.os 1) st' ts' (gp (nD (cz im c o fr tr))) cC true cd),.rows 5 (frs'.map bR)]→Sat Tryz.prog (F - 1000000) [.p 0 0] [.cells (iO (cz im c o fr tr) (.os 1) (jL (cz im c o fr tr)) c.tr (gp (nD (cz im c o fr tr))) cC false 0),.rows 5 ((bW c.fr f).map bR)] K) :
    bJ Tryz.prog 71 [wb im,gT c,.d (.int .i64 fr),.d (.int .i64 tr)] (.tu [gT (raise c cd (max tr 0)).1,uI (raise c cd (max tr 0)).2]):=by
  have hf:=lv im c hI hs
  rw [ij h] at hf
  refine s71.go (keep:=false) rfl ?_
  repeat' ((conv=>whnf);first | exact zf | refine iH 1 ?_ | refine (bo (bu ?_):eQ _ (eQ (kT _ _ _ _ 107 _ _ _ _ _ _ _) _)) | refine zm ?_ | refine zc hf ?_ | refine ⟨_,_,lK (cz im c o fr tr) (And.intro rfl rfl),?_⟩ | intro _)
  refine ⟨_,hq 5,?_⟩
  repeat' ((conv=>whnf);first | exact zf | refine zm ?_ | refine (.inr ?_:(∃_,_)∨_) | refine nT (cz im c o fr tr) f hr ?_ | intro _)
  conv=>whnf
  rw [hF1]
  conv=>whnf
  rw [hF2]
  repeat' ((conv=>whnf);first | exact zf | refine zm ?_ | refine (.inr ?_:(∃_,_)∨_) | refine hM _ ?_ | refine zc (rB c cd (max tr 0) hf9 hs) ?_ | intro _)
set_option maxHeartbeats 4000000 in
theorem M3 (im:Im) (c:Co) (fr tr:Int) (o:Op) (f:Fr) (F i:Nat) (hI:DI im) (hs:c.st.length<1000000000) (h:fit im c=some o) (hr:MI (cz im c o fr tr) f)
    (hq:∀id,p8 [0,3] [.d (.int .i64 o.c)] (Ce id) 0=some (some (i,.fc F [.p id 0]))) (hF1:Nat.blt F 1000000=false) (hF2:Nat.blt F 2000000=true) (frs':List Fr) (st':List Va) (ts':List Tr)
    (hM:∀K:Out→H→Prop,K (.ret (.tu [])) [.cells (R7 (cz im c o fr tr) (.os 1) st' (.cl 3 (ts'.map eE)) (gp (nD (cz im c o fr tr))) cC false 0),.rows 5 (frs'.map bR)]→Sat Tryz.prog (F - 1000000) [.p 0 0] [.cells (iO (cz im c o fr tr) (.os 1) (jL (cz im c o fr tr)) c.tr (gp (nD (cz im c o fr tr))) cC false 0),.rows 5 ((bW c.fr f).map bR)] K) :
    bJ Tryz.prog 71 [wb im,gT c,.d (.int .i64 fr),.d (.int .i64 tr)] (.tu [gT ⟨frs',st',ts'⟩,uI cC]):=by
  have hf:=lv im c hI hs
  rw [ij h] at hf
  refine s71.go (keep:=false) rfl ?_
  repeat' ((conv=>whnf);first | exact zf | refine iH 1 ?_ | refine (bo (bu ?_):eQ _ (eQ (kT _ _ _ _ 107 _ _ _ _ _ _ _) _)) | refine zm ?_ | refine zc hf ?_ | refine ⟨_,_,lK (cz im c o fr tr) (And.intro rfl rfl),?_⟩ | intro _)
  refine ⟨_,hq 5,?_⟩
  repeat' ((conv=>whnf);first | exact zf | refine zm ?_ | refine (.inr ?_:(∃_,_)∨_) | refine nT (cz im c o fr tr) f hr ?_ | intro _)
  conv=>whnf
  rw [hF1]
  conv=>whnf
  rw [hF2]
  repeat' ((conv=>whnf);first | exact zf | refine zm ?_ | refine (.inr ?_:(∃_,_)∨_) | refine hM _ ?_ | refine zc (lv im c hI hs) ?_ | intro _)
set_option maxHeartbeats 4000000 in
theorem Ec (im:Im) (c:Co) (fr tr:Int) (o:Op) (f:Fr) (F i:Nat) (hI:DI im) (hs:c.st.length<1000000000) (h:fit im c=some o) (hr:MI (cz im c o fr tr) f)
    (hq:∀id,p8 [0,3] [.d (.int .i64 o.c)] (Ce id) 0=some (some (i,.fc F [.p id 0]))) (hF1:Nat.blt F 1000000=false) (hF2:Nat.blt F 2000000=true) (frs' frs2:List Fr) (st':List Va) (ts':List Tr) (u:Ou)
    (hM:∀K:Out→H→Prop,K (.ret (.tu [])) [.cells (iO (cz im c o fr tr) (.d (.sl 5 (frs'.map bR))) st' ts' (gp (nD (cz im c o fr tr))) u false 0),.rows 5 (frs2.map bR)]→Sat Tryz.prog (F - 1000000) [.p 0 0] [.cells (iO (cz im c o fr tr) (.os 1) (jL (cz im c o fr tr)) c.tr (gp (nD (cz im c o fr tr))) cC false 0),.rows 5 ((bW c.fr f).map bR)] K) :
    bJ Tryz.prog 71 [wb im,gT c,.d (.int .i64 fr),.d (.int .i64 tr)] (.tu [gT ⟨frs',st',ts'⟩,uI u]):=by
  have hf:=lv im c hI hs
  rw [ij h] at hf
  refine s71.go (keep:=false) rfl ?_
  repeat' ((conv=>whnf);first | exact zf | refine iH 1 ?_ | refine (bo (bu ?_):eQ _ (eQ (kT _ _ _ _ 107 _ _ _ _ _ _ _) _)) | refine zm ?_ | refine zc hf ?_ | refine ⟨_,_,lK (cz im c o fr tr) (And.intro rfl rfl),?_⟩ | intro _)
  refine ⟨_,hq 5,?_⟩
  repeat' ((conv=>whnf);first | exact zf | refine zm ?_ | refine (.inr ?_:(∃_,_)∨_) | refine nT (cz im c o fr tr) f hr ?_ | intro _)
  conv=>whnf
  rw [hF1]
  conv=>whnf
  rw [hF2]
  repeat' ((conv=>whnf);first | exact zf | refine zm ?_ | refine (.inr ?_:(∃_,_)∨_) | refine hM _ ?_ | refine zc (lv im c hI hs) ?_ | intro _)
set_option maxHeartbeats 4000000 in
theorem M1 (im:Im) (c:Co) (fr tr:Int) (o:Op) (f:Fr) (F i:Nat) (hI:DI im) (hs:c.st.length<1000000000) (h:fit im c=some o) (hr:MI (cz im c o fr tr) f)
    (hq:∀id,p8 [0,3] [.d (.int .i64 o.c)] (Ce id) 0=some (some (i,.fc F [.p id 0]))) (hF1:Nat.blt F 1000000=false) (hF2:Nat.blt F 2000000=true) (frs':List Fr) (st':List Va) (ts':List Tr) (cd:Int) (hf9:c.fr.length<1000000000)
    (hM:∀K:Out→H→Prop,K (.ret (.tu [])) [.cells (iO (cz im c o fr tr) (.d (.sl 5 (frs'.map bR))) st' ts' (gp (nD (cz im c o fr tr))) cC true cd),.no]→Sat Tryz.prog (F - 1000000) [.p 0 0] [.cells (iO (cz im c o fr tr) (.os 1) (jL (cz im c o fr tr)) c.tr (gp (nD (cz im c o fr tr))) cC false 0),.rows 5 ((bW c.fr f).map bR)] K) :
    bJ Tryz.prog 71 [wb im,gT c,.d (.int .i64 fr),.d (.int .i64 tr)] (.tu [gT (raise c cd (max tr 0)).1,uI (raise c cd (max tr 0)).2]):=by
  have hf:=lv im c hI hs
  rw [ij h] at hf
  refine s71.go (keep:=false) rfl ?_
  repeat' ((conv=>whnf);first | exact zf | refine iH 1 ?_ | refine (bo (bu ?_):eQ _ (eQ (kT _ _ _ _ 107 _ _ _ _ _ _ _) _)) | refine zm ?_ | refine zc hf ?_ | refine ⟨_,_,lK (cz im c o fr tr) (And.intro rfl rfl),?_⟩ | intro _)
  refine ⟨_,hq 5,?_⟩
  repeat' ((conv=>whnf);first | exact zf | refine zm ?_ | refine (.inr ?_:(∃_,_)∨_) | refine nT (cz im c o fr tr) f hr ?_ | intro _)
  conv=>whnf
  rw [hF1]
  conv=>whnf
  rw [hF2]
  repeat' ((conv=>whnf);first | exact zf | refine zm ?_ | refine (.inr ?_:(∃_,_)∨_) | refine hM _ ?_ | refine zc (rB c cd (max tr 0) hf9 hs) ?_ | intro _)
end Go.Proofs.YtjpgfgajkjhonaaGreatDoor
namespace Go.Proofs.YtjpgfgajkjhonaaGreatDoor
open Go.Vx
theorem mg {im:Im} {c:Co} {o:Op} (h:fit im c=some o):∃f fn,c.fr.getLast? = some f∧within f.fu im.fs.length=true∧im.fs[f.fu.toNat]? = some fn∧within f.pc fn.code.length=true∧fn.code[f.pc.toNat]? = some o ∧
  jJ o=true∧fT im f fn o=true∧fB c (fM im o)=true:=by
 unfold fit at h;split at h
 ·cases h
 ·rename_i f hl;cases h1:within f.fu im.fs.length<;>rw [h1] at h<;>simp only [cond_true,cond_false] at h
  ·cases h
  split at h
  ·cases h
  ·rename_i fn hfn;cases h2:within f.pc fn.code.length<;>rw [h2] at h<;>simp only [cond_true,cond_false] at h
   ·cases h
   split at h
   ·cases h
   ·rename_i o' ho;cases h3:jJ o'&&(fT im f fn o'&&fB c (fM im o'))<;>rw [h3] at h<;>simp only [cond_true,cond_false] at h
    ·cases h
    ·cases h;simp only [aS] at h3;exact ⟨f,fn,hl,h1,hfn,h2,ho,h3.1,h3.2.1,h3.2.2⟩
theorem mQ {c:Co} {n:Int} (h:fB c n=true):(kX c n).length=n.toNat∧(qf c n).st.length+n.toNat=c.st.length:=by
 simp [fB] at h;simp [kX,qf,gn];omega
structure Cx (im:Im) (c:Co) (fr tr:Int) (o:Op) (f:Fr) (fn:Fn):Prop where
  hI:DI im
  h:fit im c=some o
  hl:c.fr.getLast? = some f
  w1:0≤f.pc∧f.pc<1000000000
  op:fT im f fn o=true
  po:fB c (fM im o)=true
  lf:c.fr.length<900000000
  ls:c.st.length<800000000
  lt:c.tr.length<900000000
namespace Cx
variable {im:Im} {c:Co} {fr tr:Int} {o:Op} {f:Fr} {fn:Fn}
theorem call (x:Cx im c fr tr o f fn) (hc:o.c=17):∃g,0≤o.a∧im.fs[o.a.toNat]? = some g∧eW .i64 g.args:=by
 obtain ⟨k1,k2⟩:=within_iff.1 (pA hc x.op);obtain ⟨g,hg⟩:∃g,im.fs[o.a.toNat]? = some g:=⟨_,aB (by omega)⟩
 exact ⟨g,k1,hg,x.hI.args _ _ hg⟩
theorem LY (x:Cx im c fr tr o f fn):MI (cz im c o fr tr) f:=
 ⟨x.hl,by have:=x.lf;show c.fr.length<_;omega,by have:=x.ls;show c.st.length<_;omega,by have:=x.w1;omega,x.po,x.call⟩
theorem hs (x:Cx im c fr tr o f fn):c.st.length<1000000000:=by have:=x.ls;omega
theorem pos (x:Cx im c fr tr o f fn):0<c.fr.length:=by
 cases h:c.fr with
 |nil=>have:=x.hl;rw [h] at this;cases this
 |cons=>simp
theorem last (x:Cx im c fr tr o f fn):(bW c.fr f)[(bW c.fr f).length - 1]? = some { f with pc:=f.pc+1 }:=by
 have:=x.pos;rw [bW,gW,b9 (by omega)]
theorem pw (x:Cx im c fr tr o f fn):0<(bW c.fr f).length∧(bW c.fr f).length<1000000000:=by
 have:=x.pos;have:=x.lf;rw [bW,gW];omega
theorem tl (x:Cx im c fr tr o f fn):(nD (cz im c o fr tr)).length=(fM im o).toNat∧(jL (cz im c o fr tr)).length+(fM im o).toNat=c.st.length:=mQ x.po
theorem sl (x:Cx im c fr tr o f fn):(jL (cz im c o fr tr)).length<800000000:=by have:=x.tl;have:=x.ls;omega
theorem QG (x:Cx im c fr tr o f fn) (h:fM im o=1):∃a,nD (cz im c o fr tr) = [a]:=by
 have:=x.tl.1;rw [h] at this
 match hh:nD (cz im c o fr tr),this with
 |[a],_=>exact ⟨a,rfl⟩
theorem QF (x:Cx im c fr tr o f fn) (h:fM im o=2):∃a b,nD (cz im c o fr tr) = [a,b]:=by
 have:=x.tl.1;rw [h] at this
 match hh:nD (cz im c o fr tr),this with
 |[a,b],_=>exact ⟨a,b,rfl⟩
end Cx
def fD (im:Im) (c:Co) (o:Op) (f:Fr) (l:List Va):Co×Ou:=(⟨bW c.fr f,jL (cz im c o 0 0)++l,c.tr⟩,cC)
def tg (im:Im) (c:Co) (o:Op):Va:=((nD (cz im c o 0 0))[0]?).getD zeroV
def pd (im:Im) (c:Co) (o:Op):Va:=((nD (cz im c o 0 0))[1]?).getD zeroV
def mS (im:Im) (c:Co) (fr tr:Int) (o:Op) (f:Fr):Co×Ou:=
 let exc:=λn=>raise c n (max tr 0)
 let a:=tg im c o
 let b:=pd im c o
 let jmp:Co×Ou:=(⟨ei (bW c.fr f) { { f with pc:=f.pc+1 } with pc:=o.a },jL (cz im c o 0 0),c.tr⟩,cC)
 bif o.c==1 then fD im c o f [(im.cs[o.a.toNat]?).getD zeroV]
 else bif o.c==2 then fD im c o f [(f.vars[o.a.toNat]?).getD zeroV]
 else bif o.c==4 then fD im c o f []
 else bif o.c==5 then fD im c o f [a,a]
 else bif o.c==6 then fD im c o f [b,a]
 else bif o.c==12 then fD im c o f [iV (Nq a b)]
 else bif decide (7≤o.c)&&decide (o.c≤13) then (bif (a.k==1)&&(b.k==1) then (match pD o.c a.n b.n with
  |.tu [.d (.int .i64 n),.d (.bool true)]=>fD im c o f [num n]
  |_=>exc (-2)) else exc (-1))
 else bif o.c==14 then (bif a.k==1 then fD im c o f [iV (a.n==0)] else exc (-1))
 else bif o.c==15 then jmp
 else bif o.c==16 then (bif a.k==1 then (bif a.n==0 then fD im c o f [] else jmp) else exc (-1))
 else bif o.c==17 then (bif da ⟨bW c.fr f,jL (cz im c o 0 0),c.tr⟩ then (⟨(f_ ⟨bW c.fr f,jL (cz im c o 0 0),c.tr⟩ o.a (match im.fs[o.a.toNat]? with | some g=>g.vars | none=>0) (nD (cz im c o 0 0)) f.ma).fr,jL (cz im c o 0 0),c.tr⟩,cC) else exc (-6))
 else bif o.c==18 then (bif decide (((fw c).fr.length:Int)≤max fr 0) then (fw c,⟨1,qe c,o0⟩) else (⟨(fw c).fr,(fw c).st ++ [qe c],(fw c).tr⟩,cC))
 else bif o.c==19 then (bif a.k==1 then exc a.n else exc (-1))
 else bif o.c==20 then (⟨bW c.fr f,jL (cz im c o 0 0),c.tr ++ [⟨(bW c.fr f).length,(jL (cz im c o 0 0)).length,o.a⟩]⟩,cC)
 else bif o.c==21 then (bif decide (max tr 0<c.tr.length) then (⟨bW c.fr f,jL (cz im c o 0 0),c.tr.take (c.tr.length - 1)⟩,cC) else fD im c o f [])
 else bif o.c==44 then (⟨ei (bW c.fr f) { { f with pc:=f.pc+1 } with ma:=xo o.a f.ma },jL (cz im c o 0 0),c.tr⟩,cC)
 else bif o.c==47 then fD im c o f [num f.ma]
 else (c,⟨3,zeroV,o⟩)
def Tf (c:Int):Bool:= !((c==3)||(c==22)||(c==23)||(c==24)||(c==31))
def St (im:Im) (c:Co) (fr tr:Int) (r:Co×Ou):Prop:=bJ Tryz.prog 71 [wb im,gT c,.d (.int .i64 fr),.d (.int .i64 tr)] (.tu [gT r.1,uI r.2])
section
variable {im:Im} {c:Co} {fr tr:Int} {f:Fr} {fn:Fn} {oa:Int}
theorem uB {o:Op} (x:Cx im c fr tr o f fn) (F i:Nat) (l:List Va) (hq:∀id,p8 [0,3] [.d (.int .i64 o.c)] (Ce id) 0=some (some (i,.fc F [.p id 0]))) (hF1:Nat.blt F 1000000=false) (hF2:Nat.blt F 2000000=true)
  (hM:tU (F - 1000000) (cz im c o fr tr) (jL (cz im c o fr tr)) (jL (cz im c o fr tr)++l) c.tr (nD (cz im c o fr tr)) (bW c.fr f)):St im c fr tr (fD im c o f l):=
 Ed im c fr tr o f F i x.hI x.hs x.h x.LY hq hF1 hF2 (bW c.fr f) (jL (cz im c o fr tr)++l) c.tr hM
theorem qY {o:Op} (x:Cx im c fr tr o f fn) (F i:Nat) (frs':List Fr) (ts':List Tr) (hq:∀id,p8 [0,3] [.d (.int .i64 o.c)] (Ce id) 0=some (some (i,.fc F [.p id 0]))) (hF1:Nat.blt F 1000000=false) (hF2:Nat.blt F 2000000=true)
  (hM:jE (F - 1000000) (cz im c o fr tr) (jL (cz im c o fr tr)) c.tr ts' (nD (cz im c o fr tr)) (bW c.fr f) frs' false 0):St im c fr tr (⟨frs',jL (cz im c o 0 0),ts'⟩,cC):=
 M5 im c fr tr o f F i x.hI x.hs x.h x.LY hq hF1 hF2 frs' (jL (cz im c o fr tr)) ts' hM
theorem yH {o:Op} (x:Cx im c fr tr o f fn) (F i:Nat) (n:Int) (hq:∀id,p8 [0,3] [.d (.int .i64 o.c)] (Ce id) 0=some (some (i,.fc F [.p id 0]))) (hF1:Nat.blt F 1000000=false) (hF2:Nat.blt F 2000000=true)
  (hM:jE (F - 1000000) (cz im c o fr tr) (jL (cz im c o fr tr)) c.tr c.tr (nD (cz im c o fr tr)) (bW c.fr f) (bW c.fr f) true n):St im c fr tr (raise c n (max tr 0)):=
 M4 im c fr tr o f F i x.hI x.hs x.h x.LY hq hF1 hF2 (bW c.fr f) (jL (cz im c o fr tr)) c.tr n (by have:=x.lf;omega) hM
theorem U5 (x:Cx im c fr tr ⟨1,oa⟩ f fn):St im c fr tr (mS im c fr tr ⟨1,oa⟩ f):=by
 have hw:within oa im.cs.length=true:=x.op;obtain ⟨k1,k2⟩:=within_iff.1 hw;obtain ⟨v,hv⟩:∃v,im.cs[oa.toNat]? = some v:=⟨_,aB (by omega)⟩
 have e:mS im c fr tr ⟨1,oa⟩ f=fD im c ⟨1,oa⟩ f [v]:=by
  show fD im c ⟨1,oa⟩ f [(im.cs[oa.toNat]?).getD zeroV]=_;rw [hv];rfl
 rw [e];exact uB x 1000145 0 [v] (λ_=>rfl) rfl rfl (Mz _ _ _ _ _ v (by have:=x.sl;omega) k1 hv)
theorem U4 (x:Cx im c fr tr ⟨2,oa⟩ f fn):St im c fr tr (mS im c fr tr ⟨2,oa⟩ f):=by
 have hw:within oa f.vars.length=true:=x.op;obtain ⟨k1,k2⟩:=within_iff.1 hw;obtain ⟨v,hv⟩:∃v,f.vars[oa.toNat]? = some v:=⟨_,aB (by omega)⟩
 have e:mS im c fr tr ⟨2,oa⟩ f=fD im c ⟨2,oa⟩ f [v]:=by
  show fD im c ⟨2,oa⟩ f [(f.vars[oa.toNat]?).getD zeroV]=_;rw [hv];rfl
 rw [e];exact uB x 1000146 1 [v] (λ_=>rfl) rfl rfl (N7 _ _ _ _ _ { f with pc:=f.pc+1 } v (by have:=x.sl;omega) x.pw.1 x.pw.2 x.last k1 hv)
theorem VA (x:Cx im c fr tr ⟨4,oa⟩ f fn):St im c fr tr (mS im c fr tr ⟨4,oa⟩ f):=by
 have e:mS im c fr tr ⟨4,oa⟩ f=(⟨bW c.fr f,jL (cz im c ⟨4,oa⟩ 0 0),c.tr⟩,cC):=by
  show fD im c ⟨4,oa⟩ f []=_;simp [fD]
 rw [e];exact qY x 1000148 3 _ _ (λ_=>rfl) rfl rfl (Q5 _ _ _ _ _)
theorem t0 {o:Op} {a:Va} {l:List Va} (h:nD (cz im c o fr tr)=a :: l):tg im c o=a:=by
 have:nD (cz im c o 0 0)=a :: l:=h;simp [tg,this]
theorem t1 {o:Op} {a b:Va} {l:List Va} (h:nD (cz im c o fr tr)=a :: b :: l):pd im c o=b:=by
 have:nD (cz im c o 0 0)=a :: b :: l:=h;simp [pd,this]
theorem U_ (x:Cx im c fr tr ⟨5,oa⟩ f fn):St im c fr tr (mS im c fr tr ⟨5,oa⟩ f):=by
 obtain ⟨a,ha⟩:=x.QG rfl;have e:mS im c fr tr ⟨5,oa⟩ f=fD im c ⟨5,oa⟩ f [a,a]:=by
  show fD im c ⟨5,oa⟩ f [tg im c ⟨5,oa⟩,tg im c ⟨5,oa⟩]=_;rw [t0 ha]
 rw [e];refine uB x 1000149 4 [a,a] (λ_=>rfl) rfl rfl ?_;rw [ha];have:=Rt (cz im c ⟨5,oa⟩ fr tr) (jL (cz im c ⟨5,oa⟩ fr tr)) c.tr a (bW c.fr f) (by have:=x.sl;omega);rwa [bM] at this
theorem Uz (x:Cx im c fr tr ⟨6,oa⟩ f fn):St im c fr tr (mS im c fr tr ⟨6,oa⟩ f):=by
 obtain ⟨a,b,ha⟩:=x.QF rfl;have e:mS im c fr tr ⟨6,oa⟩ f=fD im c ⟨6,oa⟩ f [b,a]:=by
  show fD im c ⟨6,oa⟩ f [pd im c ⟨6,oa⟩,tg im c ⟨6,oa⟩]=_;rw [t0 ha,t1 ha]
 rw [e];refine uB x 1000150 5 [b,a] (λ_=>rfl) rfl rfl ?_;rw [ha];have:=MZ (cz im c ⟨6,oa⟩ fr tr) (jL (cz im c ⟨6,oa⟩ fr tr)) c.tr a b (bW c.fr f) (by have:=x.sl;omega);rwa [bM] at this
theorem TX (x:Cx im c fr tr ⟨12,oa⟩ f fn):St im c fr tr (mS im c fr tr ⟨12,oa⟩ f):=by
 obtain ⟨a,b,ha⟩:=x.QF rfl;have e:mS im c fr tr ⟨12,oa⟩ f=fD im c ⟨12,oa⟩ f [iV (Nq a b)]:=by
  show fD im c ⟨12,oa⟩ f [iV (Nq (tg im c ⟨12,oa⟩) (pd im c ⟨12,oa⟩))]=_;rw [t0 ha,t1 ha]
 rw [e];refine uB x 1000152 11 [iV (Nq a b)] (λ_=>rfl) rfl rfl ?_;rw [ha];exact Td (cz im c ⟨12,oa⟩ fr tr) (jL (cz im c ⟨12,oa⟩ fr tr)) c.tr a b (bW c.fr f) (by have:=x.sl;omega)
theorem Jl (k a b:Int):(∃n,pD k a b=lT n)∨pD k a b=pv:=by
 unfold pD;cases k==7<;>cases k==8<;>cases k==9<;>cases k==10<;>cases k==11<;>cases k==12<;>simp only [cond_true,cond_false] <;>
  first
   |exact .inl ⟨_,rfl⟩
   |(cases b==0<;>simp only [cond_true,cond_false]<;>first | exact .inl ⟨_,rfl⟩ | exact .inr trivial | exact .inr rfl)
def RZ (im:Im) (c:Co) (tr:Int) (o:Op) (f:Fr):Co×Ou:=
 bif ((tg im c o).k==1)&&((pd im c o).k==1) then (match pD o.c (tg im c o).n (pd im c o).n with
  |.tu [.d (.int .i64 n),.d (.bool true)]=>fD im c o f [num n]
  |_=>raise c (-2) (max tr 0)) else raise c (-1) (max tr 0)
theorem Ph {o:Op} (x:Cx im c fr tr o f fn) (i:Nat) (hc:7≤o.c∧o.c≤13) (ht:fM im o=2) (hq:∀id,p8 [0,3] [.d (.int .i64 o.c)] (Ce id) 0=some (some (i,.fc 1000151 [.p id 0]))):St im c fr tr (RZ im c tr o f):=by
 obtain ⟨a,b,ha⟩:=x.QF ht;have h0:=t0 ha;have h1:=t1 ha;unfold RZ;rw [h0,h1]
 by_cases hab:a.k=1∧b.k=1
 ·rw [show ((a.k==1)&&(b.k==1))=true by simp [hab.1,hab.2]];simp only [cond_true];rcases Jl o.c a.n b.n with ⟨n,hn⟩ | hn
  ·rw [hn];refine uB x 1000151 i [num n] hq rfl rfl ?_;rw [ha];exact DM (cz im c o fr tr) _ c.tr a b (bW c.fr f) n (by have:=x.sl;omega) hc hab.1 hab.2 hn
  ·rw [hn];refine yH x 1000151 i (-2) hq rfl rfl ?_;rw [ha];exact DL (cz im c o fr tr) _ c.tr a b (bW c.fr f) hc hab.1 hab.2 hn
 ·have e:((a.k==1)&&(b.k==1))=false:=by
   cases hh:((a.k==1)&&(b.k==1)) with
   |false=>rfl
   |true=>simp at hh;exact absurd hh hab
  rw [e];refine yH x 1000151 i (-1) hq rfl rfl ?_;rw [ha];exact DK (cz im c o fr tr) _ c.tr a b (bW c.fr f) hab
end
end Go.Proofs.YtjpgfgajkjhonaaGreatDoor
namespace Go.Proofs.YtjpgfgajkjhonaaGreatDoor
open Go.Vx
section
variable {im:Im} {c:Co} {fr tr:Int} {f:Fr} {fn:Fn} {oa:Int}
theorem yX {a b:Int} (h:a=b):(a==b)=true:=by simp [h]
theorem qn {a b:Int} (h:¬a=b):(a==b)=false:=by simp [h]
theorem Rf (o:Op):fD im c o f []=(⟨bW c.fr f,jL (cz im c o 0 0),c.tr⟩,cC):=by simp [fD]
theorem TW (x:Cx im c fr tr ⟨14,oa⟩ f fn):St im c fr tr (mS im c fr tr ⟨14,oa⟩ f):=by
 obtain ⟨a,ha⟩:=x.QG rfl;have e:mS im c fr tr ⟨14,oa⟩ f=bif a.k==1 then fD im c ⟨14,oa⟩ f [iV (a.n==0)] else raise c (-1) (max tr 0):=by
  show (bif (tg im c ⟨14,oa⟩).k==1 then fD im c ⟨14,oa⟩ f [iV ((tg im c ⟨14,oa⟩).n==0)] else raise c (-1) (max tr 0))=_;rw [t0 ha]
 rw [e]
 by_cases hk:a.k=1
 ·rw [yX hk,cond_true];refine uB x 1000153 13 _ (λ_=>rfl) rfl rfl ?_;rw [ha];exact NW (cz im c ⟨14,oa⟩ fr tr) _ c.tr a (bW c.fr f) (by have:=x.sl;omega) hk
 ·rw [qn hk,cond_false];refine yH x 1000153 13 (-1) (λ_=>rfl) rfl rfl ?_;rw [ha];exact NV (cz im c ⟨14,oa⟩ fr tr) _ c.tr a (bW c.fr f) hk
theorem TV (x:Cx im c fr tr ⟨15,oa⟩ f fn):St im c fr tr (mS im c fr tr ⟨15,oa⟩ f):=
 qY x 1000154 14 _ _ (λ_=>rfl) rfl rfl (GK (cz im c ⟨15,oa⟩ fr tr) _ c.tr _ (bW c.fr f) { f with pc:=f.pc+1 } x.pw.1 x.pw.2 x.last)
theorem TU (x:Cx im c fr tr ⟨16,oa⟩ f fn):St im c fr tr (mS im c fr tr ⟨16,oa⟩ f):=by
 obtain ⟨a,ha⟩:=x.QG rfl;have e:mS im c fr tr ⟨16,oa⟩ f=bif a.k==1 then (bif a.n==0 then fD im c ⟨16,oa⟩ f [] else (⟨ei (bW c.fr f) { { f with pc:=f.pc+1 } with pc:=oa },jL (cz im c ⟨16,oa⟩ 0 0),c.tr⟩,cC)) else raise c (-1) (max tr 0):=by
  show (bif (tg im c ⟨16,oa⟩).k==1 then (bif (tg im c ⟨16,oa⟩).n==0 then fD im c ⟨16,oa⟩ f [] else _) else raise c (-1) (max tr 0))=_;rw [t0 ha]
 rw [e]
 by_cases hk:a.k=1
 ·rw [yX hk,cond_true]
  by_cases hn:a.n=0
  ·rw [yX hn,cond_true,Rf];refine qY x 1000155 15 _ _ (λ_=>rfl) rfl rfl ?_;rw [ha];exact D4 (cz im c ⟨16,oa⟩ fr tr) _ c.tr a (bW c.fr f) hk hn
  ·rw [qn hn,cond_false];refine qY x 1000155 15 _ _ (λ_=>rfl) rfl rfl ?_;rw [ha];exact D5 (cz im c ⟨16,oa⟩ fr tr) _ c.tr a (bW c.fr f) { f with pc:=f.pc+1 } x.pw.1 x.pw.2 x.last hk hn
 ·rw [qn hk,cond_false];refine yH x 1000155 15 (-1) (λ_=>rfl) rfl rfl ?_;rw [ha];exact D3 (cz im c ⟨16,oa⟩ fr tr) _ c.tr a (bW c.fr f) hk
theorem TT (x:Cx im c fr tr ⟨17,oa⟩ f fn):St im c fr tr (mS im c fr tr ⟨17,oa⟩ f):=by
 obtain ⟨g,h0,hg,_⟩:=x.call rfl;have hlen:=x.pw;have hpo:=mQ x.po;have htk:(nD (cz im c ⟨17,oa⟩ fr tr)).length<1000000000:=by have:=x.tl;have:=x.ls;omega
 have e:mS im c fr tr ⟨17,oa⟩ f=bif da ⟨bW c.fr f,jL (cz im c ⟨17,oa⟩ 0 0),c.tr⟩ then (⟨(f_ ⟨bW c.fr f,jL (cz im c ⟨17,oa⟩ 0 0),c.tr⟩ oa g.vars (nD (cz im c ⟨17,oa⟩ 0 0)) f.ma).fr,jL (cz im c ⟨17,oa⟩ 0 0),c.tr⟩,cC) else raise c (-6) (max tr 0):=by
  show (bif da ⟨bW c.fr f,jL (cz im c ⟨17,oa⟩ 0 0),c.tr⟩ then (⟨(f_ ⟨bW c.fr f,jL (cz im c ⟨17,oa⟩ 0 0),c.tr⟩ oa (match im.fs[oa.toNat]? with | some g=>g.vars | none=>0) (nD (cz im c ⟨17,oa⟩ 0 0)) f.ma).fr,jL (cz im c ⟨17,oa⟩ 0 0),c.tr⟩,cC) else raise c (-6) (max tr 0))=_;rw [hg]
 rw [e];cases hy:da ⟨bW c.fr f,jL (cz im c ⟨17,oa⟩ 0 0),c.tr⟩ with
 |true=>
  rw [cond_true];exact Ed im c fr tr ⟨17,oa⟩ f 1000156 16 x.hI x.hs x.h x.LY (λ_=>rfl) rfl rfl _ (jL (cz im c ⟨17,oa⟩ fr tr)) c.tr (λK hk=>Kr (cz im c ⟨17,oa⟩ fr tr) _ c.tr _ (bW c.fr f) { f with pc:=f.pc+1 } g hlen.1 hlen.2 htk x.last h0 hg hy hk)
 |false=>
  rw [cond_false];exact M1 im c fr tr ⟨17,oa⟩ f 1000156 16 x.hI x.hs x.h x.LY (λ_=>rfl) rfl rfl (bW c.fr f) (jL (cz im c ⟨17,oa⟩ fr tr)) c.tr (-6) (by have:=x.lf;omega) (λK hk=>Kq (cz im c ⟨17,oa⟩ fr tr) _ c.tr _ (bW c.fr f) { f with pc:=f.pc+1 } g hlen.1 hlen.2 htk x.last h0 hg hy hk)
theorem RS (x:Cx im c fr tr ⟨18,oa⟩ f fn):St im c fr tr (mS im c fr tr ⟨18,oa⟩ f):=by
 have hlf:=x.lf;have hls:=x.ls;have hlt:=x.lt;have hpos:=x.pos;have hpo:fB c 1=true:=x.po;have hy:n6 c=true:=by simp [n6,hpo,hpos]
 have hl2:(fw c).st.length<1000000000:=by
  show (gn c.st (base c)).length<_;simp only [gn,ah];omega
 have e:mS im c fr tr ⟨18,oa⟩ f=bif decide (((fw c).fr.length:Int)≤max fr 0) then (fw c,⟨1,qe c,o0⟩) else (⟨(fw c).fr,(fw c).st ++ [qe c],(fw c).tr⟩,cC):=rfl;rw [e]
 by_cases hn:((fw c).fr.length:Int)≤max fr 0
 ·rw [show decide (((fw c).fr.length:Int)≤max fr 0)=true by simpa using hn,cond_true];exact Ec im c fr tr ⟨18,oa⟩ f 1000157 17 x.hI x.hs x.h x.LY (λ_=>rfl) rfl rfl (fw c).fr (bW c.fr f) (fw c).st (fw c).tr ⟨1,qe c,o0⟩ (λK hk=>Mo (cz im c ⟨18,oa⟩ fr tr) _ c.tr _ (bW c.fr f) (by show c.fr.length<_;omega) (by show c.st.length<_;omega) (by show c.tr.length<_;omega) hy hn hk)
 ·rw [show decide (((fw c).fr.length:Int)≤max fr 0)=false by simpa using hn,cond_false];exact Ec im c fr tr ⟨18,oa⟩ f 1000157 17 x.hI x.hs x.h x.LY (λ_=>rfl) rfl rfl (fw c).fr (bW c.fr f) ((fw c).st ++ [qe c]) (fw c).tr cC (λK hk=>Mn (cz im c ⟨18,oa⟩ fr tr) _ c.tr _ (bW c.fr f) (by show c.fr.length<_;omega) (by show c.st.length<_;omega) (by show c.tr.length<_;omega) hl2 hy hn hk)
theorem TS (x:Cx im c fr tr ⟨19,oa⟩ f fn):St im c fr tr (mS im c fr tr ⟨19,oa⟩ f):=by
 obtain ⟨a,ha⟩:=x.QG rfl;have e:mS im c fr tr ⟨19,oa⟩ f=bif a.k==1 then raise c a.n (max tr 0) else raise c (-1) (max tr 0):=by
  show (bif (tg im c ⟨19,oa⟩).k==1 then raise c (tg im c ⟨19,oa⟩).n (max tr 0) else raise c (-1) (max tr 0))=_;rw [t0 ha]
 rw [e]
 by_cases hk:a.k=1
 ·rw [yX hk,cond_true];refine yH x 1000158 18 a.n (λ_=>rfl) rfl rfl ?_;rw [ha];exact E8 (cz im c ⟨19,oa⟩ fr tr) _ c.tr a (bW c.fr f) hk
 ·rw [qn hk,cond_false];refine yH x 1000158 18 (-1) (λ_=>rfl) rfl rfl ?_;rw [ha];exact E7 (cz im c ⟨19,oa⟩ fr tr) _ c.tr a (bW c.fr f) hk
theorem TR (x:Cx im c fr tr ⟨20,oa⟩ f fn):St im c fr tr (mS im c fr tr ⟨20,oa⟩ f):=
 qY x 1000159 19 _ _ (λ_=>rfl) rfl rfl (QE (cz im c ⟨20,oa⟩ fr tr) _ c.tr _ (bW c.fr f) (by have:=x.lt;omega))
theorem TQ (x:Cx im c fr tr ⟨21,oa⟩ f fn):St im c fr tr (mS im c fr tr ⟨21,oa⟩ f):=by
 have e:mS im c fr tr ⟨21,oa⟩ f=bif decide (max tr 0<c.tr.length) then (⟨bW c.fr f,jL (cz im c ⟨21,oa⟩ 0 0),c.tr.take (c.tr.length - 1)⟩,cC) else fD im c ⟨21,oa⟩ f []:=rfl;rw [e]
 by_cases hn:max tr 0<(c.tr.length:Int)
 ·rw [show decide (max tr 0<(c.tr.length:Int))=true by simpa using hn,cond_true];exact M3 im c fr tr ⟨21,oa⟩ f 1000160 20 x.hI x.hs x.h x.LY (λ_=>rfl) rfl rfl (bW c.fr f) (jL (cz im c ⟨21,oa⟩ fr tr)) (c.tr.take (c.tr.length - 1)) (λK hk=>Ns (cz im c ⟨21,oa⟩ fr tr) _ c.tr _ (bW c.fr f) hn (by show 0≤max tr 0;omega) hk)
 ·rw [show decide (max tr 0<(c.tr.length:Int))=false by simpa using hn,cond_false,Rf];exact qY x 1000160 20 _ _ (λ_=>rfl) rfl rfl (λK hk=>Nr (cz im c ⟨21,oa⟩ fr tr) _ c.tr _ (bW c.fr f) hn hk)
theorem TN (x:Cx im c fr tr ⟨44,oa⟩ f fn):St im c fr tr (mS im c fr tr ⟨44,oa⟩ f):=
 qY x 1000165 25 _ _ (λ_=>rfl) rfl rfl (N9 (cz im c ⟨44,oa⟩ fr tr) _ c.tr _ (bW c.fr f) { f with pc:=f.pc+1 } x.pw.1 x.pw.2 x.last)
theorem TM (x:Cx im c fr tr ⟨47,oa⟩ f fn) (hma:0≤f.ma∧f.ma≤255):St im c fr tr (mS im c fr tr ⟨47,oa⟩ f):=
 uB x 1000166 26 [num f.ma] (λ_=>rfl) rfl rfl (Q8 (cz im c ⟨47,oa⟩ fr tr) _ c.tr _ (bW c.fr f) { f with pc:=f.pc+1 } (by have:=x.sl;omega) x.pw.1 x.pw.2 x.last hma)
theorem tv {o:Op} (x:Cx im c fr tr o f fn) (hq:∀id,p8 [0,3] [.d (.int .i64 o.c)] (Ce id) 0=some none):St im c fr tr (c,⟨3,zeroV,o⟩):=
 QI im c fr tr o x.hI x.hs x.h hq
structure V3 (im:Im) (c:Co):Prop where
  hI:DI im
  cd:∀(i:Nat) (g:Fn),im.fs[i]? = some g→g.code.length<1000000000
  lf:c.fr.length<900000000
  ls:c.st.length<800000000
  lt:c.tr.length<900000000
  ma:∀f,c.fr.getLast? = some f→0≤f.ma∧f.ma≤255
  dm:∀o,fit im c=some o→Tf o.c=true
set_option maxHeartbeats 4000000 in
theorem RR {o:Op} (x:Cx im c fr tr o f fn) (hma:0≤f.ma∧f.ma≤255) (hd:Tf o.c=true) (hr:jJ o=true):St im c fr tr (mS im c fr tr o f):=by
 obtain ⟨k,oa⟩:=o;have hk:1≤k∧k≤47:=by
  unfold jJ at hr;cases hi:inf k with
  |none=>rw [hi] at hr;cases hr
  |some i=>have:=sV hi;omega
 have h47:k=1∨k=2∨k=3∨k=4∨k=5∨k=6∨k=7∨k=8∨k=9∨k=10∨k=11∨k=12∨k=13∨k=14∨k=15∨k=16∨k=17∨k=18∨k=19∨k=20∨k=21∨k=22∨k=23∨k=24∨k=25∨k=26∨k=27∨k=28∨k=29∨k=30∨k=31∨k=32∨k=33∨k=34∨k=35∨k=36∨k=37∨k=38∨k=39∨k=40∨k=41∨k=42∨k=43∨k=44∨k=45∨k=46∨k=47:=by omega
 rcases h47 with rfl | rfl | rfl | rfl | rfl | rfl | rfl | rfl | rfl | rfl | rfl | rfl | rfl | rfl | rfl | rfl | rfl | rfl | rfl | rfl | rfl | rfl | rfl | rfl | rfl | rfl | rfl | rfl | rfl | rfl | rfl | rfl | rfl | rfl | rfl | rfl | rfl | rfl | rfl | rfl | rfl | rfl | rfl | rfl | rfl | rfl | rfl
 ·exact U5 x
 ·exact U4 x
 ·exact absurd hd jR
 ·exact VA x
 ·exact U_ x
 ·exact Uz x
 ·exact Ph x 6 (show (7:Int)≤7∧(7:Int)≤13 by decide) rfl (λ_=>rfl)
 ·exact Ph x 7 (show (7:Int)≤8∧(8:Int)≤13 by decide) rfl (λ_=>rfl)
 ·exact Ph x 8 (show (7:Int)≤9∧(9:Int)≤13 by decide) rfl (λ_=>rfl)
 ·exact Ph x 9 (show (7:Int)≤10∧(10:Int)≤13 by decide) rfl (λ_=>rfl)
 ·exact Ph x 10 (show (7:Int)≤11∧(11:Int)≤13 by decide) rfl (λ_=>rfl)
 ·exact TX x
 ·exact Ph x 12 (show (7:Int)≤13∧(13:Int)≤13 by decide) rfl (λ_=>rfl)
 ·exact TW x
 ·exact TV x
 ·exact TU x
 ·exact TT x
 ·exact RS x
 ·exact TS x
 ·exact TR x
 ·exact TQ x
 ·exact absurd hd jR
 ·exact absurd hd jR
 ·exact absurd hd jR
 ·exact tv x (λ_=>rfl)
 ·exact tv x (λ_=>rfl)
 ·exact tv x (λ_=>rfl)
 ·exact tv x (λ_=>rfl)
 ·exact tv x (λ_=>rfl)
 ·exact tv x (λ_=>rfl)
 ·exact absurd hd jR
 ·exact tv x (λ_=>rfl)
 ·exact tv x (λ_=>rfl)
 ·exact tv x (λ_=>rfl)
 ·exact tv x (λ_=>rfl)
 ·exact tv x (λ_=>rfl)
 ·exact tv x (λ_=>rfl)
 ·exact tv x (λ_=>rfl)
 ·exact tv x (λ_=>rfl)
 ·exact tv x (λ_=>rfl)
 ·exact tv x (λ_=>rfl)
 ·exact tv x (λ_=>rfl)
 ·exact tv x (λ_=>rfl)
 ·exact TN x
 ·exact tv x (λ_=>rfl)
 ·exact tv x (λ_=>rfl)
 ·exact TM x hma
end
end Go.Proofs.YtjpgfgajkjhonaaGreatDoor
namespace Go.Proofs.YtjpgfgajkjhonaaGreatDoor
open Go.Vx
def c00:Co:=⟨[],[],[]⟩
end Go.Proofs.YtjpgfgajkjhonaaGreatDoor
namespace Go.Proofs.YtjpgfgajkjhonaaGreatDoor
open Go.Vx
end Go.Proofs.YtjpgfgajkjhonaaGreatDoor
namespace Go.Proofs.YtjpgfgajkjhonaaGreatDoor
open Go.Vx
end Go.Proofs.YtjpgfgajkjhonaaGreatDoor
namespace Go.Proofs.YtjpgfgajkjhonaaGreatDoor
open Go.Vx
set_option maxRecDepth 100000
theorem JL (m:Mh) (st:List Va) (ts:List Tr) (a:Va) (bY:List Fr) (f:Fr) (hl:0<bY.length) (hlf:bY.length<1000000000) (hf:bY[bY.length - 1]? = some f) (hv:f.vars.length<1000000000) (h0:0≤m.o.a) (h1:m.o.a<f.vars.length) :
  jE 147 m st ts ts [a] bY (ei bY { f with vars:=f.vars.set m.o.a.toNat a }) false 0:=by
 intro K hk;have hrow:=mW hl hf;rw [←mX hl] at hk;have e:bR { f with vars:=f.vars.set m.o.a.toNat a } = [.int .i64 f.fu,.int .i64 f.pc,.int .i64 f.ba,.int .u8 f.ma,.sl 5 ((f.vars.map cE).set m.o.a.toNat (cE a))]:=by simp [bR]
 rw [e] at hk;obtain ⟨v0,hv0⟩:∃v0,f.vars[m.o.a.toNat]? = some v0:=⟨_,aB (by omega)⟩
 have hvr:(f.vars.map cE)[m.o.a.toNat]? = some (cE v0):=by simp [hv0]
 refine s147.go (keep:=false) rfl ?_
 repeat' ((conv=>whnf);first | exact zf | refine zm ?_ | refine (.inr ?_:(∃_,_)∨_) | refine uO m st ts [a] cC false 0 _ (by simp;omega) (by simp;omega) ?_ | intro _)
 refine ⟨bR f,hrow,?_⟩
 repeat' ((conv=>whnf);first | exact zf | refine zm ?_ | refine (.inr ?_:(∃_,_)∨_) | refine rO (f.vars.map cE) (by simpa using hv) ?_ | refine JY ?_ | intro _)
 conv=>whnf
 refine ⟨bR f,hrow,⟨rfl,rfl,rfl⟩,?_⟩
 repeat' ((conv=>whnf);first | exact zf | refine zm ?_ | intro _)
 refine ⟨cE a,⟨by decide,rfl,rfl⟩,?_⟩
 repeat' ((conv=>whnf);first | exact zf | refine zm ?_ | refine And.intro ⟨h0,by simpa using h1,rfl⟩ ?_ | intro _)
 refine ⟨cE v0,hvr,⟨rfl,rfl,rfl⟩,?_⟩
 repeat' ((conv=>whnf);first | exact zf | refine zm ?_ | intro _)
 conv=>whnf
 exact hk
def qV (l:Lb):Va:=⟨2,0,[],l.s,l.i⟩
def bD (v:Va):Lb:=⟨v.ls,v.li⟩
theorem Bj {K:Out→H→Prop} (m:Mh) (st:List Va) (ts:List Tr) (tk:List Va) (u:Ou) (wr:Bool) (cd:Int) (fs:List Fr) (l:Lb) (hs:st.length<1000000000)
  (hk:K (.ret (.tu [])) [.cells (iO m (.d (.sl 5 (fs.map bR))) (st ++ [qV l]) ts (gp tk) u wr cd),.no]) :
  Sat Tryz.prog 227 [.p 0 0,jU l] [.cells (iO m (.os 1) st ts (gp tk) u wr cd),.rows 5 (fs.map bR)] K:=by
 refine s227.go (keep:=false) rfl ?_
 repeat' ((conv=>whnf);first | exact zf | refine zm ?_ | refine (.inr ?_:(∃_,_)∨_) | refine lX m st ts tk u wr cd fs (qV l) hs ?_ | intro _)
 conv=>whnf
 exact hk
theorem KJ (m:Mh) (st:List Va) (ts:List Tr) (a b:Va) (bY:List Fr) (hs:st.length<1000000000) (ha:cO (bD a)) (hb:cO (bD b)):EC 226 [j5 a,j5 b] m st (st ++ [qV (dR (bD a) (bD b))]) ts [a,b] bY:=by
 intro K hk;have h:=sT (bD a) (bD b) ha hb;refine s226.go (keep:=false) rfl ?_
 repeat' ((conv=>whnf);first | exact zf | refine zm ?_ | refine zc h ?_ | refine (.inr ?_:(∃_,_)∨_) | refine Bj m st ts [a,b] cC false 0 bY (dR (bD a) (bD b)) hs ?_ | intro _)
 conv=>whnf
 exact hk
theorem Js (m:Mh) (st:List Va) (ts:List Tr) (a b:Va) (bY:List Fr) (hs:st.length<1000000000) (ha:cO (bD a)) (hb:cO (bD b)):EC 228 [j5 a,j5 b] m st (st ++ [qV (mV (bD a) (bD b))]) ts [a,b] bY:=by
 intro K hk;have h:=Fl (bD a) (bD b) ha hb;refine s228.go (keep:=false) rfl ?_
 repeat' ((conv=>whnf);first | exact zf | refine zm ?_ | refine zc h ?_ | refine (.inr ?_:(∃_,_)∨_) | refine Bj m st ts [a,b] cC false 0 bY (mV (bD a) (bD b)) hs ?_ | intro _)
 conv=>whnf
 exact hk
theorem KI (m:Mh) (st:List Va) (ts:List Tr) (a b:Va) (bY:List Fr) (hs:st.length<1000000000) (ha:a.k=2) (hb:b.k=2) (hla:cO (bD a)) (hlb:cO (bD b)):tU 161 m st (st ++ [qV (dR (bD a) (bD b))]) ts [a,b] bY:=by
 intro K hk;refine s161.go (keep:=false) rfl ?_
 repeat' ((conv=>whnf);first | exact zf | refine zm ?_ | refine (.inr ?_:(∃_,_)∨_) | refine yz 226 rfl m st (st ++ [qV (dR (bD a) (bD b))]) ts a b 2 bY ha hb (KJ m st ts a b bY hs hla hlb) ?_ | intro _)
 exact hk
theorem KH (m:Mh) (st:List Va) (ts:List Tr) (a b:Va) (bY:List Fr) (hab:¬(a.k=2∧b.k=2)):jE 161 m st ts ts [a,b] bY bY true (-1):=by
 intro K hk;refine s161.go (keep:=false) rfl ?_
 repeat' ((conv=>whnf);first | exact zf | refine zm ?_ | refine (.inr ?_:(∃_,_)∨_) | refine yy 226 m st ts a b 2 bY hab ?_ | intro _)
 exact hk
theorem Jr (m:Mh) (st:List Va) (ts:List Tr) (a b:Va) (bY:List Fr) (hs:st.length<1000000000) (ha:a.k=2) (hb:b.k=2) (hla:cO (bD a)) (hlb:cO (bD b)):tU 162 m st (st ++ [qV (mV (bD a) (bD b))]) ts [a,b] bY:=by
 intro K hk;refine s162.go (keep:=false) rfl ?_
 repeat' ((conv=>whnf);first | exact zf | refine zm ?_ | refine (.inr ?_:(∃_,_)∨_) | refine yz 228 rfl m st (st ++ [qV (mV (bD a) (bD b))]) ts a b 2 bY ha hb (Js m st ts a b bY hs hla hlb) ?_ | intro _)
 exact hk
theorem Jq (m:Mh) (st:List Va) (ts:List Tr) (a b:Va) (bY:List Fr) (hab:¬(a.k=2∧b.k=2)):jE 162 m st ts ts [a,b] bY bY true (-1):=by
 intro K hk;refine s162.go (keep:=false) rfl ?_
 repeat' ((conv=>whnf);first | exact zf | refine zm ?_ | refine (.inr ?_:(∃_,_)∨_) | refine yy 228 m st ts a b 2 bY hab ?_ | intro _)
 exact hk
def B2 (im:Im) (c:Co) (fr tr:Int) (o:Op) (f:Fr):Co×Ou:=
 let a:=tg im c o
 let b:=pd im c o
 bif o.c==3 then (⟨ei (bW c.fr f) { { f with pc:=f.pc+1 } with vars:=f.vars.set o.a.toNat a },jL (cz im c o 0 0),c.tr⟩,cC)
 else bif o.c==22 then (bif (a.k==2)&&(b.k==2) then fD im c o f [qV (dR (bD a) (bD b))] else raise c (-1) (max tr 0))
 else bif o.c==23 then (bif (a.k==2)&&(b.k==2) then fD im c o f [qV (mV (bD a) (bD b))] else raise c (-1) (max tr 0))
 else mS im c fr tr o f
section
variable {im:Im} {c:Co} {fr tr:Int} {f:Fr} {fn:Fn} {oa:Int}
theorem VB (x:Cx im c fr tr ⟨3,oa⟩ f fn) (hv:f.vars.length<1000000000):St im c fr tr (B2 im c fr tr ⟨3,oa⟩ f):=by
 have hw:within oa f.vars.length=true:=x.op;obtain ⟨k1,k2⟩:=within_iff.1 hw;obtain ⟨a,ha⟩:=x.QG rfl;have e:B2 im c fr tr ⟨3,oa⟩ f=(⟨ei (bW c.fr f) { { f with pc:=f.pc+1 } with vars:=f.vars.set oa.toNat a },jL (cz im c ⟨3,oa⟩ 0 0),c.tr⟩,cC):=by
  show ((⟨ei (bW c.fr f) { { f with pc:=f.pc+1 } with vars:=f.vars.set oa.toNat (tg im c ⟨3,oa⟩) },jL (cz im c ⟨3,oa⟩ 0 0),c.tr⟩:Co),cC)=_;rw [t0 ha]
 rw [e];refine qY x 1000147 2 _ _ (λ_=>rfl) rfl rfl ?_;rw [ha];exact JL (cz im c ⟨3,oa⟩ fr tr) (jL (cz im c ⟨3,oa⟩ fr tr)) c.tr a (bW c.fr f) { f with pc:=f.pc+1 } x.pw.1 x.pw.2 x.last hv k1 k2
theorem qv {o:Op} {v:Va} (h:v∈nD (cz im c o fr tr)):v∈c.st:=dq h
theorem TP (x:Cx im c fr tr ⟨22,oa⟩ f fn) (hm:∀v∈c.st,cO (bD v)):St im c fr tr (B2 im c fr tr ⟨22,oa⟩ f):=by
 obtain ⟨a,b,ha⟩:=x.QF rfl;have ma:cO (bD a):=hm a (qv (im:=im) (o:=⟨22,oa⟩) (fr:=fr) (tr:=tr) (by rw [ha];simp));have mb:cO (bD b):=hm b (qv (im:=im) (o:=⟨22,oa⟩) (fr:=fr) (tr:=tr) (by rw [ha];simp));have e:B2 im c fr tr ⟨22,oa⟩ f=(bif (a.k==2)&&(b.k==2) then fD im c ⟨22,oa⟩ f [qV (dR (bD a) (bD b))] else raise c (-1) (max tr 0)):=by
  show (bif ((tg im c ⟨22,oa⟩).k==2)&&((pd im c ⟨22,oa⟩).k==2) then fD im c ⟨22,oa⟩ f [qV (dR (bD (tg im c ⟨22,oa⟩)) (bD (pd im c ⟨22,oa⟩)))] else raise c (-1) (max tr 0))=_;rw [t0 ha,t1 ha]
 rw [e]
 by_cases hab:a.k=2∧b.k=2
 ·rw [yX hab.1,yX hab.2];refine uB x 1000161 21 [qV (dR (bD a) (bD b))] (λ_=>rfl) rfl rfl ?_;rw [ha];exact KI _ _ _ a b _ (by have:=x.sl;omega) hab.1 hab.2 ma mb
 ·have e2:((a.k==2)&&(b.k==2))=false:=by
   cases h:(a.k==2)&&(b.k==2) with
   |false=>rfl
   |true=>simp at h;exact absurd h hab
  rw [e2];refine yH x 1000161 21 (-1) (λ_=>rfl) rfl rfl ?_;rw [ha];exact KH _ _ _ a b _ hab
theorem TO (x:Cx im c fr tr ⟨23,oa⟩ f fn) (hm:∀v∈c.st,cO (bD v)):St im c fr tr (B2 im c fr tr ⟨23,oa⟩ f):=by
 obtain ⟨a,b,ha⟩:=x.QF rfl;have ma:cO (bD a):=hm a (qv (im:=im) (o:=⟨23,oa⟩) (fr:=fr) (tr:=tr) (by rw [ha];simp));have mb:cO (bD b):=hm b (qv (im:=im) (o:=⟨23,oa⟩) (fr:=fr) (tr:=tr) (by rw [ha];simp));have e:B2 im c fr tr ⟨23,oa⟩ f=(bif (a.k==2)&&(b.k==2) then fD im c ⟨23,oa⟩ f [qV (mV (bD a) (bD b))] else raise c (-1) (max tr 0)):=by
  show (bif ((tg im c ⟨23,oa⟩).k==2)&&((pd im c ⟨23,oa⟩).k==2) then fD im c ⟨23,oa⟩ f [qV (mV (bD (tg im c ⟨23,oa⟩)) (bD (pd im c ⟨23,oa⟩)))] else raise c (-1) (max tr 0))=_;rw [t0 ha,t1 ha]
 rw [e]
 by_cases hab:a.k=2∧b.k=2
 ·rw [yX hab.1,yX hab.2];refine uB x 1000162 22 [qV (mV (bD a) (bD b))] (λ_=>rfl) rfl rfl ?_;rw [ha];exact Jr _ _ _ a b _ (by have:=x.sl;omega) hab.1 hab.2 ma mb
 ·have e2:((a.k==2)&&(b.k==2))=false:=by
   cases h:(a.k==2)&&(b.k==2) with
   |false=>rfl
   |true=>simp at h;exact absurd h hab
  rw [e2];refine yH x 1000162 22 (-1) (λ_=>rfl) rfl rfl ?_;rw [ha];exact Jq _ _ _ a b _ hab
theorem NJ {o:Op} (x:Cx im c fr tr o f fn) (hma:0≤f.ma∧f.ma≤255) (hv:f.vars.length<1000000000) (hm:∀v∈c.st,cO (bD v)) (hd:o.c≠24∧o.c≠31) (hr:jJ o=true):St im c fr tr (B2 im c fr tr o f):=by
 obtain ⟨k,oa⟩:=o
 by_cases h3:k=3
 ·subst h3;exact VB x hv
 by_cases h22:k=22
 ·subst h22;exact TP x hm
 by_cases h23:k=23
 ·subst h23;exact TO x hm
 have e:B2 im c fr tr ⟨k,oa⟩ f=mS im c fr tr ⟨k,oa⟩ f:=by
  simp only [B2,qn h3,qn h22,qn h23,cond_false]
 rw [e];refine RR x hma ?_ hr;simp only [Tf,qn h3,qn h22,qn h23,qn hd.1,qn hd.2,Bool.or_self,Bool.not_false]
def du (im:Im) (c:Co) (fr tr:Int):Co×Ou:=
 match fit im c with
 |none=>(c,failed (-6))
 |some o=>match c.fr.getLast? with
  |none=>(c,failed (-6))
  |some f=>B2 im c fr tr o f
structure Pj (im:Im) (c:Co):Prop where
  hI:DI im
  cd:∀(i:Nat) (g:Fn),im.fs[i]? = some g→g.code.length<1000000000
  lf:c.fr.length<900000000
  ls:c.st.length<800000000
  lt:c.tr.length<900000000
  ma:∀f,c.fr.getLast? = some f→(0≤f.ma∧f.ma≤255)∧f.vars.length<1000000000
  sm:∀v∈c.st,cO (bD v)
  dm:∀o,fit im c=some o→o.c≠24∧o.c≠31
theorem JM (h:Pj im c):St im c fr tr (du im c fr tr):=by
 unfold du;cases hf:fit im c with
 |none=>exact QJ im c fr tr h.hI (by have:=h.ls;omega) hf
 |some o=>
  obtain ⟨f,fn,hl,w1,hfn,w2,ho,hr,hop,hpo⟩:=mg hf;simp only [hl];obtain ⟨a1,a2⟩:=within_iff.1 w2;have:=h.cd _ _ hfn;exact NJ (fn:=fn) ⟨h.hI,hf,hl,⟨a1,by omega⟩,hop,hpo,h.lf,h.ls,h.lt⟩ (h.ma f hl).1 (h.ma f hl).2 h.sm (h.dm o hf) hr
end
end Go.Proofs.YtjpgfgajkjhonaaGreatDoor
