/- Lemmas. Conditions: none. -/
import Derived.Test.YtjpgfgajkjhonaaGreatDoorQHBB
set_option maxHeartbeats 4000000
set_option maxRecDepth 100000
namespace Go.Proofs.YtjpgfgajkjhonaaGreatDoor
open Go.Vx
set_option maxRecDepth 100000
def dF (im:Im) (c:Co) (o:Op) (fr tr:Int):Mh:=⟨im,c,o,max fr 0,max tr 0⟩
theorem jE {im:Im} {c:Co} {o:Op} (h:fit im c=some o):mJ im c = .tu [By o,.d (.bool true)]:=by simp only [mJ,h]
theorem FB {im:Im} {c:Co} (h:fit im c=none):mJ im c = .tu [By o0,.d (.bool false)]:=by simp only [mJ,h]
theorem SG (im:Im) (c:Co) (fr tr:Int) (hI:Fc im) (hs:c.st.length<1000000000) (h:fit im c=none) :
  Z0 71 [xm im,gp c,.d (.int .i64 fr),.d (.int .i64 tr)] (.tu [gp c,vH (failed (-6))]):=by
 have hf:=mS im c hI hs;rw [FB h] at hf;refine sh0 Tryz.f71 ?_
 repeat' ((conv=>whnf);first | exact zf | refine zm ?_ | refine zc hf ?_ | refine zc (nj (-6)) ?_ | intro _)
theorem SE (im:Im) (c:Co) (fr tr:Int) (o:Op) (hI:Fc im) (hs:c.st.length<1000000000) (h:fit im c=some o) (hq:∀id,qZ [0,3] [.d (.int .i64 o.c)] (Dt id) 0=some none) :
    Z0 71 [xm im,gp c,.d (.int .i64 fr),.d (.int .i64 tr)] (.tu [gp c,vH ⟨3,zeroV,o⟩]):=by
  have hf:=mS im c hI hs
  rw [jE h] at hf
  refine sh0 Tryz.f71 ?_
  repeat' ((conv=>whnf);first | exact zf | refine gj 1 ?_ | refine (bp (cC ?_):eZ _ (eZ (ky _ _ _ _ 107 _ _ _ _ _ _ _) _)) | refine zm ?_ | refine zc hf ?_ | refine ⟨_,_,lq (dF im c o fr tr) (And.intro rfl rfl),?_⟩ | intro _)
  refine ⟨_,hq 5,?_⟩
  exact zj0
theorem GK (im:Im) (c:Co) (fr tr:Int) (o:Op) (f:Fr) (F i:Nat) (hI:Fc im) (hs:c.st.length<1000000000) (h:fit im c=some o) (hr:PA (dF im c o fr tr) f)
    (hq:∀id,qZ [0,3] [.d (.int .i64 o.c)] (Dt id) 0=some (some (i,.fc F [.p id 0]))) (hF1:Nat.blt F 1000000=false) (hF2:Nat.blt F 2000000=true) (frs':List Fr) (st':List Va) (ts':List Tr)
    (hM:∀K:Out→H→Prop,K (.ret (.tu [])) [.cells (iZ (dF im c o fr tr) (.d (.sl 5 (frs'.map bU))) st' ts' (iI (nk (dF im c o fr tr))) cJ false 0),.no]→Z1 (F - 1000000) [.p 0 0] [.cells (iZ (dF im c o fr tr) (.os 1) (j0 (dF im c o fr tr)) c.tr (iI (nk (dF im c o fr tr))) cJ false 0),.rows 5 ((b7 c.fr f).map bU)] K) :
    Z0 71 [xm im,gp c,.d (.int .i64 fr),.d (.int .i64 tr)] (.tu [gp ⟨frs',st',ts'⟩,vH cJ]):=by
  have hf:=mS im c hI hs
  rw [jE h] at hf
  refine sh0 Tryz.f71 ?_
  repeat' ((conv=>whnf);first | exact zf | refine gj 1 ?_ | refine (bp (cC ?_):eZ _ (eZ (ky _ _ _ _ 107 _ _ _ _ _ _ _) _)) | refine zm ?_ | refine zc hf ?_ | refine ⟨_,_,lq (dF im c o fr tr) (And.intro rfl rfl),?_⟩ | intro _)
  refine ⟨_,hq 5,?_⟩
  repeat' ((conv=>whnf);first | exact zf | refine zm ?_ | refine zr0 ?_ | refine oL (dF im c o fr tr) f hr ?_ | intro _)
  conv=>whnf
  rw [hF1]
  conv=>whnf
  rw [hF2]
  repeat' ((conv=>whnf);first | exact zf | refine zm ?_ | refine zr0 ?_ | refine hM _ ?_ | refine zc (mS im c hI hs) ?_ | intro _)
theorem P2 (im:Im) (c:Co) (fr tr:Int) (o:Op) (f:Fr) (F i:Nat) (hI:Fc im) (hs:c.st.length<1000000000) (h:fit im c=some o) (hr:PA (dF im c o fr tr) f)
    (hq:∀id,qZ [0,3] [.d (.int .i64 o.c)] (Dt id) 0=some (some (i,.fc F [.p id 0]))) (hF1:Nat.blt F 1000000=false) (hF2:Nat.blt F 2000000=true) (frs':List Fr) (st':List Va) (ts':List Tr)
    (hM:∀K:Out→H→Prop,K (.ret (.tu [])) [.cells (iZ (dF im c o fr tr) (.os 1) st' ts' (iI (nk (dF im c o fr tr))) cJ false 0),.rows 5 (frs'.map bU)]→Z1 (F - 1000000) [.p 0 0] [.cells (iZ (dF im c o fr tr) (.os 1) (j0 (dF im c o fr tr)) c.tr (iI (nk (dF im c o fr tr))) cJ false 0),.rows 5 ((b7 c.fr f).map bU)] K) :
    Z0 71 [xm im,gp c,.d (.int .i64 fr),.d (.int .i64 tr)] (.tu [gp ⟨frs',st',ts'⟩,vH cJ]):=by
  have hf:=mS im c hI hs
  rw [jE h] at hf
  refine sh0 Tryz.f71 ?_
  repeat' ((conv=>whnf);first | exact zf | refine gj 1 ?_ | refine (bp (cC ?_):eZ _ (eZ (ky _ _ _ _ 107 _ _ _ _ _ _ _) _)) | refine zm ?_ | refine zc hf ?_ | refine ⟨_,_,lq (dF im c o fr tr) (And.intro rfl rfl),?_⟩ | intro _)
  refine ⟨_,hq 5,?_⟩
  repeat' ((conv=>whnf);first | exact zf | refine zm ?_ | refine zr0 ?_ | refine oL (dF im c o fr tr) f hr ?_ | intro _)
  conv=>whnf
  rw [hF1]
  conv=>whnf
  rw [hF2]
  repeat' ((conv=>whnf);first | exact zf | refine zm ?_ | refine zr0 ?_ | refine hM _ ?_ | refine zc (mS im c hI hs) ?_ | intro _)
theorem P1 (im:Im) (c:Co) (fr tr:Int) (o:Op) (f:Fr) (F i:Nat) (hI:Fc im) (hs:c.st.length<1000000000) (h:fit im c=some o) (hr:PA (dF im c o fr tr) f)
    (hq:∀id,qZ [0,3] [.d (.int .i64 o.c)] (Dt id) 0=some (some (i,.fc F [.p id 0]))) (hF1:Nat.blt F 1000000=false) (hF2:Nat.blt F 2000000=true) (frs':List Fr) (st':List Va) (ts':List Tr) (cd:Int) (hf9:c.fr.length<1000000000)
    (hM:∀K:Out→H→Prop,K (.ret (.tu [])) [.cells (iZ (dF im c o fr tr) (.os 1) st' ts' (iI (nk (dF im c o fr tr))) cJ true cd),.rows 5 (frs'.map bU)]→Z1 (F - 1000000) [.p 0 0] [.cells (iZ (dF im c o fr tr) (.os 1) (j0 (dF im c o fr tr)) c.tr (iI (nk (dF im c o fr tr))) cJ false 0),.rows 5 ((b7 c.fr f).map bU)] K) :
    Z0 71 [xm im,gp c,.d (.int .i64 fr),.d (.int .i64 tr)] (.tu [gp (raise c cd (max tr 0)).1,vH (raise c cd (max tr 0)).2]):=by
  have hf:=mS im c hI hs
  rw [jE h] at hf
  refine sh0 Tryz.f71 ?_
  repeat' ((conv=>whnf);first | exact zf | refine gj 1 ?_ | refine (bp (cC ?_):eZ _ (eZ (ky _ _ _ _ 107 _ _ _ _ _ _ _) _)) | refine zm ?_ | refine zc hf ?_ | refine ⟨_,_,lq (dF im c o fr tr) (And.intro rfl rfl),?_⟩ | intro _)
  refine ⟨_,hq 5,?_⟩
  repeat' ((conv=>whnf);first | exact zf | refine zm ?_ | refine zr0 ?_ | refine oL (dF im c o fr tr) f hr ?_ | intro _)
  conv=>whnf
  rw [hF1]
  conv=>whnf
  rw [hF2]
  repeat' ((conv=>whnf);first | exact zf | refine zm ?_ | refine zr0 ?_ | refine hM _ ?_ | refine zc (sH c cd (max tr 0) hf9 hs) ?_ | intro _)
theorem P0 (im:Im) (c:Co) (fr tr:Int) (o:Op) (f:Fr) (F i:Nat) (hI:Fc im) (hs:c.st.length<1000000000) (h:fit im c=some o) (hr:PA (dF im c o fr tr) f)
    (hq:∀id,qZ [0,3] [.d (.int .i64 o.c)] (Dt id) 0=some (some (i,.fc F [.p id 0]))) (hF1:Nat.blt F 1000000=false) (hF2:Nat.blt F 2000000=true) (frs':List Fr) (st':List Va) (ts':List Tr)
    (hM:∀K:Out→H→Prop,K (.ret (.tu [])) [.cells (T4 (dF im c o fr tr) (.os 1) st' (.cl 3 (ts'.map eO)) (iI (nk (dF im c o fr tr))) cJ false 0),.rows 5 (frs'.map bU)]→Z1 (F - 1000000) [.p 0 0] [.cells (iZ (dF im c o fr tr) (.os 1) (j0 (dF im c o fr tr)) c.tr (iI (nk (dF im c o fr tr))) cJ false 0),.rows 5 ((b7 c.fr f).map bU)] K) :
    Z0 71 [xm im,gp c,.d (.int .i64 fr),.d (.int .i64 tr)] (.tu [gp ⟨frs',st',ts'⟩,vH cJ]):=by
  have hf:=mS im c hI hs
  rw [jE h] at hf
  refine sh0 Tryz.f71 ?_
  repeat' ((conv=>whnf);first | exact zf | refine gj 1 ?_ | refine (bp (cC ?_):eZ _ (eZ (ky _ _ _ _ 107 _ _ _ _ _ _ _) _)) | refine zm ?_ | refine zc hf ?_ | refine ⟨_,_,lq (dF im c o fr tr) (And.intro rfl rfl),?_⟩ | intro _)
  refine ⟨_,hq 5,?_⟩
  repeat' ((conv=>whnf);first | exact zf | refine zm ?_ | refine zr0 ?_ | refine oL (dF im c o fr tr) f hr ?_ | intro _)
  conv=>whnf
  rw [hF1]
  conv=>whnf
  rw [hF2]
  repeat' ((conv=>whnf);first | exact zf | refine zm ?_ | refine zr0 ?_ | refine hM _ ?_ | refine zc (mS im c hI hs) ?_ | intro _)
theorem GJ (im:Im) (c:Co) (fr tr:Int) (o:Op) (f:Fr) (F i:Nat) (hI:Fc im) (hs:c.st.length<1000000000) (h:fit im c=some o) (hr:PA (dF im c o fr tr) f)
    (hq:∀id,qZ [0,3] [.d (.int .i64 o.c)] (Dt id) 0=some (some (i,.fc F [.p id 0]))) (hF1:Nat.blt F 1000000=false) (hF2:Nat.blt F 2000000=true) (frs' frs2:List Fr) (st':List Va) (ts':List Tr) (u:Ou)
    (hM:∀K:Out→H→Prop,K (.ret (.tu [])) [.cells (iZ (dF im c o fr tr) (.d (.sl 5 (frs'.map bU))) st' ts' (iI (nk (dF im c o fr tr))) u false 0),.rows 5 (frs2.map bU)]→Z1 (F - 1000000) [.p 0 0] [.cells (iZ (dF im c o fr tr) (.os 1) (j0 (dF im c o fr tr)) c.tr (iI (nk (dF im c o fr tr))) cJ false 0),.rows 5 ((b7 c.fr f).map bU)] K) :
    Z0 71 [xm im,gp c,.d (.int .i64 fr),.d (.int .i64 tr)] (.tu [gp ⟨frs',st',ts'⟩,vH u]):=by
  have hf:=mS im c hI hs
  rw [jE h] at hf
  refine sh0 Tryz.f71 ?_
  repeat' ((conv=>whnf);first | exact zf | refine gj 1 ?_ | refine (bp (cC ?_):eZ _ (eZ (ky _ _ _ _ 107 _ _ _ _ _ _ _) _)) | refine zm ?_ | refine zc hf ?_ | refine ⟨_,_,lq (dF im c o fr tr) (And.intro rfl rfl),?_⟩ | intro _)
  refine ⟨_,hq 5,?_⟩
  repeat' ((conv=>whnf);first | exact zf | refine zm ?_ | refine zr0 ?_ | refine oL (dF im c o fr tr) f hr ?_ | intro _)
  conv=>whnf
  rw [hF1]
  conv=>whnf
  rw [hF2]
  repeat' ((conv=>whnf);first | exact zf | refine zm ?_ | refine zr0 ?_ | refine hM _ ?_ | refine zc (mS im c hI hs) ?_ | intro _)
theorem PZ (im:Im) (c:Co) (fr tr:Int) (o:Op) (f:Fr) (F i:Nat) (hI:Fc im) (hs:c.st.length<1000000000) (h:fit im c=some o) (hr:PA (dF im c o fr tr) f)
    (hq:∀id,qZ [0,3] [.d (.int .i64 o.c)] (Dt id) 0=some (some (i,.fc F [.p id 0]))) (hF1:Nat.blt F 1000000=false) (hF2:Nat.blt F 2000000=true) (frs':List Fr) (st':List Va) (ts':List Tr) (cd:Int) (hf9:c.fr.length<1000000000)
    (hM:∀K:Out→H→Prop,K (.ret (.tu [])) [.cells (iZ (dF im c o fr tr) (.d (.sl 5 (frs'.map bU))) st' ts' (iI (nk (dF im c o fr tr))) cJ true cd),.no]→Z1 (F - 1000000) [.p 0 0] [.cells (iZ (dF im c o fr tr) (.os 1) (j0 (dF im c o fr tr)) c.tr (iI (nk (dF im c o fr tr))) cJ false 0),.rows 5 ((b7 c.fr f).map bU)] K) :
    Z0 71 [xm im,gp c,.d (.int .i64 fr),.d (.int .i64 tr)] (.tu [gp (raise c cd (max tr 0)).1,vH (raise c cd (max tr 0)).2]):=by
  have hf:=mS im c hI hs
  rw [jE h] at hf
  refine sh0 Tryz.f71 ?_
  repeat' ((conv=>whnf);first | exact zf | refine gj 1 ?_ | refine (bp (cC ?_):eZ _ (eZ (ky _ _ _ _ 107 _ _ _ _ _ _ _) _)) | refine zm ?_ | refine zc hf ?_ | refine ⟨_,_,lq (dF im c o fr tr) (And.intro rfl rfl),?_⟩ | intro _)
  refine ⟨_,hq 5,?_⟩
  repeat' ((conv=>whnf);first | exact zf | refine zm ?_ | refine zr0 ?_ | refine oL (dF im c o fr tr) f hr ?_ | intro _)
  conv=>whnf
  rw [hF1]
  conv=>whnf
  rw [hF2]
  repeat' ((conv=>whnf);first | exact zf | refine zm ?_ | refine zr0 ?_ | refine hM _ ?_ | refine zc (sH c cd (max tr 0) hf9 hs) ?_ | intro _)
section
theorem nS {im:Im} {c:Co} {o:Op} (h:fit im c=some o):∃f fn,c.fr.getLast? = some f∧within f.fu im.fs.length=true∧im.fs[f.fu.toNat]? = some fn∧within f.pc fn.code.length=true∧fn.code[f.pc.toNat]? = some o ∧
  jY o=true∧fZ im f fn o=true∧fJ c (fU im o)=true:=by
 unfold fit at h;split at h
 ·cases h
 ·rename_i f hl;cases h1:within f.fu im.fs.length<;>rw [h1] at h<;>simp only [δ,ε] at h
  ·cases h
  split at h
  ·cases h
  ·rename_i fn hfn;cases h2:within f.pc fn.code.length<;>rw [h2] at h<;>simp only [δ,ε] at h
   ·cases h
   split at h
   ·cases h
   ·rename_i o' ho;cases h3:jY o'&&(fZ im f fn o'&&fJ c (fU im o'))<;>rw [h3] at h<;>simp only [δ,ε] at h
    ·cases h
    ·cases h;simp only [aP] at h3;exact ⟨f,fn,hl,h1,hfn,h2,ho,h3.1,h3.2.1,h3.2.2⟩
theorem nG {c:Co} {n:Int} (h:fJ c n=true):(lC c n).length=n.toNat∧(rk c n).st.length+n.toNat=c.st.length:=by
 simp [fJ] at h;simp [lC,rk,iB];omega
structure Cx (im:Im) (c:Co) (fr tr:Int) (o:Op) (f:Fr) (fn:Fn):Prop where
  hI:Fc im
  h:fit im c=some o
  hl:c.fr.getLast? = some f
  w1:0≤f.pc∧f.pc<1000000000
  op:fZ im f fn o=true
  po:fJ c (fU im o)=true
  lf:c.fr.length<900000000
  ls:c.st.length<800000000
  lt:c.tr.length<900000000
namespace Cx
variable {im:Im} {c:Co} {fr tr:Int} {o:Op} {f:Fr} {fn:Fn}
theorem call (x:Cx im c fr tr o f fn) (hc:o.c=17):∃g,0≤o.a∧im.fs[o.a.toNat]? = some g∧e8 .i64 g.args:=by
 obtain ⟨k1,k2⟩:=within_iff.1 (pd hc x.op);obtain ⟨g,hg⟩:∃g,im.fs[o.a.toNat]? = some g:=⟨_,aB (by omega)⟩
 exact ⟨g,k1,hg,x.hI.args _ _ hg⟩
theorem NT (x:Cx im c fr tr o f fn):PA (dF im c o fr tr) f:=
 ⟨x.hl,by have:=x.lf;show c.fr.length<_;omega,by have:=x.ls;show c.st.length<_;omega,by have:=x.w1;omega,x.po,x.call⟩
theorem hs (x:Cx im c fr tr o f fn):c.st.length<1000000000:=by have:=x.ls;omega
theorem pos (x:Cx im c fr tr o f fn):0<c.fr.length:=by
 cases h:c.fr with
 |nil=>have:=x.hl;rw [h] at this;cases this
 |cons=>simp
theorem last (x:Cx im c fr tr o f fn):(b7 c.fr f)[(b7 c.fr f).length - 1]? = some { f with pc:=f.pc+1 }:=by
 have:=x.pos;rw [b7,gr,bm (by omega)]
theorem qf (x:Cx im c fr tr o f fn):0<(b7 c.fr f).length∧(b7 c.fr f).length<1000000000:=by
 have:=x.pos;have:=x.lf;rw [b7,gr];omega
theorem tl (x:Cx im c fr tr o f fn):(nk (dF im c o fr tr)).length=(fU im o).toNat∧(j0 (dF im c o fr tr)).length+(fU im o).toNat=c.st.length:=nG x.po
theorem sl (x:Cx im c fr tr o f fn):(j0 (dF im c o fr tr)).length<800000000:=by have:=x.tl;have:=x.ls;omega
theorem SB (x:Cx im c fr tr o f fn) (h:fU im o=1):∃a,nk (dF im c o fr tr) = [a]:=by
 have:=x.tl.1;rw [h] at this
 match hh:nk (dF im c o fr tr),this with
 |[a],_=>exact ⟨a,rfl⟩
theorem SA (x:Cx im c fr tr o f fn) (h:fU im o=2):∃a b,nk (dF im c o fr tr) = [a,b]:=by
 have:=x.tl.1;rw [h] at this
 match hh:nk (dF im c o fr tr),this with
 |[a,b],_=>exact ⟨a,b,rfl⟩
end Cx
def fK (im:Im) (c:Co) (o:Op) (f:Fr) (l:List Va):Co×Ou:=(⟨b7 c.fr f,j0 (dF im c o 0 0)++l,c.tr⟩,cJ)
def uo (im:Im) (c:Co) (o:Op):Va:=((nk (dF im c o 0 0))[0]?).getD zeroV
def q8 (im:Im) (c:Co) (o:Op):Va:=((nk (dF im c o 0 0))[1]?).getD zeroV
def nI (im:Im) (c:Co) (fr tr:Int) (o:Op) (f:Fr):Co×Ou:=
 let exc:=λn=>raise c n (max tr 0)
 let a:=uo im c o
 let b:=q8 im c o
 let jmp:Co×Ou:=(⟨fB (b7 c.fr f) { { f with pc:=f.pc+1 } with pc:=o.a },j0 (dF im c o 0 0),c.tr⟩,cJ)
 bif o.c==1 then fK im c o f [(im.cs[o.a.toNat]?).getD zeroV]
 else bif o.c==2 then fK im c o f [(f.vars[o.a.toNat]?).getD zeroV]
 else bif o.c==4 then fK im c o f []
 else bif o.c==5 then fK im c o f [a,a]
 else bif o.c==6 then fK im c o f [b,a]
 else bif o.c==12 then fK im c o f [iw (Qq a b)]
 else bif decide (7≤o.c)&&decide (o.c≤13) then (bif (a.k==1)&&(b.k==1) then (match pg o.c a.n b.n with
  |.tu [.d (.int .i64 n),.d (.bool true)]=>fK im c o f [num n]
  |_=>exc (-2)) else exc (-1))
 else bif o.c==14 then (bif a.k==1 then fK im c o f [iw (a.n==0)] else exc (-1))
 else bif o.c==15 then jmp
 else bif o.c==16 then (bif a.k==1 then (bif a.n==0 then fK im c o f [] else jmp) else exc (-1))
 else bif o.c==17 then (bif du ⟨b7 c.fr f,j0 (dF im c o 0 0),c.tr⟩ then (⟨(gF ⟨b7 c.fr f,j0 (dF im c o 0 0),c.tr⟩ o.a (match im.fs[o.a.toNat]? with | some g=>g.vars | none=>0) (nk (dF im c o 0 0)) f.ma).fr,j0 (dF im c o 0 0),c.tr⟩,cJ) else exc (-6))
 else bif o.c==18 then (bif decide (((gD c).fr.length:Int)≤max fr 0) then (gD c,⟨1,rj c,o0⟩) else (⟨(gD c).fr,(gD c).st ++ [rj c],(gD c).tr⟩,cJ))
 else bif o.c==19 then (bif a.k==1 then exc a.n else exc (-1))
 else bif o.c==20 then (⟨b7 c.fr f,j0 (dF im c o 0 0),c.tr ++ [⟨(b7 c.fr f).length,(j0 (dF im c o 0 0)).length,o.a⟩]⟩,cJ)
 else bif o.c==21 then (bif decide (max tr 0<c.tr.length) then (⟨b7 c.fr f,j0 (dF im c o 0 0),c.tr.take (c.tr.length - 1)⟩,cJ) else fK im c o f [])
 else bif o.c==44 then (⟨fB (b7 c.fr f) { { f with pc:=f.pc+1 } with ma:=yz o.a f.ma },j0 (dF im c o 0 0),c.tr⟩,cJ)
 else bif o.c==47 then fK im c o f [num f.ma]
 else (c,⟨3,zeroV,o⟩)
def W8 (c:Int):Bool:= !((c==3)||(c==22)||(c==23)||(c==24)||(c==31))
def St (im:Im) (c:Co) (fr tr:Int) (r:Co×Ou):Prop:=Z0 71 [xm im,gp c,.d (.int .i64 fr),.d (.int .i64 tr)] (.tu [gp r.1,vH r.2])
section
variable {im:Im} {c:Co} {fr tr:Int} {f:Fr} {fn:Fn} {oa:Int}
theorem vB {o:Op} (x:Cx im c fr tr o f fn) (F i:Nat) (l:List Va) (hq:∀id,qZ [0,3] [.d (.int .i64 o.c)] (Dt id) 0=some (some (i,.fc F [.p id 0]))) (hF1:Nat.blt F 1000000=false) (hF2:Nat.blt F 2000000=true)
  (hM:uf (F - 1000000) (dF im c o fr tr) (j0 (dF im c o fr tr)) (j0 (dF im c o fr tr)++l) c.tr (nk (dF im c o fr tr)) (b7 c.fr f)):St im c fr tr (fK im c o f l):=
 GK im c fr tr o f F i x.hI x.hs x.h x.NT hq hF1 hF2 (b7 c.fr f) (j0 (dF im c o fr tr)++l) c.tr hM
theorem rU {o:Op} (x:Cx im c fr tr o f fn) (F i:Nat) (frs':List Fr) (ts':List Tr) (hq:∀id,qZ [0,3] [.d (.int .i64 o.c)] (Dt id) 0=some (some (i,.fc F [.p id 0]))) (hF1:Nat.blt F 1000000=false) (hF2:Nat.blt F 2000000=true)
  (hM:jU (F - 1000000) (dF im c o fr tr) (j0 (dF im c o fr tr)) c.tr ts' (nk (dF im c o fr tr)) (b7 c.fr f) frs' false 0):St im c fr tr (⟨frs',j0 (dF im c o 0 0),ts'⟩,cJ):=
 P2 im c fr tr o f F i x.hI x.hs x.h x.NT hq hF1 hF2 frs' (j0 (dF im c o fr tr)) ts' hM
theorem zS {o:Op} (x:Cx im c fr tr o f fn) (F i:Nat) (n:Int) (hq:∀id,qZ [0,3] [.d (.int .i64 o.c)] (Dt id) 0=some (some (i,.fc F [.p id 0]))) (hF1:Nat.blt F 1000000=false) (hF2:Nat.blt F 2000000=true)
  (hM:jU (F - 1000000) (dF im c o fr tr) (j0 (dF im c o fr tr)) c.tr c.tr (nk (dF im c o fr tr)) (b7 c.fr f) (b7 c.fr f) true n):St im c fr tr (raise c n (max tr 0)):=
 P1 im c fr tr o f F i x.hI x.hs x.h x.NT hq hF1 hF2 (b7 c.fr f) (j0 (dF im c o fr tr)) c.tr n (by have:=x.lf;omega) hM
theorem WW (x:Cx im c fr tr ⟨1,oa⟩ f fn):St im c fr tr (nI im c fr tr ⟨1,oa⟩ f):=by
 have hw:within oa im.cs.length=true:=x.op;obtain ⟨k1,k2⟩:=within_iff.1 hw;obtain ⟨v,hv⟩:∃v,im.cs[oa.toNat]? = some v:=⟨_,aB (by omega)⟩
 have e:nI im c fr tr ⟨1,oa⟩ f=fK im c ⟨1,oa⟩ f [v]:=by
  show fK im c ⟨1,oa⟩ f [(im.cs[oa.toNat]?).getD zeroV]=_;rw [hv];rfl
 rw [e];exact vB x 1000145 0 [v] (λ_=>rfl) rfl rfl (Px _ _ _ _ _ v (by have:=x.sl;omega) k1 hv)
theorem WV (x:Cx im c fr tr ⟨2,oa⟩ f fn):St im c fr tr (nI im c fr tr ⟨2,oa⟩ f):=by
 have hw:within oa f.vars.length=true:=x.op;obtain ⟨k1,k2⟩:=within_iff.1 hw;obtain ⟨v,hv⟩:∃v,f.vars[oa.toNat]? = some v:=⟨_,aB (by omega)⟩
 have e:nI im c fr tr ⟨2,oa⟩ f=fK im c ⟨2,oa⟩ f [v]:=by
  show fK im c ⟨2,oa⟩ f [(f.vars[oa.toNat]?).getD zeroV]=_;rw [hv];rfl
 rw [e];exact vB x 1000146 1 [v] (λ_=>rfl) rfl rfl (Q6 _ _ _ _ _ { f with pc:=f.pc+1 } v (by have:=x.sl;omega) x.qf.1 x.qf.2 x.last k1 hv)
theorem Wz (x:Cx im c fr tr ⟨4,oa⟩ f fn):St im c fr tr (nI im c fr tr ⟨4,oa⟩ f):=by
 have e:nI im c fr tr ⟨4,oa⟩ f=(⟨b7 c.fr f,j0 (dF im c ⟨4,oa⟩ 0 0),c.tr⟩,cJ):=by
  show fK im c ⟨4,oa⟩ f []=_;simp [fK]
 rw [e];exact rU x 1000148 3 _ _ (λ_=>rfl) rfl rfl (S4 _ _ _ _ _)
theorem t0 {o:Op} {a:Va} {l:List Va} (h:nk (dF im c o fr tr)=a :: l):uo im c o=a:=by
 have:nk (dF im c o 0 0)=a :: l:=h;simp [uo,this]
theorem t1 {o:Op} {a b:Va} {l:List Va} (h:nk (dF im c o fr tr)=a :: b :: l):q8 im c o=b:=by
 have:nk (dF im c o 0 0)=a :: b :: l:=h;simp [q8,this]
theorem Wy (x:Cx im c fr tr ⟨5,oa⟩ f fn):St im c fr tr (nI im c fr tr ⟨5,oa⟩ f):=by
 obtain ⟨a,ha⟩:=x.SB rfl;have e:nI im c fr tr ⟨5,oa⟩ f=fK im c ⟨5,oa⟩ f [a,a]:=by
  show fK im c ⟨5,oa⟩ f [uo im c ⟨5,oa⟩,uo im c ⟨5,oa⟩]=_;rw [t0 ha]
 rw [e];refine vB x 1000149 4 [a,a] (λ_=>rfl) rfl rfl ?_;rw [ha];have:=Tt (dF im c ⟨5,oa⟩ fr tr) (j0 (dF im c ⟨5,oa⟩ fr tr)) c.tr a (b7 c.fr f) (by have:=x.sl;omega);rwa [bO] at this
theorem Wx (x:Cx im c fr tr ⟨6,oa⟩ f fn):St im c fr tr (nI im c fr tr ⟨6,oa⟩ f):=by
 obtain ⟨a,b,ha⟩:=x.SA rfl;have e:nI im c fr tr ⟨6,oa⟩ f=fK im c ⟨6,oa⟩ f [b,a]:=by
  show fK im c ⟨6,oa⟩ f [q8 im c ⟨6,oa⟩,uo im c ⟨6,oa⟩]=_;rw [t0 ha,t1 ha]
 rw [e];refine vB x 1000150 5 [b,a] (λ_=>rfl) rfl rfl ?_;rw [ha];have:=PX (dF im c ⟨6,oa⟩ fr tr) (j0 (dF im c ⟨6,oa⟩ fr tr)) c.tr a b (b7 c.fr f) (by have:=x.sl;omega);rwa [bO] at this
theorem VT (x:Cx im c fr tr ⟨12,oa⟩ f fn):St im c fr tr (nI im c fr tr ⟨12,oa⟩ f):=by
 obtain ⟨a,b,ha⟩:=x.SA rfl;have e:nI im c fr tr ⟨12,oa⟩ f=fK im c ⟨12,oa⟩ f [iw (Qq a b)]:=by
  show fK im c ⟨12,oa⟩ f [iw (Qq (uo im c ⟨12,oa⟩) (q8 im c ⟨12,oa⟩))]=_;rw [t0 ha,t1 ha]
 rw [e];refine vB x 1000152 11 [iw (Qq a b)] (λ_=>rfl) rfl rfl ?_;rw [ha];exact V8 (dF im c ⟨12,oa⟩ fr tr) (j0 (dF im c ⟨12,oa⟩ fr tr)) c.tr a b (b7 c.fr f) (by have:=x.sl;omega)
theorem L8 (k a b:Int):(∃n,pg k a b=mC n)∨pg k a b=qe:=by
 unfold pg;cases k==7<;>cases k==8<;>cases k==9<;>cases k==10<;>cases k==11<;>cases k==12<;>simp only [δ,ε] <;>
  first
   |exact .inl ⟨_,rfl⟩
   |(cases b==0<;>simp only [δ,ε]<;>first | exact .inl ⟨_,rfl⟩ | exact .inr trivial | exact .inr rfl)
def TW (im:Im) (c:Co) (tr:Int) (o:Op) (f:Fr):Co×Ou:=
 bif ((uo im c o).k==1)&&((q8 im c o).k==1) then (match pg o.c (uo im c o).n (q8 im c o).n with
  |.tu [.d (.int .i64 n),.d (.bool true)]=>fK im c o f [num n]
  |_=>raise c (-2) (max tr 0)) else raise c (-1) (max tr 0)
theorem Re {o:Op} (x:Cx im c fr tr o f fn) (i:Nat) (hc:7≤o.c∧o.c≤13) (ht:fU im o=2) (hq:∀id,qZ [0,3] [.d (.int .i64 o.c)] (Dt id) 0=some (some (i,.fc 1000151 [.p id 0]))):St im c fr tr (TW im c tr o f):=by
 obtain ⟨a,b,ha⟩:=x.SA ht;have h0:=t0 ha;have h1:=t1 ha;unfold TW;rw [h0,h1]
 by_cases hab:a.k=1∧b.k=1
 ·rw [show ((a.k==1)&&(b.k==1))=true by simp [hab.1,hab.2]];simp only [δ];rcases L8 o.c a.n b.n with ⟨n,hn⟩ | hn
  ·rw [hn];refine vB x 1000151 i [num n] hq rfl rfl ?_;rw [ha];exact E0 (dF im c o fr tr) _ c.tr a b (b7 c.fr f) n (by have:=x.sl;omega) hc hab.1 hab.2 hn
  ·rw [hn];refine zS x 1000151 i (-2) hq rfl rfl ?_;rw [ha];exact EZ (dF im c o fr tr) _ c.tr a b (b7 c.fr f) hc hab.1 hab.2 hn
 ·have e:((a.k==1)&&(b.k==1))=false:=by
   cases hh:((a.k==1)&&(b.k==1)) with
   |false=>rfl
   |true=>simp at hh;exact absurd hh hab
  rw [e];refine zS x 1000151 i (-1) hq rfl rfl ?_;rw [ha];exact EY (dF im c o fr tr) _ c.tr a b (b7 c.fr f) hab
end
end
section
variable {im:Im} {c:Co} {fr tr:Int} {f:Fr} {fn:Fn} {oa:Int}
theorem zn {a b:Int} (h:a=b):(a==b)=true:=by simp [h]
theorem rz {a b:Int} (h:¬a=b):(a==b)=false:=by simp [h]
theorem Te (o:Op):fK im c o f []=(⟨b7 c.fr f,j0 (dF im c o 0 0),c.tr⟩,cJ):=by simp [fK]
theorem VS (x:Cx im c fr tr ⟨14,oa⟩ f fn):St im c fr tr (nI im c fr tr ⟨14,oa⟩ f):=by
 obtain ⟨a,ha⟩:=x.SB rfl;have e:nI im c fr tr ⟨14,oa⟩ f=bif a.k==1 then fK im c ⟨14,oa⟩ f [iw (a.n==0)] else raise c (-1) (max tr 0):=by
  show (bif (uo im c ⟨14,oa⟩).k==1 then fK im c ⟨14,oa⟩ f [iw ((uo im c ⟨14,oa⟩).n==0)] else raise c (-1) (max tr 0))=_;rw [t0 ha]
 rw [e]
 by_cases hk:a.k=1
 ·rw [zn hk,δ];refine vB x 1000153 13 _ (λ_=>rfl) rfl rfl ?_;rw [ha];exact QV (dF im c ⟨14,oa⟩ fr tr) _ c.tr a (b7 c.fr f) (by have:=x.sl;omega) hk
 ·rw [rz hk,ε];refine zS x 1000153 13 (-1) (λ_=>rfl) rfl rfl ?_;rw [ha];exact QU (dF im c ⟨14,oa⟩ fr tr) _ c.tr a (b7 c.fr f) hk
theorem VR (x:Cx im c fr tr ⟨15,oa⟩ f fn):St im c fr tr (nI im c fr tr ⟨15,oa⟩ f):=
 rU x 1000154 14 _ _ (λ_=>rfl) rfl rfl (Ht (dF im c ⟨15,oa⟩ fr tr) _ c.tr _ (b7 c.fr f) { f with pc:=f.pc+1 } x.qf.1 x.qf.2 x.last)
theorem VQ (x:Cx im c fr tr ⟨16,oa⟩ f fn):St im c fr tr (nI im c fr tr ⟨16,oa⟩ f):=by
 obtain ⟨a,ha⟩:=x.SB rfl;have e:nI im c fr tr ⟨16,oa⟩ f=bif a.k==1 then (bif a.n==0 then fK im c ⟨16,oa⟩ f [] else (⟨fB (b7 c.fr f) { { f with pc:=f.pc+1 } with pc:=oa },j0 (dF im c ⟨16,oa⟩ 0 0),c.tr⟩,cJ)) else raise c (-1) (max tr 0):=by
  show (bif (uo im c ⟨16,oa⟩).k==1 then (bif (uo im c ⟨16,oa⟩).n==0 then fK im c ⟨16,oa⟩ f [] else _) else raise c (-1) (max tr 0))=_;rw [t0 ha]
 rw [e]
 by_cases hk:a.k=1
 ·rw [zn hk,δ]
  by_cases hn:a.n=0
  ·rw [zn hn,δ,Te];refine rU x 1000155 15 _ _ (λ_=>rfl) rfl rfl ?_;rw [ha];exact El (dF im c ⟨16,oa⟩ fr tr) _ c.tr a (b7 c.fr f) hk hn
  ·rw [rz hn,ε];refine rU x 1000155 15 _ _ (λ_=>rfl) rfl rfl ?_;rw [ha];exact Em (dF im c ⟨16,oa⟩ fr tr) _ c.tr a (b7 c.fr f) { f with pc:=f.pc+1 } x.qf.1 x.qf.2 x.last hk hn
 ·rw [rz hk,ε];refine zS x 1000155 15 (-1) (λ_=>rfl) rfl rfl ?_;rw [ha];exact Ek (dF im c ⟨16,oa⟩ fr tr) _ c.tr a (b7 c.fr f) hk
theorem VP (x:Cx im c fr tr ⟨17,oa⟩ f fn):St im c fr tr (nI im c fr tr ⟨17,oa⟩ f):=by
 obtain ⟨g,h0,hg,_⟩:=x.call rfl;have hlen:=x.qf;have hpo:=nG x.po;have htk:(nk (dF im c ⟨17,oa⟩ fr tr)).length<1000000000:=by have:=x.tl;have:=x.ls;omega
 have e:nI im c fr tr ⟨17,oa⟩ f=bif du ⟨b7 c.fr f,j0 (dF im c ⟨17,oa⟩ 0 0),c.tr⟩ then (⟨(gF ⟨b7 c.fr f,j0 (dF im c ⟨17,oa⟩ 0 0),c.tr⟩ oa g.vars (nk (dF im c ⟨17,oa⟩ 0 0)) f.ma).fr,j0 (dF im c ⟨17,oa⟩ 0 0),c.tr⟩,cJ) else raise c (-6) (max tr 0):=by
  show (bif du ⟨b7 c.fr f,j0 (dF im c ⟨17,oa⟩ 0 0),c.tr⟩ then (⟨(gF ⟨b7 c.fr f,j0 (dF im c ⟨17,oa⟩ 0 0),c.tr⟩ oa (match im.fs[oa.toNat]? with | some g=>g.vars | none=>0) (nk (dF im c ⟨17,oa⟩ 0 0)) f.ma).fr,j0 (dF im c ⟨17,oa⟩ 0 0),c.tr⟩,cJ) else raise c (-6) (max tr 0))=_;rw [hg]
 rw [e];cases hy:du ⟨b7 c.fr f,j0 (dF im c ⟨17,oa⟩ 0 0),c.tr⟩ with
 |true=>
  rw [δ];exact GK im c fr tr ⟨17,oa⟩ f 1000156 16 x.hI x.hs x.h x.NT (λ_=>rfl) rfl rfl _ (j0 (dF im c ⟨17,oa⟩ fr tr)) c.tr (λK hk=>Mm (dF im c ⟨17,oa⟩ fr tr) _ c.tr _ (b7 c.fr f) { f with pc:=f.pc+1 } g hlen.1 hlen.2 htk x.last h0 hg hy hk)
 |false=>
  rw [ε];exact PZ im c fr tr ⟨17,oa⟩ f 1000156 16 x.hI x.hs x.h x.NT (λ_=>rfl) rfl rfl (b7 c.fr f) (j0 (dF im c ⟨17,oa⟩ fr tr)) c.tr (-6) (by have:=x.lf;omega) (λK hk=>Ml (dF im c ⟨17,oa⟩ fr tr) _ c.tr _ (b7 c.fr f) { f with pc:=f.pc+1 } g hlen.1 hlen.2 htk x.last h0 hg hy hk)
theorem TQ (x:Cx im c fr tr ⟨18,oa⟩ f fn):St im c fr tr (nI im c fr tr ⟨18,oa⟩ f):=by
 have hlf:=x.lf;have hls:=x.ls;have hlt:=x.lt;have hpos:=x.pos;have hpo:fJ c 1=true:=x.po;have hy:oU c=true:=by simp [oU,hpo,hpos]
 have hl2:(gD c).st.length<1000000000:=by
  show (iB c.st (base c)).length<_;simp only [iB,af];omega
 have e:nI im c fr tr ⟨18,oa⟩ f=bif decide (((gD c).fr.length:Int)≤max fr 0) then (gD c,⟨1,rj c,o0⟩) else (⟨(gD c).fr,(gD c).st ++ [rj c],(gD c).tr⟩,cJ):=rfl;rw [e]
 by_cases hn:((gD c).fr.length:Int)≤max fr 0
 ·rw [show decide (((gD c).fr.length:Int)≤max fr 0)=true by simpa using hn,δ];exact GJ im c fr tr ⟨18,oa⟩ f 1000157 17 x.hI x.hs x.h x.NT (λ_=>rfl) rfl rfl (gD c).fr (b7 c.fr f) (gD c).st (gD c).tr ⟨1,rj c,o0⟩ (λK hk=>Pn (dF im c ⟨18,oa⟩ fr tr) _ c.tr _ (b7 c.fr f) (by show c.fr.length<_;omega) (by show c.st.length<_;omega) (by show c.tr.length<_;omega) hy hn hk)
 ·rw [show decide (((gD c).fr.length:Int)≤max fr 0)=false by simpa using hn,ε];exact GJ im c fr tr ⟨18,oa⟩ f 1000157 17 x.hI x.hs x.h x.NT (λ_=>rfl) rfl rfl (gD c).fr (b7 c.fr f) ((gD c).st ++ [rj c]) (gD c).tr cJ (λK hk=>Pm (dF im c ⟨18,oa⟩ fr tr) _ c.tr _ (b7 c.fr f) (by show c.fr.length<_;omega) (by show c.st.length<_;omega) (by show c.tr.length<_;omega) hl2 hy hn hk)
theorem VO (x:Cx im c fr tr ⟨19,oa⟩ f fn):St im c fr tr (nI im c fr tr ⟨19,oa⟩ f):=by
 obtain ⟨a,ha⟩:=x.SB rfl;have e:nI im c fr tr ⟨19,oa⟩ f=bif a.k==1 then raise c a.n (max tr 0) else raise c (-1) (max tr 0):=by
  show (bif (uo im c ⟨19,oa⟩).k==1 then raise c (uo im c ⟨19,oa⟩).n (max tr 0) else raise c (-1) (max tr 0))=_;rw [t0 ha]
 rw [e]
 by_cases hk:a.k=1
 ·rw [zn hk,δ];refine zS x 1000158 18 a.n (λ_=>rfl) rfl rfl ?_;rw [ha];exact GC (dF im c ⟨19,oa⟩ fr tr) _ c.tr a (b7 c.fr f) hk
 ·rw [rz hk,ε];refine zS x 1000158 18 (-1) (λ_=>rfl) rfl rfl ?_;rw [ha];exact GB (dF im c ⟨19,oa⟩ fr tr) _ c.tr a (b7 c.fr f) hk
theorem VN (x:Cx im c fr tr ⟨20,oa⟩ f fn):St im c fr tr (nI im c fr tr ⟨20,oa⟩ f):=
 rU x 1000159 19 _ _ (λ_=>rfl) rfl rfl (R_ (dF im c ⟨20,oa⟩ fr tr) _ c.tr _ (b7 c.fr f) (by have:=x.lt;omega))
theorem VM (x:Cx im c fr tr ⟨21,oa⟩ f fn):St im c fr tr (nI im c fr tr ⟨21,oa⟩ f):=by
 have e:nI im c fr tr ⟨21,oa⟩ f=bif decide (max tr 0<c.tr.length) then (⟨b7 c.fr f,j0 (dF im c ⟨21,oa⟩ 0 0),c.tr.take (c.tr.length - 1)⟩,cJ) else fK im c ⟨21,oa⟩ f []:=rfl;rw [e]
 by_cases hn:max tr 0<(c.tr.length:Int)
 ·rw [show decide (max tr 0<(c.tr.length:Int))=true by simpa using hn,δ];exact P0 im c fr tr ⟨21,oa⟩ f 1000160 20 x.hI x.hs x.h x.NT (λ_=>rfl) rfl rfl (b7 c.fr f) (j0 (dF im c ⟨21,oa⟩ fr tr)) (c.tr.take (c.tr.length - 1)) (λK hk=>Qs (dF im c ⟨21,oa⟩ fr tr) _ c.tr _ (b7 c.fr f) hn (by show 0≤max tr 0;omega) hk)
 ·rw [show decide (max tr 0<(c.tr.length:Int))=false by simpa using hn,ε,Te];exact rU x 1000160 20 _ _ (λ_=>rfl) rfl rfl (λK hk=>Qr (dF im c ⟨21,oa⟩ fr tr) _ c.tr _ (b7 c.fr f) hn hk)
theorem VJ (x:Cx im c fr tr ⟨44,oa⟩ f fn):St im c fr tr (nI im c fr tr ⟨44,oa⟩ f):=
 rU x 1000165 25 _ _ (λ_=>rfl) rfl rfl (Q9 (dF im c ⟨44,oa⟩ fr tr) _ c.tr _ (b7 c.fr f) { f with pc:=f.pc+1 } x.qf.1 x.qf.2 x.last)
theorem VI (x:Cx im c fr tr ⟨47,oa⟩ f fn) (hma:0≤f.ma∧f.ma≤255):St im c fr tr (nI im c fr tr ⟨47,oa⟩ f):=
 vB x 1000166 26 [num f.ma] (λ_=>rfl) rfl rfl (S7 (dF im c ⟨47,oa⟩ fr tr) _ c.tr _ (b7 c.fr f) { f with pc:=f.pc+1 } (by have:=x.sl;omega) x.qf.1 x.qf.2 x.last hma)
theorem ux {o:Op} (x:Cx im c fr tr o f fn) (hq:∀id,qZ [0,3] [.d (.int .i64 o.c)] (Dt id) 0=some none):St im c fr tr (c,⟨3,zeroV,o⟩):=
 SE im c fr tr o x.hI x.hs x.h hq
theorem TP {o:Op} (x:Cx im c fr tr o f fn) (hma:0≤f.ma∧f.ma≤255) (hd:W8 o.c=true) (hr:jY o=true):St im c fr tr (nI im c fr tr o f):=by
 obtain ⟨k,oa⟩:=o;have hk:1≤k∧k≤47:=by
  unfold jY at hr;cases hi:inf k with
  |none=>rw [hi] at hr;cases hr
  |some i=>have:=uC hi;omega
 have h47:k=1∨k=2∨k=3∨k=4∨k=5∨k=6∨k=7∨k=8∨k=9∨k=10∨k=11∨k=12∨k=13∨k=14∨k=15∨k=16∨k=17∨k=18∨k=19∨k=20∨k=21∨k=22∨k=23∨k=24∨k=25∨k=26∨k=27∨k=28∨k=29∨k=30∨k=31∨k=32∨k=33∨k=34∨k=35∨k=36∨k=37∨k=38∨k=39∨k=40∨k=41∨k=42∨k=43∨k=44∨k=45∨k=46∨k=47:=by omega
 rcases h47 with rfl | rfl | rfl | rfl | rfl | rfl | rfl | rfl | rfl | rfl | rfl | rfl | rfl | rfl | rfl | rfl | rfl | rfl | rfl | rfl | rfl | rfl | rfl | rfl | rfl | rfl | rfl | rfl | rfl | rfl | rfl | rfl | rfl | rfl | rfl | rfl | rfl | rfl | rfl | rfl | rfl | rfl | rfl | rfl | rfl | rfl | rfl
 ·exact WW x
 ·exact WV x
 ·exact absurd hd j5
 ·exact Wz x
 ·exact Wy x
 ·exact Wx x
 ·exact Re x 6 (show (7:Int)≤7∧(7:Int)≤13 by decide) rfl (λ_=>rfl)
 ·exact Re x 7 (show (7:Int)≤8∧(8:Int)≤13 by decide) rfl (λ_=>rfl)
 ·exact Re x 8 (show (7:Int)≤9∧(9:Int)≤13 by decide) rfl (λ_=>rfl)
 ·exact Re x 9 (show (7:Int)≤10∧(10:Int)≤13 by decide) rfl (λ_=>rfl)
 ·exact Re x 10 (show (7:Int)≤11∧(11:Int)≤13 by decide) rfl (λ_=>rfl)
 ·exact VT x
 ·exact Re x 12 (show (7:Int)≤13∧(13:Int)≤13 by decide) rfl (λ_=>rfl)
 ·exact VS x
 ·exact VR x
 ·exact VQ x
 ·exact VP x
 ·exact TQ x
 ·exact VO x
 ·exact VN x
 ·exact VM x
 ·exact absurd hd j5
 ·exact absurd hd j5
 ·exact absurd hd j5
 ·exact ux x (λ_=>rfl)
 ·exact ux x (λ_=>rfl)
 ·exact ux x (λ_=>rfl)
 ·exact ux x (λ_=>rfl)
 ·exact ux x (λ_=>rfl)
 ·exact ux x (λ_=>rfl)
 ·exact absurd hd j5
 ·exact ux x (λ_=>rfl)
 ·exact ux x (λ_=>rfl)
 ·exact ux x (λ_=>rfl)
 ·exact ux x (λ_=>rfl)
 ·exact ux x (λ_=>rfl)
 ·exact ux x (λ_=>rfl)
 ·exact ux x (λ_=>rfl)
 ·exact ux x (λ_=>rfl)
 ·exact ux x (λ_=>rfl)
 ·exact ux x (λ_=>rfl)
 ·exact ux x (λ_=>rfl)
 ·exact ux x (λ_=>rfl)
 ·exact VJ x
 ·exact ux x (λ_=>rfl)
 ·exact ux x (λ_=>rfl)
 ·exact VI x hma
end
def c00:Co:=⟨[],[],[]⟩
theorem Kv (m:Mh) (st:List Va) (ts:List Tr) (a:Va) (b9:List Fr) (f:Fr) (hl:0<b9.length) (hlf:b9.length<1000000000) (hf:b9[b9.length - 1]? = some f) (hv:f.vars.length<1000000000) (h0:0≤m.o.a) (h1:m.o.a<f.vars.length) :
  jU 147 m st ts ts [a] b9 (fB b9 { f with vars:=f.vars.set m.o.a.toNat a }) false 0:=by
 intro K hk;have hrow:=nM hl hf;rw [←nN hl] at hk;have e:bU { f with vars:=f.vars.set m.o.a.toNat a } = [.int .i64 f.fu,.int .i64 f.pc,.int .i64 f.ba,.int .u8 f.ma,.sl 5 ((f.vars.map cK).set m.o.a.toNat (cK a))]:=by simp [bU]
 rw [e] at hk;obtain ⟨v0,hv0⟩:∃v0,f.vars[m.o.a.toNat]? = some v0:=⟨_,aB (by omega)⟩
 have hvr:(f.vars.map cK)[m.o.a.toNat]? = some (cK v0):=by simp [hv0]
 refine sh0 Tryz.f147 ?_
 repeat' ((conv=>whnf);first | exact zf | refine zm ?_ | refine zr0 ?_ | refine vN m st ts [a] cJ false 0 _ (by simp;omega) (by simp;omega) ?_ | intro _)
 refine ⟨bU f,hrow,?_⟩
 repeat' ((conv=>whnf);first | exact zf | refine LI ?_ | refine zm ?_ | refine zr0 ?_ | refine sX (f.vars.map cK) (by simpa using hv) ?_ | intro _)
 conv=>whnf
 refine ⟨bU f,hrow,⟨rfl,rfl,rfl⟩,?_⟩
 repeat' ((conv=>whnf);first | exact zf | refine zm ?_ | intro _)
 refine ⟨cK a,⟨by decide,rfl,rfl⟩,?_⟩
 repeat' ((conv=>whnf);first | exact zf | refine zm ?_ | refine And.intro ⟨h0,by simpa using h1,rfl⟩ ?_ | intro _)
 refine ⟨cK v0,hvr,⟨rfl,rfl,rfl⟩,?_⟩
 repeat' ((conv=>whnf);first | exact zf | refine zm ?_ | intro _)
 conv=>whnf
 exact hk
def rQ (l:Lb):Va:=⟨2,0,[],l.s,l.i⟩
def bE (v:Va):Lb:=⟨v.ls,v.li⟩
theorem Ct {K:KT} (m:Mh) (st:List Va) (ts:List Tr) (tk:List Va) (u:Ou) (wr:Bool) (cd:Int) (fs:List Fr) (l:Lb) (hs:st.length<1000000000)
  (hk:K (.ret (.tu [])) [.cells (iZ m (.d (.sl 5 (fs.map bU))) (st ++ [rQ l]) ts (iI tk) u wr cd),.no]) :
  Z1 227 [.p 0 0,jT l] [.cells (iZ m (.os 1) st ts (iI tk) u wr cd),.rows 5 (fs.map bU)] K:=by
 refine sh0 Tryz.f227 ?_
 repeat' ((conv=>whnf);first | exact zf | refine zm ?_ | refine zr0 ?_ | refine mG m st ts tk u wr cd fs (rQ l) hs ?_ | intro _)
 conv=>whnf
 exact hk
theorem MA (m:Mh) (st:List Va) (ts:List Tr) (a b:Va) (b9:List Fr) (hs:st.length<1000000000) (ha:cI (bE a)) (hb:cI (bE b)):F4 226 [jl a,jl b] m st (st ++ [rQ (db (bE a) (bE b))]) ts [a,b] b9:=by
 intro K hk;have h:=t_ (bE a) (bE b) ha hb;refine sh0 Tryz.f226 ?_
 repeat' ((conv=>whnf);first | exact zf | refine zm ?_ | refine zc h ?_ | refine zr0 ?_ | refine Ct m st ts [a,b] cJ false 0 b9 (db (bE a) (bE b)) hs ?_ | intro _)
 conv=>whnf
 exact hk
theorem Lj (m:Mh) (st:List Va) (ts:List Tr) (a b:Va) (b9:List Fr) (hs:st.length<1000000000) (ha:cI (bE a)) (hb:cI (bE b)):F4 228 [jl a,jl b] m st (st ++ [rQ (nL (bE a) (bE b))]) ts [a,b] b9:=by
 intro K hk;have h:=H4 (bE a) (bE b) ha hb;refine sh0 Tryz.f228 ?_
 repeat' ((conv=>whnf);first | exact zf | refine zm ?_ | refine zc h ?_ | refine zr0 ?_ | refine Ct m st ts [a,b] cJ false 0 b9 (nL (bE a) (bE b)) hs ?_ | intro _)
 conv=>whnf
 exact hk
theorem L_ (m:Mh) (st:List Va) (ts:List Tr) (a b:Va) (b9:List Fr) (hs:st.length<1000000000) (ha:a.k=2) (hb:b.k=2) (hla:cI (bE a)) (hlb:cI (bE b)):uf 161 m st (st ++ [rQ (db (bE a) (bE b))]) ts [a,b] b9:=by
 intro K hk;refine sh0 Tryz.f161 ?_
 repeat' ((conv=>whnf);first | exact zf | refine zm ?_ | refine zr0 ?_ | refine AZ 226 rfl m st (st ++ [rQ (db (bE a) (bE b))]) ts a b 2 b9 ha hb (MA m st ts a b b9 hs hla hlb) ?_ | intro _)
 exact hk
theorem Ly (m:Mh) (st:List Va) (ts:List Tr) (a b:Va) (b9:List Fr) (hab:¬(a.k=2∧b.k=2)):jU 161 m st ts ts [a,b] b9 b9 true (-1):=by
 intro K hk;refine sh0 Tryz.f161 ?_
 repeat' ((conv=>whnf);first | exact zf | refine zm ?_ | refine zr0 ?_ | refine AY 226 m st ts a b 2 b9 hab ?_ | intro _)
 exact hk
theorem Li (m:Mh) (st:List Va) (ts:List Tr) (a b:Va) (b9:List Fr) (hs:st.length<1000000000) (ha:a.k=2) (hb:b.k=2) (hla:cI (bE a)) (hlb:cI (bE b)):uf 162 m st (st ++ [rQ (nL (bE a) (bE b))]) ts [a,b] b9:=by
 intro K hk;refine sh0 Tryz.f162 ?_
 repeat' ((conv=>whnf);first | exact zf | refine zm ?_ | refine zr0 ?_ | refine AZ 228 rfl m st (st ++ [rQ (nL (bE a) (bE b))]) ts a b 2 b9 ha hb (Lj m st ts a b b9 hs hla hlb) ?_ | intro _)
 exact hk
theorem Lh (m:Mh) (st:List Va) (ts:List Tr) (a b:Va) (b9:List Fr) (hab:¬(a.k=2∧b.k=2)):jU 162 m st ts ts [a,b] b9 b9 true (-1):=by
 intro K hk;refine sh0 Tryz.f162 ?_
 repeat' ((conv=>whnf);first | exact zf | refine zm ?_ | refine zr0 ?_ | refine AY 228 m st ts a b 2 b9 hab ?_ | intro _)
 exact hk
def Cb (im:Im) (c:Co) (fr tr:Int) (o:Op) (f:Fr):Co×Ou:=
 let a:=uo im c o
 let b:=q8 im c o
 bif o.c==3 then (⟨fB (b7 c.fr f) { { f with pc:=f.pc+1 } with vars:=f.vars.set o.a.toNat a },j0 (dF im c o 0 0),c.tr⟩,cJ)
 else bif o.c==22 then (bif (a.k==2)&&(b.k==2) then fK im c o f [rQ (db (bE a) (bE b))] else raise c (-1) (max tr 0))
 else bif o.c==23 then (bif (a.k==2)&&(b.k==2) then fK im c o f [rQ (nL (bE a) (bE b))] else raise c (-1) (max tr 0))
 else nI im c fr tr o f
section
variable {im:Im} {c:Co} {fr tr:Int} {f:Fr} {fn:Fn} {oa:Int}
theorem W_ (x:Cx im c fr tr ⟨3,oa⟩ f fn) (hv:f.vars.length<1000000000):St im c fr tr (Cb im c fr tr ⟨3,oa⟩ f):=by
 have hw:within oa f.vars.length=true:=x.op;obtain ⟨k1,k2⟩:=within_iff.1 hw;obtain ⟨a,ha⟩:=x.SB rfl;have e:Cb im c fr tr ⟨3,oa⟩ f=(⟨fB (b7 c.fr f) { { f with pc:=f.pc+1 } with vars:=f.vars.set oa.toNat a },j0 (dF im c ⟨3,oa⟩ 0 0),c.tr⟩,cJ):=by
  show ((⟨fB (b7 c.fr f) { { f with pc:=f.pc+1 } with vars:=f.vars.set oa.toNat (uo im c ⟨3,oa⟩) },j0 (dF im c ⟨3,oa⟩ 0 0),c.tr⟩:Co),cJ)=_;rw [t0 ha]
 rw [e];refine rU x 1000147 2 _ _ (λ_=>rfl) rfl rfl ?_;rw [ha];exact Kv (dF im c ⟨3,oa⟩ fr tr) (j0 (dF im c ⟨3,oa⟩ fr tr)) c.tr a (b7 c.fr f) { f with pc:=f.pc+1 } x.qf.1 x.qf.2 x.last hv k1 k2
theorem sD {o:Op} {v:Va} (h:v∈nk (dF im c o fr tr)):v∈c.st:=dS h
theorem VL (x:Cx im c fr tr ⟨22,oa⟩ f fn) (hm:∀v∈c.st,cI (bE v)):St im c fr tr (Cb im c fr tr ⟨22,oa⟩ f):=by
 obtain ⟨a,b,ha⟩:=x.SA rfl;have ma:cI (bE a):=hm a (sD (im:=im) (o:=⟨22,oa⟩) (fr:=fr) (tr:=tr) (by rw [ha];simp));have mb:cI (bE b):=hm b (sD (im:=im) (o:=⟨22,oa⟩) (fr:=fr) (tr:=tr) (by rw [ha];simp));have e:Cb im c fr tr ⟨22,oa⟩ f=(bif (a.k==2)&&(b.k==2) then fK im c ⟨22,oa⟩ f [rQ (db (bE a) (bE b))] else raise c (-1) (max tr 0)):=by
  show (bif ((uo im c ⟨22,oa⟩).k==2)&&((q8 im c ⟨22,oa⟩).k==2) then fK im c ⟨22,oa⟩ f [rQ (db (bE (uo im c ⟨22,oa⟩)) (bE (q8 im c ⟨22,oa⟩)))] else raise c (-1) (max tr 0))=_;rw [t0 ha,t1 ha]
 rw [e]
 by_cases hab:a.k=2∧b.k=2
 ·rw [zn hab.1,zn hab.2];refine vB x 1000161 21 [rQ (db (bE a) (bE b))] (λ_=>rfl) rfl rfl ?_;rw [ha];exact L_ _ _ _ a b _ (by have:=x.sl;omega) hab.1 hab.2 ma mb
 ·have e2:((a.k==2)&&(b.k==2))=false:=by
   cases h:(a.k==2)&&(b.k==2) with
   |false=>rfl
   |true=>simp at h;exact absurd h hab
  rw [e2];refine zS x 1000161 21 (-1) (λ_=>rfl) rfl rfl ?_;rw [ha];exact Ly _ _ _ a b _ hab
theorem VK (x:Cx im c fr tr ⟨23,oa⟩ f fn) (hm:∀v∈c.st,cI (bE v)):St im c fr tr (Cb im c fr tr ⟨23,oa⟩ f):=by
 obtain ⟨a,b,ha⟩:=x.SA rfl;have ma:cI (bE a):=hm a (sD (im:=im) (o:=⟨23,oa⟩) (fr:=fr) (tr:=tr) (by rw [ha];simp));have mb:cI (bE b):=hm b (sD (im:=im) (o:=⟨23,oa⟩) (fr:=fr) (tr:=tr) (by rw [ha];simp));have e:Cb im c fr tr ⟨23,oa⟩ f=(bif (a.k==2)&&(b.k==2) then fK im c ⟨23,oa⟩ f [rQ (nL (bE a) (bE b))] else raise c (-1) (max tr 0)):=by
  show (bif ((uo im c ⟨23,oa⟩).k==2)&&((q8 im c ⟨23,oa⟩).k==2) then fK im c ⟨23,oa⟩ f [rQ (nL (bE (uo im c ⟨23,oa⟩)) (bE (q8 im c ⟨23,oa⟩)))] else raise c (-1) (max tr 0))=_;rw [t0 ha,t1 ha]
 rw [e]
 by_cases hab:a.k=2∧b.k=2
 ·rw [zn hab.1,zn hab.2];refine vB x 1000162 22 [rQ (nL (bE a) (bE b))] (λ_=>rfl) rfl rfl ?_;rw [ha];exact Li _ _ _ a b _ (by have:=x.sl;omega) hab.1 hab.2 ma mb
 ·have e2:((a.k==2)&&(b.k==2))=false:=by
   cases h:(a.k==2)&&(b.k==2) with
   |false=>rfl
   |true=>simp at h;exact absurd h hab
  rw [e2];refine zS x 1000162 22 (-1) (λ_=>rfl) rfl rfl ?_;rw [ha];exact Lh _ _ _ a b _ hab
theorem QG {o:Op} (x:Cx im c fr tr o f fn) (hma:0≤f.ma∧f.ma≤255) (hv:f.vars.length<1000000000) (hm:∀v∈c.st,cI (bE v)) (hd:o.c≠24∧o.c≠31) (hr:jY o=true):St im c fr tr (Cb im c fr tr o f):=by
 obtain ⟨k,oa⟩:=o
 by_cases h3:k=3
 ·subst h3;exact W_ x hv
 by_cases h22:k=22
 ·subst h22;exact VL x hm
 by_cases h23:k=23
 ·subst h23;exact VK x hm
 have e:Cb im c fr tr ⟨k,oa⟩ f=nI im c fr tr ⟨k,oa⟩ f:=by
  simp only [Cb,rz h3,rz h22,rz h23,ε]
 rw [e];refine TP x hma ?_ hr;simp only [W8,rz h3,rz h22,rz h23,rz hd.1,rz hd.2,Bool.or_self,n9]
def eF (im:Im) (c:Co) (fr tr:Int):Co×Ou:=
 match fit im c with
 |none=>(c,failed (-6))
 |some o=>match c.fr.getLast? with
  |none=>(c,failed (-6))
  |some f=>Cb im c fr tr o f
structure Rf (im:Im) (c:Co):Prop where
  hI:Fc im
  cd:∀(i:Nat) (g:Fn),im.fs[i]? = some g→g.code.length<1000000000
  lf:c.fr.length<900000000
  ls:c.st.length<800000000
  lt:c.tr.length<900000000
  ma:∀f,c.fr.getLast? = some f→(0≤f.ma∧f.ma≤255)∧f.vars.length<1000000000
  sm:∀v∈c.st,cI (bE v)
  dm:∀o,fit im c=some o→o.c≠24∧o.c≠31
theorem Kw (h:Rf im c):St im c fr tr (eF im c fr tr):=by
 unfold eF;cases hf:fit im c with
 |none=>exact SG im c fr tr h.hI (by have:=h.ls;omega) hf
 |some o=>
  obtain ⟨f,fn,hl,w1,hfn,w2,ho,hr,hop,hpo⟩:=nS hf;simp only [hl];obtain ⟨a1,a2⟩:=within_iff.1 w2;have:=h.cd _ _ hfn;exact QG (fn:=fn) ⟨h.hI,hf,hl,⟨a1,by omega⟩,hop,hpo,h.lf,h.ls,h.lt⟩ (h.ma f hl).1 (h.ma f hl).2 h.sm (h.dm o hf) hr
end
end Go.Proofs.YtjpgfgajkjhonaaGreatDoor