/- What the small functions under core come to, in the picture. Conditions: where a list grows, it is not too long. -/
import Derived.Test.YtjpgfgajkjhonaaGreatDoorQEAR
import Derived.Test.YtjpgfgajkjhonaaGreatDoorQEAV
import Derived.Test.YtjpgfgajkjhonaaGreatDoorQEAW
namespace Go.Proofs.YtjpgfgajkjhonaaGreatDoor
open Go.Vx
set_option maxRecDepth 100000
theorem B5 (l:List (List D)) (n:Int):bJ Tryz.prog 90 [.d (.sl 5 l),.d (.int .i64 n)] (.cl 5 (l.take (min (max n 0) l.length).toNat)):=by
 refine s90.go (keep:=false) rfl ?_
 repeat' ((conv=>whnf);first | exact zf | refine zm ?_ | intro _)
theorem uZ (l:List (List D)) (n:Int):bJ Tryz.prog 94 [.d (.sl 5 l),.d (.int .i64 n)] (.cl 5 (l.take (min (max n 0) l.length).toNat)):=by
 refine s94.go (keep:=false) rfl ?_
 repeat' ((conv=>whnf);first | exact zf | refine zm ?_ | intro _)
theorem GS (l:List (List D)) (n:Int):bJ Tryz.prog 95 [.d (.sl 3 l),.d (.int .i64 n)] (.cl 3 (l.take (min (max n 0) l.length).toNat)):=by
 refine s95.go (keep:=false) rfl ?_
 repeat' ((conv=>whnf);first | exact zf | refine zm ?_ | intro _)
theorem w7 {α:Type} (l:List α):l.take (min (max (l.length:Int) 0) l.length).toNat=l:=cq (by omega)
theorem LY (l:List (List D)) (a b c d e:D) (hl:l.length<1000000000):bJ Tryz.prog 51 [.d (.sl 5 l),.ag [.d a,.d b,.d c,.d d,.d e]] (.d (.sl 5 (l ++ [[a,b,c,d,e]]))):=by
 refine s51.go (keep:=false) rfl ?_
 repeat' ((conv=>whnf);first | exact zf | refine zm ?_ | refine zc (B5 _ _) ?_ | intro _)
 exact cQ (congrArg (λx=>V.d (.sl 5 (x ++ [[a,b,c,d,e]]))) (w7 l))
theorem Gi (l:List (List D)) (a b c d e:D) (hl:l.length<1000000000):bJ Tryz.prog 103 [.d (.sl 5 l),.ag [.d a,.d b,.d c,.d d,.d e]] (.d (.sl 5 (l ++ [[a,b,c,d,e]]))):=by
 refine s103.go (keep:=false) rfl ?_
 repeat' ((conv=>whnf);first | exact zf | refine zm ?_ | refine zc (uZ _ _) ?_ | intro _)
 exact cQ (congrArg (λx=>V.d (.sl 5 (x ++ [[a,b,c,d,e]]))) (w7 l))
theorem qt {K:Out→H→Prop} (l:List (List D)) (hl:l.length<1000000000) (hk:K (.ret (.os 0)) [.rows 5 l]):Sat Tryz.prog 50 [.d (.sl 5 l)] [] K:=by
 refine s50.go (keep:=true) rfl ?_;cases l with
 |nil=>
  repeat' ((conv=>whnf);first | exact zf | refine zm ?_ | refine And.intro ?_ ?_ | intro _)
  all_goals exact hk
 |cons r l=>
  repeat' ((conv=>whnf);first | exact zf | refine zm ?_ | intro _)
  all_goals exact hk
theorem qq {K:Out→H→Prop} (l:List (List D)) (hl:l.length<1000000000) (hk:K (.ret (.os 0)) [.rows 5 l]):Sat Tryz.prog 114 [.d (.sl 5 l)] [] K:=by
 refine s114.go (keep:=true) rfl ?_;cases l with
 |nil=>
  repeat' ((conv=>whnf);first | exact zf | refine zm ?_ | refine And.intro ?_ ?_ | intro _)
  all_goals exact hk
 |cons r l=>
  repeat' ((conv=>whnf);first | exact zf | refine zm ?_ | intro _)
  all_goals exact hk
theorem G0 {K:Out→H→Prop} (l:List (List D)) (hl:l.length<1000000000) (hk:K (.ret (.os 0)) [.rows 3 l]):Sat Tryz.prog 278 [.d (.sl 3 l)] [] K:=by
 refine s278.go (keep:=true) rfl ?_;cases l with
 |nil=>
  repeat' ((conv=>whnf);first | exact zf | refine zm ?_ | refine And.intro ?_ ?_ | intro _)
  all_goals exact hk
 |cons r l=>
  repeat' ((conv=>whnf);first | exact zf | refine zm ?_ | intro _)
  all_goals exact hk
end Go.Proofs.YtjpgfgajkjhonaaGreatDoor
namespace Go.Proofs.YtjpgfgajkjhonaaGreatDoor
open Go.Vx
structure Va where
  k:Int
  n:Int
  nm:List UInt8
  ls:List UInt8
  li:List UInt8
def cE (v:Va):List D:=[.int .i64 v.k,.int .i64 v.n,.str v.nm,.str v.ls,.str v.li]
def NI (a b:Va):Bool:=(a.k==b.k)&&((a.n==b.n)&&((a.nm==b.nm)&&((a.ls==b.ls)&&((a.li==b.li)&&true))))
theorem nt {b:Bool} (h:(!b)=true):b=false:=by cases b<;>simp_all
theorem nf {b:Bool} (h:(!b)=false):b=true:=by cases b<;>simp_all
structure Tr where
  f:Int
  h:Int
  a:Int
def eC (v:Tr):List D:=[.int .i64 v.f,.int .i64 v.h,.int .i64 v.a]
end Go.Proofs.YtjpgfgajkjhonaaGreatDoor
namespace Go.Proofs.YtjpgfgajkjhonaaGreatDoor
open Go.Vx
structure Fr where
  fu:Int
  pc:Int
  ba:Int
  ma:Int
  vars:List Va
def bQ (f:Fr):List D:=[.int .i64 f.fu,.int .i64 f.pc,.int .i64 f.ba,.int .u8 f.ma,.sl 5 (f.vars.map cE)]
def Um (f:Fr):V:=.ag [.d (.int .i64 f.fu),.d (.int .i64 f.pc),.d (.int .i64 f.ba),.d (.int .u8 f.ma),.d (.sl 5 (f.vars.map cE))]
def jT (v:Va):V:=.ag [.d (.int .i64 v.k),.d (.int .i64 v.n),.d (.str v.nm),.d (.str v.ls),.d (.str v.li)]
structure Co where
  fr:List Fr
  st:List Va
  tr:List Tr
def gN (c:Co):V:=.ag [.d (.sl 5 (c.fr.map bQ)),.d (.sl 5 (c.st.map cE)),.d (.sl 3 (c.tr.map eC))]
def gf {α:Type} (l:List α) (n:Int):List α :=l.take (min (max n 0) l.length).toNat
theorem gL {α β:Type} (f:α→β) (l:List α) (n:Int):gf (l.map f) n=(gf l n).map f:=by simp [gf]
def DR (c:Co) (f h t:Int):Co:=⟨gf c.fr f,gf c.st h,gf c.tr t⟩
def jH (c:Co) (v:Va):Co:=⟨c.fr,c.st ++ [v],c.tr⟩
theorem rQ (c:Co) (v:Va) (hl:c.st.length<1000000000):bJ Tryz.prog 69 [gN c,jT v] (gN (jH c v)):=by
 refine s69.go (keep:=false) rfl ?_;have hl':(c.st.map cE).length<1000000000:=by simpa using hl
 repeat' ((conv=>whnf);first | exact zf | refine zm ?_ | refine zc (Gi _ _ _ _ _ _ hl') ?_ | intro _)
 show Out.ret (V.ag [V.d (.sl 5 (c.fr.map bQ)),V.d (.sl 5 (c.st.map cE ++ [cE v])),V.d (.sl 3 (c.tr.map eC))])=_;simp [gN,jH]
def base (c:Co):Int:=match c.fr.getLast? with
 |some f=>f.ba
 |none=>0
def et (c:Co) (n:Int):Bool:=decide (0≤n)&&(decide (0≤base c)&&(decide (base c≤c.st.length)&&decide (n≤c.st.length - base c)))
def qP (c:Co) (n:Int):Co:=⟨c.fr,gf c.st (c.st.length - n),c.tr⟩
def kK (c:Co) (n:Int):List Va:=c.st.drop (c.st.length - n).toNat
def yx (c:Co) (n:Int):V:=
 bif et c n then .tu [gN (qP c n),.d (.sl 5 ((kK c n).map cE)),.d (.bool true)]
 else .tu [gN c,.d (.sl 5 []),.d (.bool false)]
theorem kT {c:Co} {n:Int} (h:et c n=true):yx c n = .tu [gN (qP c n),.d (.sl 5 ((kK c n).map cE)),.d (.bool true)]:=by simp [yx,h]
theorem qd {c:Co} {n:Int} (h:et c n=false):yx c n = .tu [gN c,.d (.sl 5 []),.d (.bool false)]:=by simp [yx,h]
theorem xB (c:Co) (n:Int) (hl:c.st.length<1000000000):bJ Tryz.prog 113 [gN c,.d (.int .i64 n)] (yx c n):=by
  refine s113.go (keep:=false) rfl ?_
  have hl':(c.st.map cE).length<1000000000:=by simpa using hl
  have yes:∀(b:Int),base c=b→¬n<0→¬b<0→¬(c.st.length:Int)<b→¬(c.st.length:Int) - b<n→et c n=true:=by
    intro b hb h1 h2 h3 h4
    simp [et,hb]
    omega
  have no:∀(b:Int),base c=b→(n<0∨b<0∨(c.st.length:Int)<b∨(c.st.length:Int) - b<n)→et c n=false:=by
    intro b hb h
    cases he:et c n with
    |false=>rfl
    |true=>
      simp [et,hb] at he
      omega
  repeat' ((conv=>whnf);first | exact zf | refine zm ?_ | intro _)
  refine aW (λhpos=>?_) (λhzero=>?_)
  · have hpos:0<c.fr.length:=by simpa using hpos
    obtain ⟨f,hf1⟩:∃f,c.fr[c.fr.length - 1]? = some f:=⟨_,aB (by omega)⟩
    have hb:base c=f.ba:=by simp [base,dQ,hf1]
    replace yes:=yes _ hb
    replace no:=no _ hb
    repeat' ((conv=>whnf);first | exact zf | refine zm ?_ | intro _)
    refine ⟨bQ f,⟨by simp;omega,by simp [hf1],rfl⟩,?_⟩
    repeat' ((conv=>whnf);first | exact zf | refine zm ?_ | refine qt _ (by simp;omega) ?_ | refine zc (uZ _ _) ?_ | refine aW (λhb=>?_) (λhb=>?_) | intro _)
    all_goals
      first
        |(refine (cQ (qd (no ?_))).symm;simp at *;omega)
        | (have hy := yes (by simp at * <;> omega) (by simp at * <;> omega) (by simp at * <;> omega) (by simp at * <;> omega)
           rw [kT hy]
           show Out.ret (V.tu [V.ag [V.d (.sl 5 (c.fr.map bQ)),V.d (.sl 5 (gf (c.st.map cE) ((c.st.map cE).length - n))),V.d (.sl 3 (c.tr.map eC))],V.d (.sl 5 ((c.st.map cE).drop (((c.st.map cE).length:Int) - n).toNat)),V.d (.bool true)])=_
           rw [gL]
           simp [gN,qP,kK])
  · have hz:c.fr = []:=by
      have:¬0<c.fr.length:=by simpa using hzero
      exact bo (by omega)
    have hb:base c=0:=by simp [base,hz]
    replace yes:=yes _ hb
    replace no:=no _ hb
    repeat' ((conv=>whnf);first | exact zf | refine zm ?_ | refine qt _ (by simp;omega) ?_ | refine zc (uZ _ _) ?_ | refine aW (λhb=>?_) (λhb=>?_) | intro _)
    all_goals
      first
        |(refine (cQ (qd (no ?_))).symm;simp at *;omega)
        | (have hy := yes (by simp at * <;> omega) (by simp at * <;> omega) (by simp at * <;> omega) (by simp at * <;> omega)
           rw [kT hy]
           show Out.ret (V.tu [V.ag [V.d (.sl 5 (c.fr.map bQ)),V.d (.sl 5 (gf (c.st.map cE) ((c.st.map cE).length - n))),V.d (.sl 3 (c.tr.map eC))],V.d (.sl 5 ((c.st.map cE).drop (((c.st.map cE).length:Int) - n).toNat)),V.d (.bool true)])=_
           rw [gL]
           simp [gN,qP,kK])
end Go.Proofs.YtjpgfgajkjhonaaGreatDoor
namespace Go.Proofs.YtjpgfgajkjhonaaGreatDoor
open Go.Vx
def Ul (t:Tr):V:=.ag [.d (.int .i64 t.f),.d (.int .i64 t.h),.d (.int .i64 t.a)]
theorem BB (t:Tr) (n:Int):bJ Tryz.prog 279 [Ul t,.e [.int .i64 n] 0] (.d (.bool (decide (n<t.f)))):=by
 refine s279.go (keep:=false) rfl ?_
 repeat' ((conv=>whnf);first | exact zf | refine zm ?_ | intro _)
def idx (p:Tr→Bool):List Tr→Nat
 |[]=>0
 |x :: l=>bif p x then 0 else idx p l+1
theorem Fc (p:Tr→Bool):∀l,idx p l≤l.length
 |[]=>aQ _
 |x :: l=>by
  simp only [idx];cases p x
  ·simp [Fc p l]
  ·simp
theorem sC {p:Tr→Bool}:∀{l:List Tr} {i:Nat},(∀j x,j<i→l[j]? = some x→p x=false)→(∀x,l[i]? = some x→p x=true)→i≤l.length→idx p l=i
 |[],i,_,_,hi=>by simp at hi;simp [idx,hi]
 |x :: l,0,_,h,_=>by simp [idx,h x rfl]
 |x :: l,i+1,h1,h2,hi=>by
  simp only [idx,h1 0 x (by omega) rfl,cond_false];rw [sC (i:=i) (λj y hj hy=>h1 (j+1) y (by omega) (by simpa using hy)) (λy hy=>h2 y (by simpa using hy)) (by simpa using hi)]
def zh (p:Tr→Bool) (l:List Tr):Int:=if idx p l<l.length then idx p l else -1
theorem F9 (l:List Tr) (n:Int):bJ Tryz.prog 320 [.d (.sl 3 (l.map eC)),.fc 279 [.e [.int .i64 n] 0]] (.d (.int .i64 (zh (λt=>decide (n<t.f)) l))):=by
 refine s320.go (keep:=false) rfl ?_
 repeat' ((conv=>whnf);first | exact zf | refine zm ?_ | intro _)
 refine xR ⟨Nat,λi=>i≤l.length∧∀j x,j<i→l[j]? = some x→decide (n<x.f)=false,λi=>[(0,.d (.sl 3 (l.map eC))),(1,.fc 279 [.e [.int .i64 n] 0]),(7,.d (.int .i64 (l.map eC).length)),(8,.d (.int .i64 i))],λ_=>[],λi=>l.length - i,0,
  ⟨⟨ak _,by simp⟩,⟨rfl,rfl,rfl,rfl,trivial⟩,trivial,rfl⟩,λi ⟨hi,he⟩=>?_⟩
 repeat' ((conv=>whnf);first | exact zf | refine zm ?_ | intro _)
 refine aW (λhlt=>?_) (λhge=>?_)
 ·have hlt:i<l.length:=by simpa using hlt
  obtain ⟨x,hx⟩:∃x,l[i]? = some x:=⟨_,aB hlt⟩
  repeat' ((conv=>whnf);first | exact zf | refine zm ?_ | intro _)
  refine ⟨eC x,⟨by omega,by simp [hx],rfl⟩,?_⟩
  repeat' ((conv=>whnf);first | exact zf | refine zm ?_ | refine zc (BB x n) ?_ | intro _)
  refine aW (λhyes=>?_) (λhno=>?_)
  ·skip
   repeat' ((conv=>whnf);first | exact zf | refine zm ?_ | intro _)
   refine cQ (congrArg (λx=>V.d (.int .i64 x)) ?_);have:=sC (p:=λt=>decide (n<t.f)) he (λy hy=>by rw [hx] at hy;cases hy;exact hyes) hi;simp only [zh,this,hlt,if_true]
  ·skip
   repeat' ((conv=>whnf);first | exact zf | refine zm ?_ | intro _)
   refine ⟨i+1,⟨hlt,λj y hj hy=>?_⟩,bC hlt (bL i),⟨rfl,rfl,rfl,rfl,trivial⟩,trivial,rfl⟩
   by_cases hji:j=i
   ·subst hji;rw [hx] at hy;cases hy;exact hno
   ·exact he j y (by omega) hy
 ·have hge:i=l.length:=by
   have:¬i<l.length:=by simpa using hge
   omega
  repeat' ((conv=>whnf);first | exact zf | refine zm ?_ | intro _)
  refine cQ (congrArg (λx=>V.d (.int .i64 x)) ?_);have:=sC (p:=λt=>decide (n<t.f)) he (λy hy=>by simp [hge] at hy) hi;simp [zh,this,hge]
end Go.Proofs.YtjpgfgajkjhonaaGreatDoor
namespace Go.Proofs.YtjpgfgajkjhonaaGreatDoor
open Go.Vx
def keep (n:Int) (l:List Tr):List Tr:=l.filter λt=> !(decide (n<t.f))
theorem xY {n:Int}:∀{l:List Tr},idx (λt=>decide (n<t.f)) l=l.length→keep n l=l
 |[],_=>rfl
 |x :: l,h=>by
  simp only [idx] at h;cases hx:decide (n<x.f) with
  |true=>rw [hx] at h;simp at h
  |false=>
   rw [hx] at h;simp only [cond_false,aU,Nat.add_right_cancel_iff] at h;have:=xY h;simp only [keep] at this ⊢;rw [List.filter_cons_of_pos (by simp [hx]),this]
theorem uO {n:Int}:∀{l:List Tr},keep n (l.take (idx (λt=>decide (n<t.f)) l))=l.take (idx (λt=>decide (n<t.f)) l)
 |[]=>rfl
 |x :: l=>by
  simp only [idx];cases hx:decide (n<x.f) with
  |true=>rfl
  |false=>
   simp only [cond_false,dT];have:=uO (n:=n) (l:=l);simp only [keep] at this ⊢;rw [List.filter_cons_of_pos (by simp [hx]),this]
theorem Fe {n:Int}:∀{l:List Tr} {x:Tr},l[idx (λt=>decide (n<t.f)) l]? = some x→decide (n<x.f)=true
 |[],_,h=>by simp at h
 |y :: l,x,h=>by
  simp only [idx] at h;cases hy:decide (n<y.f) with
  |true=>rw [hy] at h;simp at h;subst h;exact hy
  |false=>rw [hy] at h;exact Fe (by simpa using h)
theorem pW {n:Int} {l:List Tr} {j:Nat} {x:Tr} (h:l[j]? = some x):keep n (l.take (j+1))=keep n (l.take j)++(bif decide (n<x.f) then [] else [x]):=by
 rw [cF,h];simp only [keep,List.filter_append,Option.toList];cases hx:decide (n<x.f)<;>simp [hx]
theorem DK {K:Out→H→Prop} (l:List Tr) (n:Int) (hl:l.length<1000000000) (hk:K (.ret (.d (.sl 3 ((keep n l).map eC)))) [.no,.cells [.d (.int .i64 n)]]):Sat Tryz.prog 277 [.os 0,.fc 279 [.p 1 0]] [.rows 3 (l.map eC),.cells [.d (.int .i64 n)]] K:=by
 refine s277.go (keep:=false) rfl ?_;have hle:=Fc (λt=>decide (n<t.f)) l;have hst:=λx=>Fe (n:=n) (l:=l) (x:=x)
 repeat' ((conv=>whnf);first | exact zf | refine zm ?_ | intro _)
 refine .inl ⟨_,F9 l n,rfl,?_⟩
 repeat' ((conv=>whnf);first | exact zf | refine zm ?_ | intro _)
 refine aW (λhno=>?_) (λhyes=>?_)
 ·have hall:keep n l=l:=by
   refine xY ?_
   by_cases h:idx (λt=>decide (n<t.f)) l<l.length
   ·simp [zh,h] at hno
   ·omega
  repeat' ((conv=>whnf);first | exact zf | refine zm ?_ | intro _)
  rw [hall] at hk;exact hk
 ·have hlt:idx (λt=>decide (n<t.f)) l<l.length:=by
   by_cases h:idx (λt=>decide (n<t.f)) l<l.length
   ·exact h
   ·simp [zh,h] at hyes
  have hix:zh (λt=>decide (n<t.f)) l=(idx (λt=>decide (n<t.f)) l:Nat):=by simp [zh,hlt]
  rw [hix];generalize zi:idx (λt=>decide (n<t.f)) l=i0 at *
  repeat' ((conv=>whnf);first | exact zf | refine zm ?_ | intro _)
  have hkt:=uO (n:=n) (l:=l);rw [zi] at hkt;obtain ⟨x0,hx0⟩:∃x,l[i0]? = some x:=⟨_,aB hlt⟩
  refine xR ⟨Nat×Nat×List Tr,λ(j,i,m)=>m.length=l.length∧i<j∧j≤l.length∧m.take i=keep n (l.take j)∧m.drop j=l.drop j,
   λ(j,i,_)=>[(0,.os 0),(1,.fc 279 [.p 1 0]),(5,.d (.int .i64 i)),(6,.d (.int .i64 j))],λ(_,_,m)=>[.rows 3 (m.map eC),.cells [.d (.int .i64 n)]],λ(j,_,_)=>l.length - j,(i0+1,i0,l),
   ⟨⟨rfl,by omega,hlt,by rw [pW hx0,hkt,hst x0 hx0];simp,rfl⟩,⟨rfl,rfl,rfl,rfl,trivial⟩,⟨rfl,.inl rfl,trivial⟩,rfl⟩,λ(j,i,m) ⟨h1,h2,h3,h4,h5⟩=>?_⟩
  repeat' ((conv=>whnf);first | exact zf | refine zm ?_ | intro _)
  refine aW (λhlt=>?_) (λhge=>?_)
  ·have hlt:j<m.length:=by simpa using hlt
   obtain ⟨x,hx⟩:∃x,l[j]? = some x:=⟨_,aB (by omega)⟩
   have hmx:m[j]? = some x:=by
    have:=congrArg (λl=>l[0]?) h5;simpa [ao,hx] using this
   obtain ⟨y,hy⟩:∃y,m[i]? = some y:=⟨_,aB (by omega)⟩
   repeat' ((conv=>whnf);first | exact zf | refine zm ?_ | intro _)
   refine ⟨eC x,by simp [hmx],?_⟩
   repeat' ((conv=>whnf);first | exact zf | refine zm ?_ | intro _)
   refine .inl ⟨_,BB x n,rfl,?_⟩
   repeat' ((conv=>whnf);first | exact zf | refine zm ?_ | intro _)
   refine aW (λhyes=>?_) (λhno=>?_)
   ·skip
    repeat' ((conv=>whnf);first | exact zf | refine zm ?_ | intro _)
    refine ⟨eC y,by simp [hy],⟨rfl,rfl,rfl⟩,?_⟩
    repeat' ((conv=>whnf);first | exact zf | refine zm ?_ | intro _)
    refine ⟨(j+1,i+1,m.set i x),⟨by simp [h1],by omega,by omega,?_,?_⟩,bC (by omega) (bL j),⟨rfl,rfl,rfl,rfl,trivial⟩,⟨?_,.inl rfl,trivial⟩,rfl⟩
    ·rw [pW hx,nt hyes,←h4];simp only [cond_false];rw [cF,List.take_set_of_le (aQ _),bc (by omega)];rfl
    ·rw [List.drop_set_of_lt (by omega)];have:=congrArg (List.drop 1) h5;simpa [List.drop_drop] using this
    ·show B.rows 3 ((m.map eC).set i (eC x))=B.rows 3 ((m.set i x).map eC);rw [fQ]
   ·skip
    repeat' ((conv=>whnf);first | exact zf | refine zm ?_ | intro _)
    refine ⟨(j+1,i,m),⟨h1,by omega,by omega,?_,?_⟩,bC (by omega) (bL j),⟨rfl,rfl,rfl,rfl,trivial⟩,⟨rfl,.inl rfl,trivial⟩,rfl⟩
    ·rw [pW hx,nf hno,h4];simp
    ·have:=congrArg (List.drop 1) h5;simpa [List.drop_drop] using this
  ·have hj:j=l.length:=by
    have:¬j<m.length:=by simpa using hge
    omega
   subst hj;rw [dP] at h4
   repeat' ((conv=>whnf);first | exact zf | refine zm ?_ | intro _)
   show K (.ret (.d (.sl 3 (List.drop 0 (List.take i (List.take i (m.map eC)++List.replicate ((m.map eC).length - i) [.int .i64 0,.int .i64 0,.int .i64 0])))))) [.no,.cells [.d (.int .i64 n)]];have e:List.drop 0 (List.take i (List.take i (m.map eC)++List.replicate ((m.map eC).length - i) [D.int .i64 0,.int .i64 0,.int .i64 0]))=(keep n l).map eC:=by
    rw [List.drop_zero,List.take_append_of_le_length (by simp;omega),List.take_take,Nat.min_self,←fX,h4]
   rw [e];exact hk
end Go.Proofs.YtjpgfgajkjhonaaGreatDoor
namespace Go.Proofs.YtjpgfgajkjhonaaGreatDoor
open Go.Vx
def num (n:Int):Va:=⟨1,n,[],[],[]⟩
def pw (c:Co) (t:Tr):Bool:=decide (1≤t.f)&&(decide (t.f≤c.fr.length)&&(decide (0≤t.h)&&decide (t.h≤c.st.length)))
def uA (l:List Fr) (i:Nat) (pc:Int):List Fr:=match l[i]? with
 |some f=>l.set i { f with pc:=pc }
 |none=>l
def rC (c:Co) (t:Tr) (code:Int):Co:=⟨uA (gf c.fr t.f) (t.f - 1).toNat t.a,gf c.st t.h ++ [num code],gf c.tr (c.tr.length - 1)⟩
def jY (c:Co) (code kp:Int):V:=
 bif decide ((c.tr.length:Int) - 1<max kp 0) then .tu [gN c,.d (.bool false)] else
 match c.tr.getLast? with
 |none=>.tu [gN c,.d (.bool false)]
 |some t=>bif pw c t then .tu [gN (rC c t code),.d (.bool true)] else .tu [gN c,.d (.bool false)]
theorem HY (c:Co) (code kp:Int) (hf:c.fr.length<1000000000) (hs:c.st.length<1000000000):bJ Tryz.prog 168 [gN c,.d (.int .i64 code),.d (.int .i64 kp)] (jY c code kp):=by
 cases hkp:decide ((c.tr.length:Int) - 1<max kp 0) with
 |true=>
  have hr:jY c code kp = .tu [gN c,.d (.bool false)]:=by simp only [jY,hkp,cond_true]
  have hkp':decide (((c.tr.map eC).length:Int) - 1<max kp 0)=true:=by simpa using hkp
  rw [hr];refine s168.go (keep:=false) rfl ?_
  repeat' ((conv=>whnf);first | exact zf | refine zm ?_ | intro _)
  refine aW (λhkp2=>?_) (λhkp2=>by rw [hkp'] at hkp2;cases hkp2)
  repeat' ((conv=>whnf);first | exact zf | refine zm ?_ | intro _)
 |false=>
  have hkp':decide (((c.tr.map eC).length:Int) - 1<max kp 0)=false:=by simpa using hkp
  have hpos:0<c.tr.length:=by simp at hkp;omega
  obtain ⟨t,ht⟩:∃t,c.tr[c.tr.length - 1]? = some t:=⟨_,aB (by omega)⟩
  have htl:c.tr.getLast? = some t:=by rw [dQ];exact ht
  cases hy:pw c t with
  |false=>
   have hr:jY c code kp = .tu [gN c,.d (.bool false)]:=by simp only [jY,hkp,htl,hy,cond_false]
   rw [hr];refine s168.go (keep:=false) rfl ?_
   repeat' ((conv=>whnf);first | exact zf | refine zm ?_ | intro _)
   refine aW (λhkp2=>by rw [hkp'] at hkp2;cases hkp2) (λhkp2=>?_)
   repeat' ((conv=>whnf);first | exact zf | refine zm ?_ | intro _)
   refine ⟨eC t,⟨by simp;omega,by simp [ht],rfl⟩,?_⟩
   repeat' ((conv=>whnf);first | exact zf | refine zm ?_ | refine qq _ (by simp at *;omega) ?_ | refine aW (λhb=>?_) (λhb=>?_) | intro _)
   exfalso;simp [pw] at *;omega
  |true=>
   have hr:jY c code kp = .tu [gN (rC c t code),.d (.bool true)]:=by simp only [jY,hkp,htl,hy,cond_false,cond_true]
   rw [hr];have h1:1≤t.f∧t.f≤c.fr.length∧0≤t.h∧t.h≤c.st.length:=by
    simp [pw] at hy;omega
   obtain ⟨f,hf⟩:∃f,c.fr[(t.f - 1).toNat]? = some f:=⟨_,aB (by omega)⟩
   have hrow:(List.take (min (max t.f 0) (List.map bQ c.fr).length).toNat (List.map bQ c.fr))[(t.f - 1).toNat]? = some (bQ f):=by
    rw [a8,if_pos (by simp;omega),aC,hf];rfl
   have hfc:(gf c.fr t.f)[(t.f - 1).toNat]? = some f:=by
    unfold gf;rw [a8,if_pos (by omega),hf]
   have hst:uA (gf c.fr t.f) (t.f - 1).toNat t.a=(gf c.fr t.f).set (t.f - 1).toNat { f with pc:=t.a }:=by simp only [uA,hfc]
   refine s168.go (keep:=false) rfl ?_
   repeat' ((conv=>whnf);first | exact zf | refine zm ?_ | intro _)
   refine aW (λhkp2=>by rw [hkp'] at hkp2;cases hkp2) (λhkp2=>?_)
   repeat' ((conv=>whnf);first | exact zf | refine zm ?_ | intro _)
   refine ⟨eC t,⟨by simp;omega,by simp [ht],rfl⟩,?_⟩
   repeat' ((conv=>whnf);first | exact zf | refine zm ?_ | intro _)
   refine aW (λhb=>absurd hb (by simp;omega)) (λhb=>?_)
   repeat' ((conv=>whnf);first | exact zf | refine zm ?_ | intro _)
   refine aW (λhb=>absurd hb (by simp;omega)) (λhb=>?_)
   repeat' ((conv=>whnf);first | exact zf | refine zm ?_ | intro _)
   refine aW (λhb=>absurd hb (by simp;omega)) (λhb=>?_)
   repeat' ((conv=>whnf);first | exact zf | refine zm ?_ | intro _)
   refine aW (λhb=>absurd hb (by simp;omega)) (λhb=>?_)
   repeat' ((conv=>whnf);first | exact zf | refine zm ?_ | refine qq _ (by simp at *;omega) ?_ | refine zc (B5 _ _) ?_ | intro _)
   refine ⟨bQ f,hrow,⟨rfl,rfl,rfl⟩,?_⟩
   repeat' ((conv=>whnf);first | exact zf | refine zm ?_ | refine zc (uZ _ _) ?_ | refine ⟨_,Gi _ _ _ _ _ _ (by simp;omega),?_⟩ | refine (Gi _ _ _ _ _ _ (by simp;omega)).use ?_ | refine zc (GS _ _) ?_ | intro _)
   show Out.ret (V.tu [V.ag [V.d (.sl 5 ((gf (c.fr.map bQ) t.f).set (t.f - 1).toNat (bQ { f with pc:=t.a }))),V.d (.sl 5 (gf (c.st.map cE) t.h ++ [cE (num code)])),V.d (.sl 3 (gf (c.tr.map eC) ((c.tr.map eC).length - 1)))],V.d (.bool true)])=_;rw [gL,gL,gL];simp only [gN,rC,hst,fQ,bn,cS,ji,aL]
def nP (c:Co):Bool:=et c 1&&decide (0<c.fr.length)
def zeroV:Va:=⟨0,0,[],[],[]⟩
def fm (c:Co):Co:=⟨gf c.fr (c.fr.length - 1),gf c.st (base c),keep (c.fr.length - 1) c.tr⟩
def qO (c:Co):Va:=((kK c 1)[0]?).getD zeroV
def CS (c:Co):V:=bif nP c then .tu [gN (fm c),jT (qO c),.d (.bool true)] else .tu [gN c,jT zeroV,.d (.bool false)]
theorem ET (c:Co) (hf:c.fr.length<1000000000) (hs:c.st.length<1000000000) (ht:c.tr.length<1000000000):bJ Tryz.prog 223 [gN c] (CS c):=by
 refine s223.go (keep:=false) rfl ?_;cases hp:et c 1 with
 |false=>
  have hr:yx c 1 = .tu [gN c,.d (.sl 5 []),.d (.bool false)]:=qd hp;have hpop:=xB c 1 hs;rw [hr] at hpop
  repeat' ((conv=>whnf);first | exact zf | refine zm ?_ | refine zc hpop ?_ | intro _)
  simp only [CS,nP,hp,mY,cond_false];rfl
 |true=>
  have hr:yx c 1 = .tu [gN (qP c 1),.d (.sl 5 ((kK c 1).map cE)),.d (.bool true)]:=kT hp;have hpop:=xB c 1 hs;rw [hr] at hpop
  repeat' ((conv=>whnf);first | exact zf | refine zm ?_ | refine zc hpop ?_ | intro _)
  refine aW (λhz=>?_) (λhz=>?_)
  ·have hz:c.fr.length=0:=by simpa using hz
   have hy:nP c=false:=by simp [nP,hz]
   repeat' ((conv=>whnf);first | exact zf | refine zm ?_ | intro _)
   simp only [CS,hy,cond_false];rfl
  ·have hz:0<c.fr.length:=by
    have:¬c.fr.length=0:=by simpa using hz
    omega
   have hy:nP c=true:=by simp [nP,hz,hp]
   simp only [CS,hy,cond_true];obtain ⟨f,hf1⟩:∃f,c.fr[c.fr.length - 1]? = some f:=⟨_,aB (by omega)⟩
   have hb:base c=f.ba:=by simp [base,dQ,hf1]
   repeat' ((conv=>whnf);first | exact zf | refine zm ?_ | intro _)
   refine ⟨bQ f,⟨by simp;omega,by simp [hf1],rfl⟩,?_⟩
   repeat' ((conv=>whnf);first | exact zf | refine zm ?_ | refine zc (uZ _ _) ?_ | refine zc (B5 _ _) ?_ | refine G0 _ (by simp;omega) ?_ | refine DK _ _ ht ?_ | intro _)
   obtain ⟨v,hv⟩:∃v,(kK c 1)[0]? = some v:=by
    refine ⟨_,aB ?_⟩;simp [kK,et] at *;omega
   refine ⟨cE v,⟨by omega,by simp [hv],rfl⟩,?_⟩
   repeat' ((conv=>whnf);first | exact zf | refine zm ?_ | intro _)
   refine Eq.trans (show _=Out.ret (V.tu [V.ag [V.d (.sl 5 _),V.d (.sl 5 _),V.d (.sl 3 _)],V.ag [V.d _,V.d _,V.d _,V.d _,V.d _],V.d (.bool true)]) from rfl) ?_;show Out.ret (V.tu [V.ag [V.d (.sl 5 (gf (c.fr.map bQ) ((c.fr.map bQ).length - 1))),V.d (.sl 5 (gf (c.st.map cE) f.ba)),V.d (.sl 3 ((keep ((c.fr.map bQ).length - 1) c.tr).map eC))],jT v,V.d (.bool true)])=_;rw [gL,gL];simp only [gN,fm,qO,hv,hb,aL,bZ]
def pj (n:Nat):List Va:=List.replicate n (num 0)
def dZ (c:Co):Bool:=decide (c.fr.length<16)
def ft (c:Co) (fn vs:Int) (l:List Va) (ma:Int):Co:=⟨c.fr ++ [⟨fn,0,c.st.length,ma,l++pj (min (max vs 0) 16).toNat⟩],c.st,c.tr⟩
def lP (c:Co) (fn vs:Int) (l:List Va) (ma:Int):V:=bif dZ c then .tu [gN (ft c fn vs l ma),.d (.bool true)] else .tu [gN c,.d (.bool false)]
theorem kB (c:Co) (fn vs:Int) (l:List Va) (ma:Int) (hf:c.fr.length<1000000000) (ha:l.length<1000000000):bJ Tryz.prog 20 [gN c,.d (.int .i64 fn),.d (.int .i64 vs),.d (.sl 5 (l.map cE)),.d (.int .u8 ma)] (lP c fn vs l ma):=by
 refine s20.go (keep:=false) rfl ?_
 repeat' ((conv=>whnf);first | exact zf | refine zm ?_ | intro _)
 refine aW (λhno=>?_) (λhyes=>?_)
 ·have hno:16≤(c.fr.length:Int):=by simpa using hno
  repeat' ((conv=>whnf);first | exact zf | refine zm ?_ | intro _)
  have hy:dZ c=false:=by simp [dZ];omega
  simp only [lP,hy,cond_false];rfl
 ·have hyes:(c.fr.length:Int)<16:=by simpa using hyes
  have hy:dZ c=true:=by simp [dZ];omega
  have hr:lP c fn vs l ma = .tu [gN (ft c fn vs l ma),.d (.bool true)]:=by simp only [lP,hy,cond_true]
  rw [hr]
  repeat' ((conv=>whnf);first | exact zf | refine zm ?_ | refine qt _ (by simp;omega) ?_ | intro _)
  conv=>whnf
  refine FL [12,18,19,23,24,25,26,27,28,29] (λp:Nat×List Va=>p.1≤(min (max vs 0) 16).toNat∧p.2=l++pj p.1) (λp=>[(12,.os 2),(23,.d (.int .i64 p.1))]) (λp=>[.cells [.d (.sl 5 (c.fr.map bQ)),.d (.sl 5 (c.st.map cE)),.d (.sl 3 (c.tr.map eC))],.cells [.nl 5,.nl 5,.nl 3],.rows 5 (p.2.map cE)]) (λp=>(min (max vs 0) 16).toNat - p.1) (0,l) ⟨ak _,by simp [pj]⟩ ?_ ?_ ?_ (λ⟨i,r⟩ ⟨hi,hr⟩=>?_)
  ·exact zzz
  ·exact zzz
  ·exact rfl
  repeat' ((conv=>whnf);first | exact zf | refine zm ?_ | intro _)
  refine aW (λhlt=>?_) (λhge=>?_)
  ·have hlt:i<(min (max vs 0) 16).toNat:=by simp at hlt;omega
   have hrl:r.length<1000000100:=by simp at hr;simp [hr,pj];omega
   repeat' ((conv=>whnf);first | exact zf | refine zm ?_ | intro _)
   refine ⟨(i+1,r ++ [num 0]),⟨hlt,?_⟩,bC hlt (bL i),zzz,?_,rfl⟩
   ·simp at hr;simp [hr,pj,List.replicate_succ']
   ·refine ⟨.inl rfl,.inl rfl,?_,trivial⟩;simp [cE,num];rfl
  ·have hge:i=(min (max vs 0) 16).toNat:=by simp at hge hi;omega
   repeat' ((conv=>whnf);first | exact zf | refine zm ?_ | intro _)
   conv=>whnf
   refine .inr ?_
   repeat' ((conv=>whnf);first | exact zf | refine zm ?_ | refine ⟨_,LY _ _ _ _ _ _ (by simp;omega),?_⟩ | refine (LY _ _ _ _ _ _ (by simp;omega)).use ?_ | intro _)
   show Out.ret (V.tu [V.ag [V.d (.sl 5 (c.fr.map bQ ++ [[.int .i64 fn,.int .i64 0,.int .i64 (c.st.map cE).length,.int .u8 ma,.sl 5 (r.map cE)]])),V.d (.sl 5 (c.st.map cE)),V.d (.sl 3 (c.tr.map eC))],V.d (.bool true)])=_;simp at hr;simp [gN,ft,bQ,hr,hge]
end Go.Proofs.YtjpgfgajkjhonaaGreatDoor
namespace Go.Proofs.YtjpgfgajkjhonaaGreatDoor
open Go.Vx
set_option maxRecDepth 100000
structure Sc where
  nm:List UInt8
  l:Lb
  un:Int
  fr:Int
  he:Int
  tr:Int
  g:Gs
  pa:List UInt8
  ma:Int
  ro:Int
def fI (s:Sc):List D:=[.str s.nm,.str s.l.s,.str s.l.i,.int .i64 s.un,.int .i64 s.fr,.int .i64 s.he,.int .i64 s.tr,.str s.g.cur.s,.str s.g.cur.i,.str s.g.fU.s,.str s.g.fU.i,.str s.pa,.int .i64 s.ma,.int .i64 s.ro]
def T5 (s:Sc):V:=.ag ((fI s).map .d)
structure Th where
  id:List UInt8
  pa:List UInt8
  g:Gs
  c:Co
  sc:List Sc
  ma:Int
  ro:Int
  st:Int
  on:List UInt8
  v:Va
  ex:Bool
def gR (t:Th):List D:=[.str t.id,.str t.pa,.str t.g.cur.s,.str t.g.cur.i,.str t.g.fU.s,.str t.g.fU.i,.sl 5 (t.c.fr.map bQ),.sl 5 (t.c.st.map cE),.sl 3 (t.c.tr.map eC),.sl 14 (t.sc.map fI),.int .i64 t.ma,.int .i64 t.ro,.int .i64 t.st,.str t.on,
 .int .i64 t.v.k,.int .i64 t.v.n,.str t.v.nm,.str t.v.ls,.str t.v.li,.bool t.ex]
def eX (t:Th):V:=.ag ((gR t).map .d)
def dR:Va:=⟨0,0,[],[],[]⟩
def nL:Lb:=⟨[],[]⟩
def Qe:Gs:=⟨nL,nL⟩
def Ew:Sc:=⟨[],nL,0,0,0,0,Qe,[],0,0⟩
def xK (id:List UInt8) (g:Gs) (c:Co) (ro:Int):Th:=⟨id,id,g,c,[],0,ro,0,[],dR,false⟩
theorem FC (id:List UInt8) (g:Gs) (c:Co) (ro:Int):bJ Tryz.prog 22 [.d (.str id),D8 g,gN c,.d (.int .i64 ro)] (eX (xK id g c ro)):=by
 refine s22.go (keep:=false) rfl ?_
 repeat' ((conv=>whnf);first | exact zf | refine zm ?_ | intro _)
def Bo (t:Th):V:=.ag [.d (.sl 14 (t.sc.map fI)),.d (.str t.g.cur.s),.d (.str t.g.cur.i)]
theorem Am (t:Th):bJ Tryz.prog 40 [eX t] (Bo t):=by
 refine s40.go (keep:=false) rfl ?_
 repeat' ((conv=>whnf);first | exact zf | refine zm ?_ | intro _)
def bP (t:Th):Sc:=t.sc.getLast?.getD Ew
theorem F6 (t:Th):bJ Tryz.prog 104 [Bo t] (.tu [T5 (bP t),.d (.bool (!t.sc.isEmpty))]):=by
 have hl:(t.sc.map fI).length=t.sc.length:=aL _;cases hs:t.sc.getLast? with
 |none=>
  have h0:t.sc = []:=List.getLast?_eq_none_iff.1 hs;unfold bP Bo;rw [hs,h0];refine s104.go (keep:=false) rfl ?_
  repeat' ((conv=>whnf);first | exact zf | refine zm ?_ | refine zt ?_ | refine zu ?_ | intro _)
 |some s=>
  have hne:t.sc≠[]:=by intro h;rw [h] at hs;cases hs
  have hpos:0<t.sc.length:=fi.2 hne;have hem:t.sc.isEmpty=false:=by rw [List.isEmpty_eq_false_iff];exact hne
  have hget:(t.sc.map fI)[t.sc.length - 1]? = some (fI s):=by
   rw [aC,←dQ,hs];rfl
  unfold bP;rw [hs,hem];refine s104.go (keep:=false) rfl ?_;have hn:(((t.sc.map fI).length:Int) - 1).toNat=t.sc.length - 1:=by omega
  repeat' ((conv=>whnf);first | exact zf | refine zm ?_ | refine (.inl ⟨by unfold eN;omega,?_⟩) | refine ⟨fI s,⟨by omega,by rw [hn];exact hget,rfl⟩,?_⟩ | refine zt ?_ | refine zu ?_ | intro _)
theorem vh (t:Th):bJ Tryz.prog 70 [eX t] (.tu [.d (.int .i64 (bP t).fr),.d (.int .i64 (bP t).tr)]):=by
 have h1:=Am t;have h2:=F6 t;refine s70.go (keep:=false) rfl ?_
 repeat' ((conv=>whnf);first | exact zf | refine zm ?_ | refine zc h1 ?_ | refine zc h2 ?_ | intro _)
def jE (now:Int):List Sc→Nat
 |[]=>0
 |s :: r=>bif decide (s.un≤now) then 0 else jE now r+1
def DG (t:Th) (now:Int):Int:=if jE now t.sc<t.sc.length then jE now t.sc else -1
theorem p5 {now:Int}:∀{l:List Sc} {i:Nat},(∀s∈l.take i,¬s.un≤now)→i≤l.length→jE now l=i+jE now (l.drop i)
 |l,0,_,_=>by simp
 |[],i+1,_,h=>by simp at h
 |s :: l,i+1,h,hi=>by
  rw [jE,decide_eq_false (h s (by simp)),cond_false,lY,p5 (i:=i) (λx hx=>h x (by rw [dT];exact cM _ hx)) (by simpa using hi)];omega
theorem BZ (now:Int):∀l:List Sc,jE now l≤l.length
 |[]=>aQ _
 |s :: l=>by
  have:=BZ now l;rw [jE];cases decide (s.un≤now)<;>simp<;>omega
theorem RL (t:Th) (now:Int):bJ Tryz.prog 41 [Bo t,.d (.int .i64 now)] (.d (.int .i64 (DG t now))):=by
 have hl:(t.sc.map fI).length=t.sc.length:=aL _;refine s41.go (keep:=false) rfl ?_
 repeat' ((conv=>whnf);first | exact zf | refine zm ?_ | intro _)
 conv=>whnf
 refine bV [(1,.d (.int .i64 now)),(8,.d (.sl 14 (t.sc.map fI))),(9,.d (.int .i64 (t.sc.map fI).length))] (λi:Nat=>i≤t.sc.length∧∀s∈t.sc.take i,¬s.un≤now) (λi=>[(10,.d (.int .i64 i))]) (λ_=>[]) (λi=>t.sc.length - i) 0 ⟨ak _,λ_ h=>nomatch h⟩ ?_ ?_ ?_ (λi hi=>?_)
 ·exact zzz
 ·exact zzz
 ·exact rfl
 repeat' ((conv=>whnf);first | exact zf | refine zm ?_ | intro _)
 refine aW (λhlt=>?_) (λhge=>?_)
 ·have hlt:i<t.sc.length:=by rw [←hl];simpa using hlt
  obtain ⟨s,hs⟩:∃s,t.sc[i]? = some s:=⟨_,aB hlt⟩
  have htk:t.sc.take (i+1)=t.sc.take i ++ [s]:=by rw [cF,hs];rfl
  have hdr:t.sc.drop i=s :: t.sc.drop (i+1):=by
   rw [bO hlt];rw [aB hlt] at hs;rw [aj hs]
  have hk:=p5 hi.2 hi.1;rw [hdr,jE] at hk
  repeat' ((conv=>whnf);first | exact zf | refine zm ?_ | intro _)
  refine ⟨fI s,⟨by omega,by simp [hs],rfl⟩,?_⟩
  repeat' ((conv=>whnf);first | exact zf | refine zm ?_ | intro _)
  refine aW (λhy=>?_) (λhn=>?_)
  ·skip
   repeat' ((conv=>whnf);first | exact zf | refine zm ?_ | intro _)
   refine cQ (congrArg (λx=>V.d (D.int .i64 x)) ?_);rw [show decide (s.un≤now)=true from hy,cond_true] at hk;unfold DG;rw [hk,if_pos (by omega)];simp
  ·skip
   repeat' ((conv=>whnf);first | exact zf | refine zm ?_ | intro _)
   refine ⟨i+1,⟨hlt,?_⟩,bC hlt (bL i),zzz,zzz,rfl⟩;rw [htk];intro x hx;exact (aT.1 hx).elim (hi.2 x) λh=>by rw [aO.1 h];exact of_decide_eq_false hn
 ·have hge:i=t.sc.length:=by
   have:¬i<t.sc.length:=by rw [←hl];simpa using hge
   omega
  have hk:=p5 hi.2 hi.1;rw [hge,kN] at hk;have:DG t now = -1:=by unfold DG;rw [hk,if_neg (by simp [jE])]
  rw [this]
  repeat' ((conv=>whnf);first | exact zf | refine zm ?_ | intro _)
theorem RM (t:Th) (now:Int):bJ Tryz.prog 11 [eX t,.d (.int .i64 now)] (.d (.int .i64 (DG t now))):=by
 have h1:=Am t;have h2:=RL t now;refine s11.go (keep:=false) rfl ?_
 repeat' ((conv=>whnf);first | exact zf | refine zm ?_ | refine zc h1 ?_ | refine zc h2 ?_ | intro _)
def eH (t:Th) (v:Va) (ex:Bool):Th:={ t with st:=bif !t.sc.isEmpty then 2 else bif ex then 4 else 3,v:=v,ex:=ex,on:=[] }
theorem pZ (t:Th) (v:Va) (ex:Bool):bJ Tryz.prog 110 [eX t,jT v,.d (.bool ex)] (eX (eH t v ex)):=by
 have hl:(t.sc.map fI).length=t.sc.length:=aL _;unfold eH;cases he:t.sc.isEmpty with
 |true=>
  have h0:t.sc = []:=ez.1 he;cases ex<;>refine s110.go (keep:=false) rfl ?_
  ·skip
   repeat' ((conv=>whnf);first | exact zf | refine zm ?_ | refine zt ?_ | refine zu ?_ | intro _)
  ·skip
   repeat' ((conv=>whnf);first | exact zf | refine zm ?_ | refine zt ?_ | refine zu ?_ | intro _)
 |false=>
  have hpos:0<t.sc.length:=fi.2 (by simpa using he);refine s110.go (keep:=false) rfl ?_
  repeat' ((conv=>whnf);first | exact zf | refine zm ?_ | refine zt ?_ | refine zu ?_ | intro _)
structure Wt where
  id:List UInt8
  put:Bool
  v:Va
def eK (x:Wt):List D:=[.str x.id,.bool x.put,.int .i64 x.v.k,.int .i64 x.v.n,.str x.v.nm,.str x.v.ls,.str x.v.li]
structure Vr where
  full:Bool
  v:Va
  q:List Wt
structure Ob where
  k:Int
  l:Lb
  v:Va
  ex:Bool
  dn:Bool
  va:Vr
  fu:Int
  ma:Int
def fA (o:Ob):List D:=[.int .i64 o.k,.str o.l.s,.str o.l.i,.int .i64 o.v.k,.int .i64 o.v.n,.str o.v.nm,.str o.v.ls,.str o.v.li,.bool o.ex,.bool o.dn,.bool o.va.full,
 .int .i64 o.va.v.k,.int .i64 o.va.v.n,.str o.va.v.nm,.str o.va.v.ls,.str o.va.v.li,.sl 7 (o.va.q.map eK),.int .i64 o.fu,.int .u8 o.ma]
def fz (o:Ob):V:=.ag ((fA o).map .d)
def zH:Vr:=⟨false,dR,[]⟩
def fG:Ob:=⟨0,nL,dR,false,false,zH,0,0⟩
def j4 (t:Th):Th:={ t with ma:=t.ma+1,ro:=t.ro - 1 }
theorem qg (t:Th) (l:List Nat) (n:Nat) (hp:t.pa=cr l) (hm:t.ma=n) (h0:l≠[]) (hl:l.length<24) (hs:∀n∈l,n<100) (hn:n<100) (hr:1≤t.ro) (hr2:t.ro<1000000000) :
  bJ Tryz.prog 292 [eX t] (.tu [eX (j4 t),.d (.str (cr (l ++ [n]))),.d (.bool true)]):=by
 have h1:=G4 l n h0 hl hs hn;rw [←hp,←hm] at h1;refine s292.go (keep:=false) rfl ?_
 repeat' ((conv=>whnf);first | exact zf | refine zm ?_ | refine zc h1 ?_ | refine (.inl ⟨by unfold eN;omega,?_⟩) | refine zt ?_ | refine zu ?_ | intro _)
theorem xN (t:Th) (hr:t.ro<1):bJ Tryz.prog 292 [eX t] (.tu [eX t,.d (.str []),.d (.bool false)]):=by
 refine s292.go (keep:=false) rfl ?_
 repeat' ((conv=>whnf);first | exact zf | refine zm ?_ | refine zt ?_ | refine zu ?_ | intro _)
theorem NX (l:List (List D)):bJ Tryz.prog 49 [.d (.sl 5 l)] (.cl 5 l):=by
 refine s49.go (keep:=false) rfl ?_
 repeat' ((conv=>whnf);first | exact zf | refine zm ?_ | intro _)
 exact cQ (congrArg (V.cl 5) (by show List.drop 0 (List.take ((l.length:Int)).toNat l)=l;simp))
theorem G3 (l:List (List D)):bJ Tryz.prog 58 [.d (.sl 14 l)] (.cl 14 l):=by
 refine s58.go (keep:=false) rfl ?_
 repeat' ((conv=>whnf);first | exact zf | refine zm ?_ | intro _)
 exact cQ (congrArg (V.cl 14) (by show List.drop 0 (List.take ((l.length:Int)).toNat l)=l;simp))
def l9 (t:Th) (l:List Va):Th:={ t with st:=0,on:=[],c:=⟨t.c.fr,t.c.st++l,t.c.tr⟩ }
theorem Dj (t:Th) (l:List Va) (hl:l.length<1000000000) (hs:t.c.st.length<1000000000):bJ Tryz.prog 15 [eX t,.d (.sl 5 (l.map cE))] (eX (l9 t l)):=by
 have h1:=NX (t.c.st.map cE);have e1:(t.c.st.map cE).length=t.c.st.length:=aL _;have e2:(l.map cE).length=l.length:=aL _;have e3:(t.c.st++l).map cE=t.c.st.map cE++l.map cE:=bn;unfold l9 eX gR;simp only [e3];refine s15.go (keep:=false) rfl ?_
 repeat' ((conv=>whnf);first | exact zf | refine zm ?_ | refine zc h1 ?_ | intro _)
def ic (t:Th) (k:Nat):Va×Bool:=
 bif !(t.st==2) || !((k:Int)==(t.sc.length:Int) - 1) then (num (-7),true) else
 bif !b7 t.g.cur ((t.sc[k]?).getD Ew).l then (num (-3),true) else (t.v,t.ex)
theorem DW (t:Th) (k:Nat) (hk:k<t.sc.length) (hc:cL t.g.cur) (hl:cL ((t.sc[k]?).getD Ew).l) (hn:t.sc.length<1000000000) :
  bJ Tryz.prog 68 [eX t,.d (.int .i64 k)] (.tu [jT (ic t k).1,.d (.bool (ic t k).2)]):=by
 have e1:(t.sc.map fI).length=t.sc.length:=aL _;obtain ⟨s,hs⟩:∃s,t.sc[k]? = some s:=⟨_,aB hk⟩
 rw [hs,bZ] at hl;have hf:=kh t.g.cur s.l hc hl;unfold ic;rw [hs,bZ];cases h1:t.st==2 with
 |false=>
  refine s68.go (keep:=false) rfl ?_
  repeat' ((conv=>whnf);first | exact zf | refine zm ?_ | refine zt ?_ | refine zu ?_ | intro _)
 |true=>
  cases h2:(k:Int)==(t.sc.length:Int) - 1 with
  |false=>
   refine s68.go (keep:=false) rfl ?_
   repeat' ((conv=>whnf);first | exact zf | refine zm ?_ | refine zt ?_ | refine zu ?_ | intro _)
  |true=>
   cases h3:b7 t.g.cur s.l with
   |false=>
    rw [h3] at hf;refine s68.go (keep:=false) rfl ?_
    repeat' ((conv=>whnf);first | exact zf | refine zm ?_ | refine zc hf ?_ | refine ⟨fI s,⟨by omega,by simp [hs],rfl⟩,?_⟩ | refine zt ?_ | refine zu ?_ | intro _)
   |true=>
    rw [h3] at hf;refine s68.go (keep:=false) rfl ?_
    repeat' ((conv=>whnf);first | exact zf | refine zm ?_ | refine zc hf ?_ | refine ⟨fI s,⟨by omega,by simp [hs],rfl⟩,?_⟩ | refine zt ?_ | refine zu ?_ | intro _)
theorem RR (c:Co) (f h t:Int):bJ Tryz.prog 59 [gN c,.d (.int .i64 f),.d (.int .i64 h),.d (.int .i64 t)] (gN (DR c f h t)):=by
 have h1:=B5 (c.fr.map bQ) f;have h2:=uZ (c.st.map cE) h;have h3:=GS (c.tr.map eC) t;have e1:=gL bQ c.fr f;have e2:=gL cE c.st h;have e3:=gL eC c.tr t;unfold gN DR;simp only [←e1,←e2,←e3];refine s59.go (keep:=false) rfl ?_
 repeat' ((conv=>whnf);first | exact zf | refine zm ?_ | refine zc h1 ?_ | refine zc h2 ?_ | refine zc h3 ?_ | intro _)
def ri (t:Th) (k:Nat) (s:Sc):Ob:={ fG with k:=3,l:=s.l,v:=(ic t k).1,ex:=(ic t k).2 }
def pU (t:Th) (k:Nat) (s:Sc):Th:={ t with sc:=t.sc.take k,g:=s.g,pa:=s.pa,ma:=s.ma,ro:=s.ro,c:=jH (DR t.c s.fr s.he s.tr) ⟨3,0,s.nm,s.l.s,s.l.i⟩,st:=0,on:=[],v:=dR,ex:=false }
set_option maxHeartbeats 1000000 in
theorem J0 (t:Th) (k:Nat) (s:Sc) (hs:t.sc[k]? = some s) (hc:cL t.g.cur) (hl:cL s.l) (hn:t.sc.length<1000000000) (hst:t.c.st.length<1000000000) :
  bJ Tryz.prog 33 [eX t,.d (.int .i64 k)] (.tu [eX (pU t k s),.d (.str s.nm),fz (ri t k s)]):=by
 have hk:=(aA.1 hs).1;have e1:(t.sc.map fI).length=t.sc.length:=aL _;have h1:=DW t k hk hc (by rw [hs];exact hl) hn;have h2:=G3 ((t.sc.map fI).take k);have h3:=RR t.c s.fr s.he s.tr;have h4:=rQ (DR t.c s.fr s.he s.tr) ⟨3,0,s.nm,s.l.s,s.l.i⟩ (by
  unfold DR gf;rw [ah];omega)
 have e2:(t.sc.take k).map fI=(t.sc.map fI).take k:=fX;generalize hb:ic t k=b at h1;unfold ri pU;rw [hb];unfold eX gR;simp only [e2];refine s33.go (keep:=false) rfl ?_
 repeat' ((conv=>whnf);first | exact zf | refine zm ?_ | refine zc h1 ?_ | refine zc h2 ?_ | refine zc h3 ?_ | refine zc h4 ?_ | refine ⟨fI s,⟨by omega,by simp [hs],rfl⟩,?_⟩ | refine zt ?_ | refine zu ?_ | intro _)
def sO (t:Th) (l:Lb) (tk ro now:Int) (nm:List UInt8):Sc:=⟨nm,gI l,now+tk,t.c.fr.length,t.c.st.length,t.c.tr.length,t.g,t.pa,t.ma+1,t.ro - 1 - ro⟩
def AE (t:Th) (fn vs:Int) (a:Va) (mk:Int) (l:Lb) (tk ro now:Int) (nm:List UInt8):Th:=
 { t with sc:=t.sc ++ [sO t l tk ro now nm],c:=ft t.c fn vs [a] mk,g:=⟨t.g.cur,gI l⟩,pa:=nm,ma:=0,ro:=ro }
def c_ (t:Th) (l:Lb) (tk ro:Int):Int:=
 if tk<1∨1000<tk then -7 else if ro<0∨999<ro then -5 else if bR t.g l≠0 then bR t.g l else if t.ro≤ro then -5 else if dZ t.c=false then -6 else 0
section
variable (t:Th) (fn vs:Int) (a:Va) (mk:Int) (l:Lb) (tk ro now:Int)
def iB:Prop:=bJ Tryz.prog 254 [eX t,.d (.int .i64 fn),.d (.int .i64 vs),jT a,.d (.int .u8 mk),jr l,.d (.int .i64 tk),.d (.int .i64 ro),.d (.int .i64 now)] (.tu [eX t,.d (.int .i64 (c_ t l tk ro))])
theorem xe (h:tk<1∨1000<tk):iB t fn vs a mk l tk ro now:=by
 unfold iB c_;rw [if_pos h];rcases h with h | h
 ·refine s254.go (keep:=false) rfl ?_
  repeat' ((conv=>whnf);first | exact zf | refine zm ?_ | refine zt ?_ | refine zu ?_ | intro _)
 ·refine s254.go (keep:=false) rfl ?_
  repeat' ((conv=>whnf);first | exact zf | refine zm ?_ | refine zt ?_ | refine zu ?_ | intro _)
theorem AD (h0:¬(tk<1∨1000<tk)) (h:ro<0∨999<ro):iB t fn vs a mk l tk ro now:=by
 unfold iB c_;rw [if_neg h0,if_pos h];rcases h with h | h
 ·refine s254.go (keep:=false) rfl ?_
  repeat' ((conv=>whnf);first | exact zf | refine zm ?_ | refine zt ?_ | refine zu ?_ | intro _)
 ·refine s254.go (keep:=false) rfl ?_
  repeat' ((conv=>whnf);first | exact zf | refine zm ?_ | refine zt ?_ | refine zu ?_ | intro _)
theorem xd (hg:iv t.g) (hl:cL l) (h0:¬(tk<1∨1000<tk)) (h1:¬(ro<0∨999<ro)) (h:bR t.g l≠0):iB t fn vs a mk l tk ro now:=by
 have hw:=fL t.g l hg hl;unfold iB c_;rw [if_neg h0,if_neg h1,if_pos h];refine s254.go (keep:=false) rfl ?_
 repeat' ((conv=>whnf);first | exact zf | refine zm ?_ | refine zc hw ?_ | refine zt ?_ | refine zu ?_ | intro _)
theorem xf (hg:iv t.g) (hl:cL l) (h0:¬(tk<1∨1000<tk)) (h1:¬(ro<0∨999<ro)) (h:bR t.g l=0) (h2:t.ro≤ro) (p:List Nat) (n:Nat) (hp:t.pa=cr p) (hm:t.ma=n) (hp0:p≠[]) (hpl:p.length<24) (hps:∀n∈p,n<100) (hn:n<100):iB t fn vs a mk l tk ro now:=by
 have hw:=fL t.g l hg hl;rw [h] at hw;unfold iB c_;rw [if_neg h0,if_neg h1,if_neg (by simp [h]),if_pos h2]
 by_cases hr:t.ro<1
 ·have hnm:=xN t hr;refine s254.go (keep:=false) rfl ?_
  repeat' ((conv=>whnf);first | exact zf | refine zm ?_ | refine zc hw ?_ | refine zc hnm ?_ | refine zt ?_ | refine zu ?_ | intro _)
 ·have hnm:=qg t p n hp hm hp0 hpl hps hn (by omega) (by omega);refine s254.go (keep:=false) rfl ?_
  repeat' ((conv=>whnf);first | exact zf | refine zm ?_ | refine zc hw ?_ | refine zc hnm ?_ | refine zt ?_ | refine zu ?_ | intro _)
theorem xg (hg:iv t.g) (hl:cL l) (h0:¬(tk<1∨1000<tk)) (h1:¬(ro<0∨999<ro)) (h:bR t.g l=0) (h2:¬t.ro≤ro) (hr2:t.ro<1000000000) (p:List Nat) (n:Nat) (hp:t.pa=cr p) (hm:t.ma=n) (hp0:p≠[]) (hpl:p.length<24) (hps:∀n∈p,n<100) (hn:n<100)
  (hf:t.c.fr.length<1000000000) (h3:dZ t.c=false):iB t fn vs a mk l tk ro now:=by
 have hw:=fL t.g l hg hl;rw [h] at hw;have hnm:=qg t p n hp hm hp0 hpl hps hn (by omega) hr2;have he:=kB t.c fn vs [a] mk hf (by simp);unfold lP at he;rw [h3] at he;unfold iB c_;rw [if_neg h0,if_neg h1,if_neg (by simp [h]),if_neg h2,if_pos h3];refine s254.go (keep:=false) rfl ?_
 repeat' ((conv=>whnf);first | exact zf | refine zm ?_ | refine zc hw ?_ | refine zc hnm ?_ | refine zc he ?_ | refine zt ?_ | refine zu ?_ | intro _)
set_option maxHeartbeats 2000000 in
theorem sN (hg:iv t.g) (hl:cL l) (h0:¬(tk<1∨1000<tk)) (h1:¬(ro<0∨999<ro)) (h:bR t.g l=0) (h2:¬t.ro≤ro) (hr2:t.ro<1000000000) (p:List Nat) (n:Nat) (hp:t.pa=cr p) (hm:t.ma=n) (hp0:p≠[]) (hpl:p.length<24) (hps:∀n∈p,n<100) (hn:n<100)
  (hf:t.c.fr.length<1000000000) (hsc:t.sc.length<1000000000) (hw0:0≤now∧now<1000000000) (h3:dZ t.c=true) :
  bJ Tryz.prog 254 [eX t,.d (.int .i64 fn),.d (.int .i64 vs),jT a,.d (.int .u8 mk),jr l,.d (.int .i64 tk),.d (.int .i64 ro),.d (.int .i64 now)] (.tu [eX (AE t fn vs a mk l tk ro now (cr (p ++ [n]))),.d (.int .i64 0)]):=by
 have hw:=fL t.g l hg hl;rw [h] at hw;have hnm:=qg t p n hp hm hp0 hpl hps hn (by omega) hr2;have he:=kB t.c fn vs [a] mk hf (by simp);unfold lP at he;rw [h3] at he;have hnr:(j4 t).ro=t.ro - 1:=rfl;have hno:=j3 l hl;have iH:=G3 (t.sc.map fI);have e1:(t.sc.map fI).length=t.sc.length:=aL _;have e2:(t.sc ++ [sO t l tk ro now (cr (p ++ [n]))]).map fI=t.sc.map fI ++ [fI (sO t l tk ro now (cr (p ++ [n])))]:=by simp
 have e3:((t.c.fr.map bQ).length:Int)=t.c.fr.length:=by simp
 have e4:((t.c.st.map cE).length:Int)=t.c.st.length:=by simp
 have e5:((t.c.tr.map eC).length:Int)=t.c.tr.length:=by simp
 unfold AE eX gR;simp only [e2];unfold sO;rw [←e3,←e4,←e5];refine s254.go (keep:=false) rfl ?_
 repeat' ((conv=>whnf);first | exact zf | refine zm ?_ | refine zc hw ?_ | refine zc hnm ?_ | refine zc he ?_ | refine zc hno ?_ | refine zc iH ?_ | refine (.inl ⟨by unfold eN;omega,?_⟩) | refine zt ?_ | refine zu ?_ | intro _)
 trace_state
end
end Go.Proofs.YtjpgfgajkjhonaaGreatDoor
