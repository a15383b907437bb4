/- What the small functions under core come to, in the picture. Conditions: where a list grows, it is not too long. -/
import Derived.Test.YtjpgfgajkjhonaaGreatDoorQFAR
import Derived.Test.YtjpgfgajkjhonaaGreatDoorQFAV
import Derived.Test.YtjpgfgajkjhonaaGreatDoorQFAW
namespace Go.Proofs.YtjpgfgajkjhonaaGreatDoor
open Go.Vx
set_option maxRecDepth 100000
theorem CH (l:List (List D)) (n:Int):bJ Tryz.prog 90 [.d (.sl 5 l),.d (.int .i64 n)] (.cl 5 (l.take (min (max n 0) l.length).toNat)):=by
 refine s90.go (keep:=false) rfl ?_
 repeat' ((conv=>whnf);first | exact zf | refine zm ?_ | intro _)
theorem uz (l:List (List D)) (n:Int):bJ Tryz.prog 94 [.d (.sl 5 l),.d (.int .i64 n)] (.cl 5 (l.take (min (max n 0) l.length).toNat)):=by
 refine s94.go (keep:=false) rfl ?_
 repeat' ((conv=>whnf);first | exact zf | refine zm ?_ | intro _)
theorem Gz (l:List (List D)) (n:Int):bJ Tryz.prog 95 [.d (.sl 3 l),.d (.int .i64 n)] (.cl 3 (l.take (min (max n 0) l.length).toNat)):=by
 refine s95.go (keep:=false) rfl ?_
 repeat' ((conv=>whnf);first | exact zf | refine zm ?_ | intro _)
theorem xH {α:Type} (l:List α):l.take (min (max (l.length:Int) 0) l.length).toNat=l:=cq (by omega)
theorem MG (l:List (List D)) (a b c d e:D) (hl:l.length<1000000000):bJ Tryz.prog 51 [.d (.sl 5 l),.ag [.d a,.d b,.d c,.d d,.d e]] (.d (.sl 5 (l ++ [[a,b,c,d,e]]))):=by
 refine s51.go (keep:=false) rfl ?_
 repeat' ((conv=>whnf);first | exact zf | refine zm ?_ | refine zc (CH _ _) ?_ | intro _)
 exact cR (congrArg (λx=>V.d (.sl 5 (x ++ [[a,b,c,d,e]]))) (xH l))
theorem H4 (l:List (List D)) (a b c d e:D) (hl:l.length<1000000000):bJ Tryz.prog 103 [.d (.sl 5 l),.ag [.d a,.d b,.d c,.d d,.d e]] (.d (.sl 5 (l ++ [[a,b,c,d,e]]))):=by
 refine s103.go (keep:=false) rfl ?_
 repeat' ((conv=>whnf);first | exact zf | refine zm ?_ | refine zc (uz _ _) ?_ | intro _)
 exact cR (congrArg (λx=>V.d (.sl 5 (x ++ [[a,b,c,d,e]]))) (xH l))
theorem rO {K:Out→H→Prop} (l:List (List D)) (hl:l.length<1000000000) (hk:K (.ret (.os 0)) [.rows 5 l]):Sat Tryz.prog 50 [.d (.sl 5 l)] [] K:=by
 refine s50.go (keep:=true) rfl ?_;cases l with
 |nil=>
  repeat' ((conv=>whnf);first | exact zf | refine zm ?_ | refine And.intro ?_ ?_ | intro _)
  all_goals exact hk
 |cons r l=>
  repeat' ((conv=>whnf);first | exact zf | refine zm ?_ | intro _)
  all_goals exact hk
theorem rN {K:Out→H→Prop} (l:List (List D)) (hl:l.length<1000000000) (hk:K (.ret (.os 0)) [.rows 5 l]):Sat Tryz.prog 114 [.d (.sl 5 l)] [] K:=by
 refine s114.go (keep:=true) rfl ?_;cases l with
 |nil=>
  repeat' ((conv=>whnf);first | exact zf | refine zm ?_ | refine And.intro ?_ ?_ | intro _)
  all_goals exact hk
 |cons r l=>
  repeat' ((conv=>whnf);first | exact zf | refine zm ?_ | intro _)
  all_goals exact hk
theorem HK {K:Out→H→Prop} (l:List (List D)) (hl:l.length<1000000000) (hk:K (.ret (.os 0)) [.rows 3 l]):Sat Tryz.prog 278 [.d (.sl 3 l)] [] K:=by
 refine s278.go (keep:=true) rfl ?_;cases l with
 |nil=>
  repeat' ((conv=>whnf);first | exact zf | refine zm ?_ | refine And.intro ?_ ?_ | intro _)
  all_goals exact hk
 |cons r l=>
  repeat' ((conv=>whnf);first | exact zf | refine zm ?_ | intro _)
  all_goals exact hk
end Go.Proofs.YtjpgfgajkjhonaaGreatDoor
namespace Go.Proofs.YtjpgfgajkjhonaaGreatDoor
open Go.Vx
structure Va where
  k:Int
  n:Int
  nm:List UInt8
  ls:List UInt8
  li:List UInt8
def cE (v:Va):List D:=[.int .i64 v.k,.int .i64 v.n,.str v.nm,.str v.ls,.str v.li]
def Nq (a b:Va):Bool:=(a.k==b.k)&&((a.n==b.n)&&((a.nm==b.nm)&&((a.ls==b.ls)&&((a.li==b.li)&&true))))
theorem nt {b:Bool} (h:(!b)=true):b=false:=by cases b<;>simp_all
theorem nf {b:Bool} (h:(!b)=false):b=true:=by cases b<;>simp_all
structure Tr where
  f:Int
  h:Int
  a:Int
def eE (v:Tr):List D:=[.int .i64 v.f,.int .i64 v.h,.int .i64 v.a]
end Go.Proofs.YtjpgfgajkjhonaaGreatDoor
namespace Go.Proofs.YtjpgfgajkjhonaaGreatDoor
open Go.Vx
structure Fr where
  fu:Int
  pc:Int
  ba:Int
  ma:Int
  vars:List Va
def bR (f:Fr):List D:=[.int .i64 f.fu,.int .i64 f.pc,.int .i64 f.ba,.int .u8 f.ma,.sl 5 (f.vars.map cE)]
def VY (f:Fr):V:=.ag [.d (.int .i64 f.fu),.d (.int .i64 f.pc),.d (.int .i64 f.ba),.d (.int .u8 f.ma),.d (.sl 5 (f.vars.map cE))]
def j5 (v:Va):V:=.ag [.d (.int .i64 v.k),.d (.int .i64 v.n),.d (.str v.nm),.d (.str v.ls),.d (.str v.li)]
structure Co where
  fr:List Fr
  st:List Va
  tr:List Tr
def gT (c:Co):V:=.ag [.d (.sl 5 (c.fr.map bR)),.d (.sl 5 (c.st.map cE)),.d (.sl 3 (c.tr.map eE))]
def gn {α:Type} (l:List α) (n:Int):List α :=l.take (min (max n 0) l.length).toNat
theorem gR {α β:Type} (f:α→β) (l:List α) (n:Int):gn (l.map f) n=(gn l n).map f:=by simp [gn]
def Du (c:Co) (f h t:Int):Co:=⟨gn c.fr f,gn c.st h,gn c.tr t⟩
def jS (c:Co) (v:Va):Co:=⟨c.fr,c.st ++ [v],c.tr⟩
theorem rz (c:Co) (v:Va) (hl:c.st.length<1000000000):bJ Tryz.prog 69 [gT c,j5 v] (gT (jS c v)):=by
 refine s69.go (keep:=false) rfl ?_;have hl':(c.st.map cE).length<1000000000:=by simpa using hl
 repeat' ((conv=>whnf);first | exact zf | refine zm ?_ | refine zc (H4 _ _ _ _ _ _ hl') ?_ | intro _)
 show Out.ret (V.ag [V.d (.sl 5 (c.fr.map bR)),V.d (.sl 5 (c.st.map cE ++ [cE v])),V.d (.sl 3 (c.tr.map eE))])=_;simp [gT,jS]
def base (c:Co):Int:=match c.fr.getLast? with
 |some f=>f.ba
 |none=>0
def fB (c:Co) (n:Int):Bool:=decide (0≤n)&&(decide (0≤base c)&&(decide (base c≤c.st.length)&&decide (n≤c.st.length - base c)))
def qf (c:Co) (n:Int):Co:=⟨c.fr,gn c.st (c.st.length - n),c.tr⟩
def kX (c:Co) (n:Int):List Va:=c.st.drop (c.st.length - n).toNat
def zd (c:Co) (n:Int):V:=
 bif fB c n then .tu [gT (qf c n),.d (.sl 5 ((kX c n).map cE)),.d (.bool true)]
 else .tu [gT c,.d (.sl 5 []),.d (.bool false)]
theorem ko {c:Co} {n:Int} (h:fB c n=true):zd c n = .tu [gT (qf c n),.d (.sl 5 ((kX c n).map cE)),.d (.bool true)]:=by simp [zd,h]
theorem rC {c:Co} {n:Int} (h:fB c n=false):zd c n = .tu [gT c,.d (.sl 5 []),.d (.bool false)]:=by simp [zd,h]
theorem x4 (c:Co) (n:Int) (hl:c.st.length<1000000000):bJ Tryz.prog 113 [gT c,.d (.int .i64 n)] (zd c n):=by
  refine s113.go (keep:=false) rfl ?_
  have hl':(c.st.map cE).length<1000000000:=by simpa using hl
  have yes:∀(b:Int),base c=b→¬n<0→¬b<0→¬(c.st.length:Int)<b→¬(c.st.length:Int) - b<n→fB c n=true:=by
    intro b hb h1 h2 h3 h4
    simp [fB,hb]
    omega
  have no:∀(b:Int),base c=b→(n<0∨b<0∨(c.st.length:Int)<b∨(c.st.length:Int) - b<n)→fB c n=false:=by
    intro b hb h
    cases he:fB c n with
    |false=>rfl
    |true=>
      simp [fB,hb] at he
      omega
  repeat' ((conv=>whnf);first | exact zf | refine zm ?_ | intro _)
  refine aX (λhpos=>?_) (λhzero=>?_)
  · have hpos:0<c.fr.length:=by simpa using hpos
    obtain ⟨f,hf1⟩:∃f,c.fr[c.fr.length - 1]? = some f:=⟨_,aB (by omega)⟩
    have hb:base c=f.ba:=by simp [base,dS,hf1]
    replace yes:=yes _ hb
    replace no:=no _ hb
    repeat' ((conv=>whnf);first | exact zf | refine zm ?_ | intro _)
    refine ⟨bR f,⟨by simp;omega,by simp [hf1],rfl⟩,?_⟩
    repeat' ((conv=>whnf);first | exact zf | refine zm ?_ | refine rO _ (by simp;omega) ?_ | refine zc (uz _ _) ?_ | refine aX (λhb=>?_) (λhb=>?_) | intro _)
    all_goals
      first
        |(refine (cR (rC (no ?_))).symm;simp at *;omega)
        | (have hy := yes (by simp at * <;> omega) (by simp at * <;> omega) (by simp at * <;> omega) (by simp at * <;> omega)
           rw [ko hy]
           show Out.ret (V.tu [V.ag [V.d (.sl 5 (c.fr.map bR)),V.d (.sl 5 (gn (c.st.map cE) ((c.st.map cE).length - n))),V.d (.sl 3 (c.tr.map eE))],V.d (.sl 5 ((c.st.map cE).drop (((c.st.map cE).length:Int) - n).toNat)),V.d (.bool true)])=_
           rw [gR]
           simp [gT,qf,kX])
  · have hz:c.fr = []:=by
      have:¬0<c.fr.length:=by simpa using hzero
      exact bn (by omega)
    have hb:base c=0:=by simp [base,hz]
    replace yes:=yes _ hb
    replace no:=no _ hb
    repeat' ((conv=>whnf);first | exact zf | refine zm ?_ | refine rO _ (by simp;omega) ?_ | refine zc (uz _ _) ?_ | refine aX (λhb=>?_) (λhb=>?_) | intro _)
    all_goals
      first
        |(refine (cR (rC (no ?_))).symm;simp at *;omega)
        | (have hy := yes (by simp at * <;> omega) (by simp at * <;> omega) (by simp at * <;> omega) (by simp at * <;> omega)
           rw [ko hy]
           show Out.ret (V.tu [V.ag [V.d (.sl 5 (c.fr.map bR)),V.d (.sl 5 (gn (c.st.map cE) ((c.st.map cE).length - n))),V.d (.sl 3 (c.tr.map eE))],V.d (.sl 5 ((c.st.map cE).drop (((c.st.map cE).length:Int) - n).toNat)),V.d (.bool true)])=_
           rw [gR]
           simp [gT,qf,kX])
end Go.Proofs.YtjpgfgajkjhonaaGreatDoor
namespace Go.Proofs.YtjpgfgajkjhonaaGreatDoor
open Go.Vx
def VX (t:Tr):V:=.ag [.d (.int .i64 t.f),.d (.int .i64 t.h),.d (.int .i64 t.a)]
theorem Be (t:Tr) (n:Int):bJ Tryz.prog 279 [VX t,.e [.int .i64 n] 0] (.d (.bool (decide (n<t.f)))):=by
 refine s279.go (keep:=false) rfl ?_
 repeat' ((conv=>whnf);first | exact zf | refine zm ?_ | intro _)
def idx (p:Tr→Bool):List Tr→Nat
 |[]=>0
 |x :: l=>bif p x then 0 else idx p l+1
theorem GU (p:Tr→Bool):∀l,idx p l≤l.length
 |[]=>aQ _
 |x :: l=>by
  simp only [idx];cases p x
  ·simp [GU p l]
  ·simp
theorem sX {p:Tr→Bool}:∀{l:List Tr} {i:Nat},(∀j x,j<i→l[j]? = some x→p x=false)→(∀x,l[i]? = some x→p x=true)→i≤l.length→idx p l=i
 |[],i,_,_,hi=>by simp at hi;simp [idx,hi]
 |x :: l,0,_,h,_=>by simp [idx,h x rfl]
 |x :: l,i+1,h1,h2,hi=>by
  simp only [idx,h1 0 x (by omega) rfl,cond_false];rw [sX (i:=i) (λj y hj hy=>h1 (j+1) y (by omega) (by simpa using hy)) (λy hy=>h2 y (by simpa using hy)) (by simpa using hi)]
def AV (p:Tr→Bool) (l:List Tr):Int:=if idx p l<l.length then idx p l else -1
theorem GQ (l:List Tr) (n:Int):bJ Tryz.prog 320 [.d (.sl 3 (l.map eE)),.fc 279 [.e [.int .i64 n] 0]] (.d (.int .i64 (AV (λt=>decide (n<t.f)) l))):=by
 refine s320.go (keep:=false) rfl ?_
 repeat' ((conv=>whnf);first | exact zf | refine zm ?_ | intro _)
 refine xm ⟨Nat,λi=>i≤l.length∧∀j x,j<i→l[j]? = some x→decide (n<x.f)=false,λi=>[(0,.d (.sl 3 (l.map eE))),(1,.fc 279 [.e [.int .i64 n] 0]),(7,.d (.int .i64 (l.map eE).length)),(8,.d (.int .i64 i))],λ_=>[],λi=>l.length - i,0,
  ⟨⟨aj _,by simp⟩,⟨rfl,rfl,rfl,rfl,trivial⟩,trivial,rfl⟩,λi ⟨hi,he⟩=>?_⟩
 repeat' ((conv=>whnf);first | exact zf | refine zm ?_ | intro _)
 refine aX (λhlt=>?_) (λhge=>?_)
 ·have hlt:i<l.length:=by simpa using hlt
  obtain ⟨x,hx⟩:∃x,l[i]? = some x:=⟨_,aB hlt⟩
  repeat' ((conv=>whnf);first | exact zf | refine zm ?_ | intro _)
  refine ⟨eE x,⟨by omega,by simp [hx],rfl⟩,?_⟩
  repeat' ((conv=>whnf);first | exact zf | refine zm ?_ | refine zc (Be x n) ?_ | intro _)
  refine aX (λhyes=>?_) (λhno=>?_)
  ·skip
   repeat' ((conv=>whnf);first | exact zf | refine zm ?_ | intro _)
   refine cR (congrArg (λx=>V.d (.int .i64 x)) ?_);have:=sX (p:=λt=>decide (n<t.f)) he (λy hy=>by rw [hx] at hy;cases hy;exact hyes) hi;simp only [AV,this,hlt,if_true]
  ·skip
   repeat' ((conv=>whnf);first | exact zf | refine zm ?_ | intro _)
   refine ⟨i+1,⟨hlt,λj y hj hy=>?_⟩,bE hlt (bN i),⟨rfl,rfl,rfl,rfl,trivial⟩,trivial,rfl⟩
   by_cases hji:j=i
   ·subst hji;rw [hx] at hy;cases hy;exact hno
   ·exact he j y (by omega) hy
 ·have hge:i=l.length:=by
   have:¬i<l.length:=by simpa using hge
   omega
  repeat' ((conv=>whnf);first | exact zf | refine zm ?_ | intro _)
  refine cR (congrArg (λx=>V.d (.int .i64 x)) ?_);have:=sX (p:=λt=>decide (n<t.f)) he (λy hy=>by simp [hge] at hy) hi;simp [AV,this,hge]
end Go.Proofs.YtjpgfgajkjhonaaGreatDoor
namespace Go.Proofs.YtjpgfgajkjhonaaGreatDoor
open Go.Vx
def keep (n:Int) (l:List Tr):List Tr:=l.filter λt=> !(decide (n<t.f))
theorem xx {n:Int}:∀{l:List Tr},idx (λt=>decide (n<t.f)) l=l.length→keep n l=l
 |[],_=>rfl
 |x :: l,h=>by
  simp only [idx] at h;cases hx:decide (n<x.f) with
  |true=>rw [hx] at h;simp at h
  |false=>
   rw [hx] at h;simp only [cond_false,aU,Nat.add_right_cancel_iff] at h;have:=xx h;simp only [keep] at this ⊢;rw [List.filter_cons_of_pos (by simp [hx]),this]
theorem uh {n:Int}:∀{l:List Tr},keep n (l.take (idx (λt=>decide (n<t.f)) l))=l.take (idx (λt=>decide (n<t.f)) l)
 |[]=>rfl
 |x :: l=>by
  simp only [idx];cases hx:decide (n<x.f) with
  |true=>rfl
  |false=>
   simp only [cond_false,dV];have:=uh (n:=n) (l:=l);simp only [keep] at this ⊢;rw [List.filter_cons_of_pos (by simp [hx]),this]
theorem GV {n:Int}:∀{l:List Tr} {x:Tr},l[idx (λt=>decide (n<t.f)) l]? = some x→decide (n<x.f)=true
 |[],_,h=>by simp at h
 |y :: l,x,h=>by
  simp only [idx] at h;cases hy:decide (n<y.f) with
  |true=>rw [hy] at h;simp at h;subst h;exact hy
  |false=>rw [hy] at h;exact GV (by simpa using h)
theorem pz {n:Int} {l:List Tr} {j:Nat} {x:Tr} (h:l[j]? = some x):keep n (l.take (j+1))=keep n (l.take j)++(bif decide (n<x.f) then [] else [x]):=by
 rw [cF,h];simp only [keep,List.filter_append,Option.toList];cases hx:decide (n<x.f)<;>simp [hx]
theorem Dm {K:Out→H→Prop} (l:List Tr) (n:Int) (hl:l.length<1000000000) (hk:K (.ret (.d (.sl 3 ((keep n l).map eE)))) [.no,.cells [.d (.int .i64 n)]]):Sat Tryz.prog 277 [.os 0,.fc 279 [.p 1 0]] [.rows 3 (l.map eE),.cells [.d (.int .i64 n)]] K:=by
 refine s277.go (keep:=false) rfl ?_;have hle:=GU (λt=>decide (n<t.f)) l;have hst:=λx=>GV (n:=n) (l:=l) (x:=x)
 repeat' ((conv=>whnf);first | exact zf | refine zm ?_ | intro _)
 refine .inl ⟨_,GQ l n,rfl,?_⟩
 repeat' ((conv=>whnf);first | exact zf | refine zm ?_ | intro _)
 refine aX (λhno=>?_) (λhyes=>?_)
 ·have hall:keep n l=l:=by
   refine xx ?_
   by_cases h:idx (λt=>decide (n<t.f)) l<l.length
   ·simp [AV,h] at hno
   ·omega
  repeat' ((conv=>whnf);first | exact zf | refine zm ?_ | intro _)
  rw [hall] at hk;exact hk
 ·have hlt:idx (λt=>decide (n<t.f)) l<l.length:=by
   by_cases h:idx (λt=>decide (n<t.f)) l<l.length
   ·exact h
   ·simp [AV,h] at hyes
  have hix:AV (λt=>decide (n<t.f)) l=(idx (λt=>decide (n<t.f)) l:Nat):=by simp [AV,hlt]
  rw [hix];generalize AW:idx (λt=>decide (n<t.f)) l=i0 at *
  repeat' ((conv=>whnf);first | exact zf | refine zm ?_ | intro _)
  have hkt:=uh (n:=n) (l:=l);rw [AW] at hkt;obtain ⟨x0,hx0⟩:∃x,l[i0]? = some x:=⟨_,aB hlt⟩
  refine xm ⟨Nat×Nat×List Tr,λ(j,i,m)=>m.length=l.length∧i<j∧j≤l.length∧m.take i=keep n (l.take j)∧m.drop j=l.drop j,
   λ(j,i,_)=>[(0,.os 0),(1,.fc 279 [.p 1 0]),(5,.d (.int .i64 i)),(6,.d (.int .i64 j))],λ(_,_,m)=>[.rows 3 (m.map eE),.cells [.d (.int .i64 n)]],λ(j,_,_)=>l.length - j,(i0+1,i0,l),
   ⟨⟨rfl,by omega,hlt,by rw [pz hx0,hkt,hst x0 hx0];simp,rfl⟩,⟨rfl,rfl,rfl,rfl,trivial⟩,⟨rfl,.inl rfl,trivial⟩,rfl⟩,λ(j,i,m) ⟨h1,h2,h3,h4,h5⟩=>?_⟩
  repeat' ((conv=>whnf);first | exact zf | refine zm ?_ | intro _)
  refine aX (λhlt=>?_) (λhge=>?_)
  ·have hlt:j<m.length:=by simpa using hlt
   obtain ⟨x,hx⟩:∃x,l[j]? = some x:=⟨_,aB (by omega)⟩
   have hmx:m[j]? = some x:=by
    have:=congrArg (λl=>l[0]?) h5;simpa [ao,hx] using this
   obtain ⟨y,hy⟩:∃y,m[i]? = some y:=⟨_,aB (by omega)⟩
   repeat' ((conv=>whnf);first | exact zf | refine zm ?_ | intro _)
   refine ⟨eE x,by simp [hmx],?_⟩
   repeat' ((conv=>whnf);first | exact zf | refine zm ?_ | intro _)
   refine .inl ⟨_,Be x n,rfl,?_⟩
   repeat' ((conv=>whnf);first | exact zf | refine zm ?_ | intro _)
   refine aX (λhyes=>?_) (λhno=>?_)
   ·skip
    repeat' ((conv=>whnf);first | exact zf | refine zm ?_ | intro _)
    refine ⟨eE y,by simp [hy],⟨rfl,rfl,rfl⟩,?_⟩
    repeat' ((conv=>whnf);first | exact zf | refine zm ?_ | intro _)
    refine ⟨(j+1,i+1,m.set i x),⟨by simp [h1],by omega,by omega,?_,?_⟩,bE (by omega) (bN j),⟨rfl,rfl,rfl,rfl,trivial⟩,⟨?_,.inl rfl,trivial⟩,rfl⟩
    ·rw [pz hx,nt hyes,←h4];simp only [cond_false];rw [cF,List.take_set_of_le (aQ _),b9 (by omega)];rfl
    ·rw [List.drop_set_of_lt (by omega)];have:=congrArg (List.drop 1) h5;simpa [List.drop_drop] using this
    ·show B.rows 3 ((m.map eE).set i (eE x))=B.rows 3 ((m.set i x).map eE);rw [fW]
   ·skip
    repeat' ((conv=>whnf);first | exact zf | refine zm ?_ | intro _)
    refine ⟨(j+1,i,m),⟨h1,by omega,by omega,?_,?_⟩,bE (by omega) (bN j),⟨rfl,rfl,rfl,rfl,trivial⟩,⟨rfl,.inl rfl,trivial⟩,rfl⟩
    ·rw [pz hx,nf hno,h4];simp
    ·have:=congrArg (List.drop 1) h5;simpa [List.drop_drop] using this
  ·have hj:j=l.length:=by
    have:¬j<m.length:=by simpa using hge
    omega
   subst hj;rw [dQ] at h4
   repeat' ((conv=>whnf);first | exact zf | refine zm ?_ | intro _)
   show K (.ret (.d (.sl 3 (List.drop 0 (List.take i (List.take i (m.map eE)++List.replicate ((m.map eE).length - i) [.int .i64 0,.int .i64 0,.int .i64 0])))))) [.no,.cells [.d (.int .i64 n)]];have e:List.drop 0 (List.take i (List.take i (m.map eE)++List.replicate ((m.map eE).length - i) [D.int .i64 0,.int .i64 0,.int .i64 0]))=(keep n l).map eE:=by
    rw [List.drop_zero,List.take_append_of_le_length (by simp;omega),List.take_take,Nat.min_self,←fg,h4]
   rw [e];exact hk
end Go.Proofs.YtjpgfgajkjhonaaGreatDoor
namespace Go.Proofs.YtjpgfgajkjhonaaGreatDoor
open Go.Vx
def num (n:Int):Va:=⟨1,n,[],[],[]⟩
def qO (c:Co) (t:Tr):Bool:=decide (1≤t.f)&&(decide (t.f≤c.fr.length)&&(decide (0≤t.h)&&decide (t.h≤c.st.length)))
def uV (l:List Fr) (i:Nat) (pc:Int):List Fr:=match l[i]? with
 |some f=>l.set i { f with pc:=pc }
 |none=>l
def rW (c:Co) (t:Tr) (code:Int):Co:=⟨uV (gn c.fr t.f) (t.f - 1).toNat t.a,gn c.st t.h ++ [num code],gn c.tr (c.tr.length - 1)⟩
def jb (c:Co) (code kp:Int):V:=
 bif decide ((c.tr.length:Int) - 1<max kp 0) then .tu [gT c,.d (.bool false)] else
 match c.tr.getLast? with
 |none=>.tu [gT c,.d (.bool false)]
 |some t=>bif qO c t then .tu [gT (rW c t code),.d (.bool true)] else .tu [gT c,.d (.bool false)]
theorem JD (c:Co) (code kp:Int) (hf:c.fr.length<1000000000) (hs:c.st.length<1000000000):bJ Tryz.prog 168 [gT c,.d (.int .i64 code),.d (.int .i64 kp)] (jb c code kp):=by
 cases hkp:decide ((c.tr.length:Int) - 1<max kp 0) with
 |true=>
  have hr:jb c code kp = .tu [gT c,.d (.bool false)]:=by simp only [jb,hkp,cond_true]
  have hkp':decide (((c.tr.map eE).length:Int) - 1<max kp 0)=true:=by simpa using hkp
  rw [hr];refine s168.go (keep:=false) rfl ?_
  repeat' ((conv=>whnf);first | exact zf | refine zm ?_ | intro _)
  refine aX (λhkp2=>?_) (λhkp2=>by rw [hkp'] at hkp2;cases hkp2)
  repeat' ((conv=>whnf);first | exact zf | refine zm ?_ | intro _)
 |false=>
  have hkp':decide (((c.tr.map eE).length:Int) - 1<max kp 0)=false:=by simpa using hkp
  have hpos:0<c.tr.length:=by simp at hkp;omega
  obtain ⟨t,ht⟩:∃t,c.tr[c.tr.length - 1]? = some t:=⟨_,aB (by omega)⟩
  have htl:c.tr.getLast? = some t:=by rw [dS];exact ht
  cases hy:qO c t with
  |false=>
   have hr:jb c code kp = .tu [gT c,.d (.bool false)]:=by simp only [jb,hkp,htl,hy,cond_false]
   rw [hr];refine s168.go (keep:=false) rfl ?_
   repeat' ((conv=>whnf);first | exact zf | refine zm ?_ | intro _)
   refine aX (λhkp2=>by rw [hkp'] at hkp2;cases hkp2) (λhkp2=>?_)
   repeat' ((conv=>whnf);first | exact zf | refine zm ?_ | intro _)
   refine ⟨eE t,⟨by simp;omega,by simp [ht],rfl⟩,?_⟩
   repeat' ((conv=>whnf);first | exact zf | refine zm ?_ | refine rN _ (by simp at *;omega) ?_ | refine aX (λhb=>?_) (λhb=>?_) | intro _)
   exfalso;simp [qO] at *;omega
  |true=>
   have hr:jb c code kp = .tu [gT (rW c t code),.d (.bool true)]:=by simp only [jb,hkp,htl,hy,cond_false,cond_true]
   rw [hr];have h1:1≤t.f∧t.f≤c.fr.length∧0≤t.h∧t.h≤c.st.length:=by
    simp [qO] at hy;omega
   obtain ⟨f,hf⟩:∃f,c.fr[(t.f - 1).toNat]? = some f:=⟨_,aB (by omega)⟩
   have hrow:(List.take (min (max t.f 0) (List.map bR c.fr).length).toNat (List.map bR c.fr))[(t.f - 1).toNat]? = some (bR f):=by
    rw [aZ,if_pos (by simp;omega),aC,hf];rfl
   have hfc:(gn c.fr t.f)[(t.f - 1).toNat]? = some f:=by
    unfold gn;rw [aZ,if_pos (by omega),hf]
   have hst:uV (gn c.fr t.f) (t.f - 1).toNat t.a=(gn c.fr t.f).set (t.f - 1).toNat { f with pc:=t.a }:=by simp only [uV,hfc]
   refine s168.go (keep:=false) rfl ?_
   repeat' ((conv=>whnf);first | exact zf | refine zm ?_ | intro _)
   refine aX (λhkp2=>by rw [hkp'] at hkp2;cases hkp2) (λhkp2=>?_)
   repeat' ((conv=>whnf);first | exact zf | refine zm ?_ | intro _)
   refine ⟨eE t,⟨by simp;omega,by simp [ht],rfl⟩,?_⟩
   repeat' ((conv=>whnf);first | exact zf | refine zm ?_ | intro _)
   refine aX (λhb=>absurd hb (by simp;omega)) (λhb=>?_)
   repeat' ((conv=>whnf);first | exact zf | refine zm ?_ | intro _)
   refine aX (λhb=>absurd hb (by simp;omega)) (λhb=>?_)
   repeat' ((conv=>whnf);first | exact zf | refine zm ?_ | intro _)
   refine aX (λhb=>absurd hb (by simp;omega)) (λhb=>?_)
   repeat' ((conv=>whnf);first | exact zf | refine zm ?_ | intro _)
   refine aX (λhb=>absurd hb (by simp;omega)) (λhb=>?_)
   repeat' ((conv=>whnf);first | exact zf | refine zm ?_ | refine rN _ (by simp at *;omega) ?_ | refine zc (CH _ _) ?_ | intro _)
   refine ⟨bR f,hrow,⟨rfl,rfl,rfl⟩,?_⟩
   repeat' ((conv=>whnf);first | exact zf | refine zm ?_ | refine zc (uz _ _) ?_ | refine ⟨_,H4 _ _ _ _ _ _ (by simp;omega),?_⟩ | refine (H4 _ _ _ _ _ _ (by simp;omega)).use ?_ | refine zc (Gz _ _) ?_ | intro _)
   show Out.ret (V.tu [V.ag [V.d (.sl 5 ((gn (c.fr.map bR) t.f).set (t.f - 1).toNat (bR { f with pc:=t.a }))),V.d (.sl 5 (gn (c.st.map cE) t.h ++ [cE (num code)])),V.d (.sl 3 (gn (c.tr.map eE) ((c.tr.map eE).length - 1)))],V.d (.bool true)])=_;rw [gR,gR,gR];simp only [gT,rW,hst,fW,bm,cN,jy,aK]
def n6 (c:Co):Bool:=fB c 1&&decide (0<c.fr.length)
def zeroV:Va:=⟨0,0,[],[],[]⟩
def fw (c:Co):Co:=⟨gn c.fr (c.fr.length - 1),gn c.st (base c),keep (c.fr.length - 1) c.tr⟩
def qe (c:Co):Va:=((kX c 1)[0]?).getD zeroV
def Cy (c:Co):V:=bif n6 c then .tu [gT (fw c),j5 (qe c),.d (.bool true)] else .tu [gT c,j5 zeroV,.d (.bool false)]
theorem FC (c:Co) (hf:c.fr.length<1000000000) (hs:c.st.length<1000000000) (ht:c.tr.length<1000000000):bJ Tryz.prog 223 [gT c] (Cy c):=by
 refine s223.go (keep:=false) rfl ?_;cases hp:fB c 1 with
 |false=>
  have hr:zd c 1 = .tu [gT c,.d (.sl 5 []),.d (.bool false)]:=rC hp;have hpop:=x4 c 1 hs;rw [hr] at hpop
  repeat' ((conv=>whnf);first | exact zf | refine zm ?_ | refine zc hpop ?_ | intro _)
  simp only [Cy,n6,hp,nB,cond_false];rfl
 |true=>
  have hr:zd c 1 = .tu [gT (qf c 1),.d (.sl 5 ((kX c 1).map cE)),.d (.bool true)]:=ko hp;have hpop:=x4 c 1 hs;rw [hr] at hpop
  repeat' ((conv=>whnf);first | exact zf | refine zm ?_ | refine zc hpop ?_ | intro _)
  refine aX (λhz=>?_) (λhz=>?_)
  ·have hz:c.fr.length=0:=by simpa using hz
   have hy:n6 c=false:=by simp [n6,hz]
   repeat' ((conv=>whnf);first | exact zf | refine zm ?_ | intro _)
   simp only [Cy,hy,cond_false];rfl
  ·have hz:0<c.fr.length:=by
    have:¬c.fr.length=0:=by simpa using hz
    omega
   have hy:n6 c=true:=by simp [n6,hz,hp]
   simp only [Cy,hy,cond_true];obtain ⟨f,hf1⟩:∃f,c.fr[c.fr.length - 1]? = some f:=⟨_,aB (by omega)⟩
   have hb:base c=f.ba:=by simp [base,dS,hf1]
   repeat' ((conv=>whnf);first | exact zf | refine zm ?_ | intro _)
   refine ⟨bR f,⟨by simp;omega,by simp [hf1],rfl⟩,?_⟩
   repeat' ((conv=>whnf);first | exact zf | refine zm ?_ | refine zc (uz _ _) ?_ | refine zc (CH _ _) ?_ | refine HK _ (by simp;omega) ?_ | refine Dm _ _ ht ?_ | intro _)
   obtain ⟨v,hv⟩:∃v,(kX c 1)[0]? = some v:=by
    refine ⟨_,aB ?_⟩;simp [kX,fB] at *;omega
   refine ⟨cE v,⟨by omega,by simp [hv],rfl⟩,?_⟩
   repeat' ((conv=>whnf);first | exact zf | refine zm ?_ | intro _)
   refine Eq.trans (show _=Out.ret (V.tu [V.ag [V.d (.sl 5 _),V.d (.sl 5 _),V.d (.sl 3 _)],V.ag [V.d _,V.d _,V.d _,V.d _,V.d _],V.d (.bool true)]) from rfl) ?_;show Out.ret (V.tu [V.ag [V.d (.sl 5 (gn (c.fr.map bR) ((c.fr.map bR).length - 1))),V.d (.sl 5 (gn (c.st.map cE) f.ba)),V.d (.sl 3 ((keep ((c.fr.map bR).length - 1) c.tr).map eE))],j5 v,V.d (.bool true)])=_;rw [gR,gR];simp only [gT,fw,qe,hv,hb,aK,b7]
def qM (n:Nat):List Va:=List.replicate n (num 0)
def da (c:Co):Bool:=decide (c.fr.length<16)
def f_ (c:Co) (fn vs:Int) (l:List Va) (ma:Int):Co:=⟨c.fr ++ [⟨fn,0,c.st.length,ma,l++qM (min (max vs 0) 16).toNat⟩],c.st,c.tr⟩
def l8 (c:Co) (fn vs:Int) (l:List Va) (ma:Int):V:=bif da c then .tu [gT (f_ c fn vs l ma),.d (.bool true)] else .tu [gT c,.d (.bool false)]
theorem kN (c:Co) (fn vs:Int) (l:List Va) (ma:Int) (hf:c.fr.length<1000000000) (ha:l.length<1000000000):bJ Tryz.prog 20 [gT c,.d (.int .i64 fn),.d (.int .i64 vs),.d (.sl 5 (l.map cE)),.d (.int .u8 ma)] (l8 c fn vs l ma):=by
 refine s20.go (keep:=false) rfl ?_
 repeat' ((conv=>whnf);first | exact zf | refine zm ?_ | intro _)
 refine aX (λhno=>?_) (λhyes=>?_)
 ·have hno:16≤(c.fr.length:Int):=by simpa using hno
  repeat' ((conv=>whnf);first | exact zf | refine zm ?_ | intro _)
  have hy:da c=false:=by simp [da];omega
  simp only [l8,hy,cond_false];rfl
 ·have hyes:(c.fr.length:Int)<16:=by simpa using hyes
  have hy:da c=true:=by simp [da];omega
  have hr:l8 c fn vs l ma = .tu [gT (f_ c fn vs l ma),.d (.bool true)]:=by simp only [l8,hy,cond_true]
  rw [hr]
  repeat' ((conv=>whnf);first | exact zf | refine zm ?_ | refine rO _ (by simp;omega) ?_ | intro _)
  conv=>whnf
  refine Fq [12,18,19,23,24,25,26,27,28,29] (λp:Nat×List Va=>p.1≤(min (max vs 0) 16).toNat∧p.2=l++qM p.1) (λp=>[(12,.os 2),(23,.d (.int .i64 p.1))]) (λp=>[.cells [.d (.sl 5 (c.fr.map bR)),.d (.sl 5 (c.st.map cE)),.d (.sl 3 (c.tr.map eE))],.cells [.nl 5,.nl 5,.nl 3],.rows 5 (p.2.map cE)]) (λp=>(min (max vs 0) 16).toNat - p.1) (0,l) ⟨aj _,by simp [qM]⟩ ?_ ?_ ?_ (λ⟨i,r⟩ ⟨hi,hr⟩=>?_)
  ·exact zzz
  ·exact zzz
  ·exact rfl
  repeat' ((conv=>whnf);first | exact zf | refine zm ?_ | intro _)
  refine aX (λhlt=>?_) (λhge=>?_)
  ·have hlt:i<(min (max vs 0) 16).toNat:=by simp at hlt;omega
   have hrl:r.length<1000000100:=by simp at hr;simp [hr,qM];omega
   repeat' ((conv=>whnf);first | exact zf | refine zm ?_ | intro _)
   refine ⟨(i+1,r ++ [num 0]),⟨hlt,?_⟩,bE hlt (bN i),zzz,?_,rfl⟩
   ·simp at hr;simp [hr,qM,List.replicate_succ']
   ·refine ⟨.inl rfl,.inl rfl,?_,trivial⟩;simp [cE,num];rfl
  ·have hge:i=(min (max vs 0) 16).toNat:=by simp at hge hi;omega
   repeat' ((conv=>whnf);first | exact zf | refine zm ?_ | intro _)
   conv=>whnf
   refine .inr ?_
   repeat' ((conv=>whnf);first | exact zf | refine zm ?_ | refine ⟨_,MG _ _ _ _ _ _ (by simp;omega),?_⟩ | refine (MG _ _ _ _ _ _ (by simp;omega)).use ?_ | intro _)
   show Out.ret (V.tu [V.ag [V.d (.sl 5 (c.fr.map bR ++ [[.int .i64 fn,.int .i64 0,.int .i64 (c.st.map cE).length,.int .u8 ma,.sl 5 (r.map cE)]])),V.d (.sl 5 (c.st.map cE)),V.d (.sl 3 (c.tr.map eE))],V.d (.bool true)])=_;simp at hr;simp [gT,f_,bR,hr,hge]
end Go.Proofs.YtjpgfgajkjhonaaGreatDoor
namespace Go.Proofs.YtjpgfgajkjhonaaGreatDoor
open Go.Vx
set_option maxRecDepth 100000
structure Sc where
  nm:List UInt8
  l:Lb
  un:Int
  fr:Int
  he:Int
  tr:Int
  g:Gs
  pa:List UInt8
  ma:Int
  ro:Int
def ek (s:Sc):List D:=[.str s.nm,.str s.l.s,.str s.l.i,.int .i64 s.un,.int .i64 s.fr,.int .i64 s.he,.int .i64 s.tr,.str s.g.cur.s,.str s.g.cur.i,.str s.g.eo.s,.str s.g.eo.i,.str s.pa,.int .i64 s.ma,.int .i64 s.ro]
def UL (s:Sc):V:=.ag ((ek s).map .d)
structure Th where
  id:List UInt8
  pa:List UInt8
  g:Gs
  c:Co
  sc:List Sc
  ma:Int
  ro:Int
  st:Int
  on:List UInt8
  v:Va
  ex:Bool
def gX (t:Th):List D:=[.str t.id,.str t.pa,.str t.g.cur.s,.str t.g.cur.i,.str t.g.eo.s,.str t.g.eo.i,.sl 5 (t.c.fr.map bR),.sl 5 (t.c.st.map cE),.sl 3 (t.c.tr.map eE),.sl 14 (t.sc.map ek),.int .i64 t.ma,.int .i64 t.ro,.int .i64 t.st,.str t.on,
 .int .i64 t.v.k,.int .i64 t.v.n,.str t.v.nm,.str t.v.ls,.str t.v.li,.bool t.ex]
def eu (t:Th):V:=.ag ((gX t).map .d)
def dT:Va:=⟨0,0,[],[],[]⟩
def n7:Lb:=⟨[],[]⟩
def R1:Gs:=⟨n7,n7⟩
def Fa:Sc:=⟨[],n7,0,0,0,0,R1,[],0,0⟩
def xe (id:List UInt8) (g:Gs) (c:Co) (ro:Int):Th:=⟨id,id,g,c,[],0,ro,0,[],dT,false⟩
theorem Fh (id:List UInt8) (g:Gs) (c:Co) (ro:Int):bJ Tryz.prog 22 [.d (.str id),EN g,gT c,.d (.int .i64 ro)] (eu (xe id g c ro)):=by
 refine s22.go (keep:=false) rfl ?_
 repeat' ((conv=>whnf);first | exact zf | refine zm ?_ | intro _)
def C0 (t:Th):V:=.ag [.d (.sl 14 (t.sc.map ek)),.d (.str t.g.cur.s),.d (.str t.g.cur.i)]
theorem BX (t:Th):bJ Tryz.prog 40 [eu t] (C0 t):=by
 refine s40.go (keep:=false) rfl ?_
 repeat' ((conv=>whnf);first | exact zf | refine zm ?_ | intro _)
def bQ (t:Th):Sc:=t.sc.getLast?.getD Fa
theorem GN (t:Th):bJ Tryz.prog 104 [C0 t] (.tu [UL (bQ t),.d (.bool (!t.sc.isEmpty))]):=by
 have hl:(t.sc.map ek).length=t.sc.length:=aK _;cases hs:t.sc.getLast? with
 |none=>
  have h0:t.sc = []:=List.getLast?_eq_none_iff.1 hs;unfold bQ C0;rw [hs,h0];refine s104.go (keep:=false) rfl ?_
  repeat' ((conv=>whnf);first | exact zf | refine zm ?_ | refine zt ?_ | refine zu ?_ | intro _)
 |some s=>
  have hne:t.sc≠[]:=by intro h;rw [h] at hs;cases hs
  have hpos:0<t.sc.length:=fp.2 hne;have hem:t.sc.isEmpty=false:=by rw [List.isEmpty_eq_false_iff];exact hne
  have hget:(t.sc.map ek)[t.sc.length - 1]? = some (ek s):=by
   rw [aC,←dS,hs];rfl
  unfold bQ;rw [hs,hem];refine s104.go (keep:=false) rfl ?_;have hn:(((t.sc.map ek).length:Int) - 1).toNat=t.sc.length - 1:=by omega
  repeat' ((conv=>whnf);first | exact zf | refine zm ?_ | refine (.inl ⟨by unfold eW;omega,?_⟩) | refine ⟨ek s,⟨by omega,by rw [hn];exact hget,rfl⟩,?_⟩ | refine zt ?_ | refine zu ?_ | intro _)
theorem wK (t:Th):bJ Tryz.prog 70 [eu t] (.tu [.d (.int .i64 (bQ t).fr),.d (.int .i64 (bQ t).tr)]):=by
 have h1:=BX t;have h2:=GN t;refine s70.go (keep:=false) rfl ?_
 repeat' ((conv=>whnf);first | exact zf | refine zm ?_ | refine zc h1 ?_ | refine zc h2 ?_ | intro _)
def gQ (now:Int):List Sc→Nat
 |[]=>0
 |s :: r=>bif decide (s.un≤now) then 0 else gQ now r+1
def Af (t:Th) (now:Int):Int:=if gQ now t.sc<t.sc.length then gQ now t.sc else -1
theorem qC {now:Int}:∀{l:List Sc} {i:Nat},(∀s∈l.take i,¬s.un≤now)→i≤l.length→gQ now l=i+gQ now (l.drop i)
 |l,0,_,_=>by simp
 |[],i+1,_,h=>by simp at h
 |s :: l,i+1,h,hi=>by
  rw [gQ,decide_eq_false (h s (by simp)),cond_false,ly,qC (i:=i) (λx hx=>h x (by rw [dV];exact cM _ hx)) (by simpa using hi)];omega
theorem CB (now:Int):∀l:List Sc,gQ now l≤l.length
 |[]=>aQ _
 |s :: l=>by
  have:=CB now l;rw [gQ];cases decide (s.un≤now)<;>simp<;>omega
theorem Ru (t:Th) (now:Int):bJ Tryz.prog 41 [C0 t,.d (.int .i64 now)] (.d (.int .i64 (Af t now))):=by
 have hl:(t.sc.map ek).length=t.sc.length:=aK _;refine s41.go (keep:=false) rfl ?_
 repeat' ((conv=>whnf);first | exact zf | refine zm ?_ | intro _)
 conv=>whnf
 refine bV [(1,.d (.int .i64 now)),(8,.d (.sl 14 (t.sc.map ek))),(9,.d (.int .i64 (t.sc.map ek).length))] (λi:Nat=>i≤t.sc.length∧∀s∈t.sc.take i,¬s.un≤now) (λi=>[(10,.d (.int .i64 i))]) (λ_=>[]) (λi=>t.sc.length - i) 0 ⟨aj _,λ_ h=>nomatch h⟩ ?_ ?_ ?_ (λi hi=>?_)
 ·exact zzz
 ·exact zzz
 ·exact rfl
 repeat' ((conv=>whnf);first | exact zf | refine zm ?_ | intro _)
 refine aX (λhlt=>?_) (λhge=>?_)
 ·have hlt:i<t.sc.length:=by rw [←hl];simpa using hlt
  obtain ⟨s,hs⟩:∃s,t.sc[i]? = some s:=⟨_,aB hlt⟩
  have htk:t.sc.take (i+1)=t.sc.take i ++ [s]:=by rw [cF,hs];rfl
  have hdr:t.sc.drop i=s :: t.sc.drop (i+1):=by
   rw [bP hlt];rw [aB hlt] at hs;rw [ak hs]
  have hk:=qC hi.2 hi.1;rw [hdr,gQ] at hk
  repeat' ((conv=>whnf);first | exact zf | refine zm ?_ | intro _)
  refine ⟨ek s,⟨by omega,by simp [hs],rfl⟩,?_⟩
  repeat' ((conv=>whnf);first | exact zf | refine zm ?_ | intro _)
  refine aX (λhy=>?_) (λhn=>?_)
  ·skip
   repeat' ((conv=>whnf);first | exact zf | refine zm ?_ | intro _)
   refine cR (congrArg (λx=>V.d (D.int .i64 x)) ?_);rw [show decide (s.un≤now)=true from hy,cond_true] at hk;unfold Af;rw [hk,if_pos (by omega)];simp
  ·skip
   repeat' ((conv=>whnf);first | exact zf | refine zm ?_ | intro _)
   refine ⟨i+1,⟨hlt,?_⟩,bE hlt (bN i),zzz,zzz,rfl⟩;rw [htk];intro x hx;exact (aR.1 hx).elim (hi.2 x) λh=>by rw [aP.1 h];exact of_decide_eq_false hn
 ·have hge:i=t.sc.length:=by
   have:¬i<t.sc.length:=by rw [←hl];simpa using hge
   omega
  have hk:=qC hi.2 hi.1;rw [hge,ke] at hk;have:Af t now = -1:=by unfold Af;rw [hk,if_neg (by simp [gQ])]
  rw [this]
  repeat' ((conv=>whnf);first | exact zf | refine zm ?_ | intro _)
theorem Lx (t:Th) (now:Int):bJ Tryz.prog 11 [eu t,.d (.int .i64 now)] (.d (.int .i64 (Af t now))):=by
 have h1:=BX t;have h2:=Ru t now;refine s11.go (keep:=false) rfl ?_
 repeat' ((conv=>whnf);first | exact zf | refine zm ?_ | refine zc h1 ?_ | refine zc h2 ?_ | intro _)
def eX (t:Th) (v:Va) (ex:Bool):Th:={ t with st:=bif !t.sc.isEmpty then 2 else bif ex then 4 else 3,v:=v,ex:=ex,on:=[] }
theorem qA (t:Th) (v:Va) (ex:Bool):bJ Tryz.prog 110 [eu t,j5 v,.d (.bool ex)] (eu (eX t v ex)):=by
 have hl:(t.sc.map ek).length=t.sc.length:=aK _;unfold eX;cases he:t.sc.isEmpty with
 |true=>
  have h0:t.sc = []:=gD.1 he;cases ex<;>refine s110.go (keep:=false) rfl ?_
  ·skip
   repeat' ((conv=>whnf);first | exact zf | refine zm ?_ | refine zt ?_ | refine zu ?_ | intro _)
  ·skip
   repeat' ((conv=>whnf);first | exact zf | refine zm ?_ | refine zt ?_ | refine zu ?_ | intro _)
 |false=>
  have hpos:0<t.sc.length:=fp.2 (by simpa using he);refine s110.go (keep:=false) rfl ?_
  repeat' ((conv=>whnf);first | exact zf | refine zm ?_ | refine zt ?_ | refine zu ?_ | intro _)
structure Wt where
  id:List UInt8
  put:Bool
  v:Va
def eL (x:Wt):List D:=[.str x.id,.bool x.put,.int .i64 x.v.k,.int .i64 x.v.n,.str x.v.nm,.str x.v.ls,.str x.v.li]
structure Vr where
  full:Bool
  v:Va
  q:List Wt
structure Ob where
  k:Int
  l:Lb
  v:Va
  ex:Bool
  dn:Bool
  va:Vr
  fu:Int
  ma:Int
def fF (o:Ob):List D:=[.int .i64 o.k,.str o.l.s,.str o.l.i,.int .i64 o.v.k,.int .i64 o.v.n,.str o.v.nm,.str o.v.ls,.str o.v.li,.bool o.ex,.bool o.dn,.bool o.va.full,
 .int .i64 o.va.v.k,.int .i64 o.va.v.n,.str o.va.v.nm,.str o.va.v.ls,.str o.va.v.li,.sl 7 (o.va.q.map eL),.int .i64 o.fu,.int .u8 o.ma]
def gH (o:Ob):V:=.ag ((fF o).map .d)
def zw:Vr:=⟨false,dT,[]⟩
def fO:Ob:=⟨0,n7,dT,false,false,zw,0,0⟩
def jh (t:Th):Th:={ t with ma:=t.ma+1,ro:=t.ro - 1 }
theorem rF (t:Th) (l:List Nat) (n:Nat) (hp:t.pa=cr l) (hm:t.ma=n) (h0:l≠[]) (hl:l.length<24) (hs:∀n∈l,n<100) (hn:n<100) (hr:1≤t.ro) (hr2:t.ro<1000000000) :
  bJ Tryz.prog 292 [eu t] (.tu [eu (jh t),.d (.str (cr (l ++ [n]))),.d (.bool true)]):=by
 have h1:=HM l n h0 hl hs hn;rw [←hp,←hm] at h1;refine s292.go (keep:=false) rfl ?_
 repeat' ((conv=>whnf);first | exact zf | refine zm ?_ | refine zc h1 ?_ | refine (.inl ⟨by unfold eW;omega,?_⟩) | refine zt ?_ | refine zu ?_ | intro _)
theorem xh (t:Th) (hr:t.ro<1):bJ Tryz.prog 292 [eu t] (.tu [eu t,.d (.str []),.d (.bool false)]):=by
 refine s292.go (keep:=false) rfl ?_
 repeat' ((conv=>whnf);first | exact zf | refine zm ?_ | refine zt ?_ | refine zu ?_ | intro _)
theorem PE (l:List (List D)):bJ Tryz.prog 49 [.d (.sl 5 l)] (.cl 5 l):=by
 refine s49.go (keep:=false) rfl ?_
 repeat' ((conv=>whnf);first | exact zf | refine zm ?_ | intro _)
 exact cR (congrArg (V.cl 5) (by show List.drop 0 (List.take ((l.length:Int)).toNat l)=l;simp))
theorem HL (l:List (List D)):bJ Tryz.prog 58 [.d (.sl 14 l)] (.cl 14 l):=by
 refine s58.go (keep:=false) rfl ?_
 repeat' ((conv=>whnf);first | exact zf | refine zm ?_ | intro _)
 exact cR (congrArg (V.cl 14) (by show List.drop 0 (List.take ((l.length:Int)).toNat l)=l;simp))
def uM (t:Th) (l:List Va):Th:={ t with st:=0,on:=[],c:=⟨t.c.fr,t.c.st++l,t.c.tr⟩ }
theorem MR (t:Th) (l:List Va) (hl:l.length<1000000000) (hs:t.c.st.length<1000000000):bJ Tryz.prog 15 [eu t,.d (.sl 5 (l.map cE))] (eu (uM t l)):=by
 have h1:=PE (t.c.st.map cE);have e1:(t.c.st.map cE).length=t.c.st.length:=aK _;have e2:(l.map cE).length=l.length:=aK _;have e3:(t.c.st++l).map cE=t.c.st.map cE++l.map cE:=bm;unfold uM eu gX;simp only [e3];refine s15.go (keep:=false) rfl ?_
 repeat' ((conv=>whnf);first | exact zf | refine zm ?_ | refine zc h1 ?_ | intro _)
def jD (t:Th) (k:Nat):Va×Bool:=
 bif !(t.st==2) || !((k:Int)==(t.sc.length:Int) - 1) then (num (-7),true) else
 bif !bA t.g.cur ((t.sc[k]?).getD Fa).l then (num (-3),true) else (t.v,t.ex)
theorem Dz (t:Th) (k:Nat) (hk:k<t.sc.length) (hc:cO t.g.cur) (hl:cO ((t.sc[k]?).getD Fa).l) (hn:t.sc.length<1000000000) :
  bJ Tryz.prog 68 [eu t,.d (.int .i64 k)] (.tu [j5 (jD t k).1,.d (.bool (jD t k).2)]):=by
 have e1:(t.sc.map ek).length=t.sc.length:=aK _;obtain ⟨s,hs⟩:∃s,t.sc[k]? = some s:=⟨_,aB hk⟩
 rw [hs,b7] at hl;have hf:=gG t.g.cur s.l hc hl;unfold jD;rw [hs,b7];cases h1:t.st==2 with
 |false=>
  refine s68.go (keep:=false) rfl ?_
  repeat' ((conv=>whnf);first | exact zf | refine zm ?_ | refine zt ?_ | refine zu ?_ | intro _)
 |true=>
  cases h2:(k:Int)==(t.sc.length:Int) - 1 with
  |false=>
   refine s68.go (keep:=false) rfl ?_
   repeat' ((conv=>whnf);first | exact zf | refine zm ?_ | refine zt ?_ | refine zu ?_ | intro _)
  |true=>
   cases h3:bA t.g.cur s.l with
   |false=>
    rw [h3] at hf;refine s68.go (keep:=false) rfl ?_
    repeat' ((conv=>whnf);first | exact zf | refine zm ?_ | refine zc hf ?_ | refine ⟨ek s,⟨by omega,by simp [hs],rfl⟩,?_⟩ | refine zt ?_ | refine zu ?_ | intro _)
   |true=>
    rw [h3] at hf;refine s68.go (keep:=false) rfl ?_
    repeat' ((conv=>whnf);first | exact zf | refine zm ?_ | refine zc hf ?_ | refine ⟨ek s,⟨by omega,by simp [hs],rfl⟩,?_⟩ | refine zt ?_ | refine zu ?_ | intro _)
theorem Ry (c:Co) (f h t:Int):bJ Tryz.prog 59 [gT c,.d (.int .i64 f),.d (.int .i64 h),.d (.int .i64 t)] (gT (Du c f h t)):=by
 have h1:=CH (c.fr.map bR) f;have h2:=uz (c.st.map cE) h;have h3:=Gz (c.tr.map eE) t;have e1:=gR bR c.fr f;have e2:=gR cE c.st h;have e3:=gR eE c.tr t;unfold gT Du;simp only [←e1,←e2,←e3];refine s59.go (keep:=false) rfl ?_
 repeat' ((conv=>whnf);first | exact zf | refine zm ?_ | refine zc h1 ?_ | refine zc h2 ?_ | refine zc h3 ?_ | intro _)
def sL (t:Th) (k:Nat) (s:Sc):Ob:={ fO with k:=3,l:=s.l,v:=(jD t k).1,ex:=(jD t k).2 }
def v_ (t:Th) (k:Nat) (s:Sc):Th:={ t with sc:=t.sc.take k,g:=s.g,pa:=s.pa,ma:=s.ma,ro:=s.ro,c:=jS (Du t.c s.fr s.he s.tr) ⟨3,0,s.nm,s.l.s,s.l.i⟩,st:=0,on:=[],v:=dT,ex:=false }
set_option maxHeartbeats 1000000 in
theorem KC (t:Th) (k:Nat) (s:Sc) (hs:t.sc[k]? = some s) (hc:cO t.g.cur) (hl:cO s.l) (hn:t.sc.length<1000000000) (hst:t.c.st.length<1000000000) :
  bJ Tryz.prog 33 [eu t,.d (.int .i64 k)] (.tu [eu (v_ t k s),.d (.str s.nm),gH (sL t k s)]):=by
 have hk:=(aA.1 hs).1;have e1:(t.sc.map ek).length=t.sc.length:=aK _;have h1:=Dz t k hk hc (by rw [hs];exact hl) hn;have h2:=HL ((t.sc.map ek).take k);have h3:=Ry t.c s.fr s.he s.tr;have h4:=rz (Du t.c s.fr s.he s.tr) ⟨3,0,s.nm,s.l.s,s.l.i⟩ (by
  unfold Du gn;rw [ah];omega)
 have e2:(t.sc.take k).map ek=(t.sc.map ek).take k:=fg;generalize hb:jD t k=b at h1;unfold sL v_;rw [hb];unfold eu gX;simp only [e2];refine s33.go (keep:=false) rfl ?_
 repeat' ((conv=>whnf);first | exact zf | refine zm ?_ | refine zc h1 ?_ | refine zc h2 ?_ | refine zc h3 ?_ | refine zc h4 ?_ | refine ⟨ek s,⟨by omega,by simp [hs],rfl⟩,?_⟩ | refine zt ?_ | refine zu ?_ | intro _)
def oO (t:Th) (l:Lb) (tk ro now:Int) (nm:List UInt8):Sc:=⟨nm,eC l,now+tk,t.c.fr.length,t.c.st.length,t.c.tr.length,t.g,t.pa,t.ma+1,t.ro - 1 - ro⟩
def Ad (t:Th) (fn vs:Int) (a:Va) (mk:Int) (l:Lb) (tk ro now:Int) (nm:List UInt8):Th:=
 { t with sc:=t.sc ++ [oO t l tk ro now nm],c:=f_ t.c fn vs [a] mk,g:=⟨t.g.cur,eC l⟩,pa:=nm,ma:=0,ro:=ro }
def c_ (t:Th) (l:Lb) (tk ro:Int):Int:=
 if tk<1∨1000<tk then -7 else if ro<0∨999<ro then -5 else if bS t.g l≠0 then bS t.g l else if t.ro≤ro then -5 else if da t.c=false then -6 else 0
section
variable (t:Th) (fn vs:Int) (a:Va) (mk:Int) (l:Lb) (tk ro now:Int)
def iJ:Prop:=bJ Tryz.prog 254 [eu t,.d (.int .i64 fn),.d (.int .i64 vs),j5 a,.d (.int .u8 mk),jU l,.d (.int .i64 tk),.d (.int .i64 ro),.d (.int .i64 now)] (.tu [eu t,.d (.int .i64 (c_ t l tk ro))])
theorem yJ (h:tk<1∨1000<tk):iJ t fn vs a mk l tk ro now:=by
 unfold iJ c_;rw [if_pos h];rcases h with h | h
 ·refine s254.go (keep:=false) rfl ?_
  repeat' ((conv=>whnf);first | exact zf | refine zm ?_ | refine zt ?_ | refine zu ?_ | intro _)
 ·refine s254.go (keep:=false) rfl ?_
  repeat' ((conv=>whnf);first | exact zf | refine zm ?_ | refine zt ?_ | refine zu ?_ | intro _)
theorem Ac (h0:¬(tk<1∨1000<tk)) (h:ro<0∨999<ro):iJ t fn vs a mk l tk ro now:=by
 unfold iJ c_;rw [if_neg h0,if_pos h];rcases h with h | h
 ·refine s254.go (keep:=false) rfl ?_
  repeat' ((conv=>whnf);first | exact zf | refine zm ?_ | refine zt ?_ | refine zu ?_ | intro _)
 ·refine s254.go (keep:=false) rfl ?_
  repeat' ((conv=>whnf);first | exact zf | refine zm ?_ | refine zt ?_ | refine zu ?_ | intro _)
theorem yI (hg:jH t.g) (hl:cO l) (h0:¬(tk<1∨1000<tk)) (h1:¬(ro<0∨999<ro)) (h:bS t.g l≠0):iJ t fn vs a mk l tk ro now:=by
 have hw:=fR t.g l hg hl;unfold iJ c_;rw [if_neg h0,if_neg h1,if_pos h];refine s254.go (keep:=false) rfl ?_
 repeat' ((conv=>whnf);first | exact zf | refine zm ?_ | refine zc hw ?_ | refine zt ?_ | refine zu ?_ | intro _)
theorem yK (hg:jH t.g) (hl:cO l) (h0:¬(tk<1∨1000<tk)) (h1:¬(ro<0∨999<ro)) (h:bS t.g l=0) (h2:t.ro≤ro) (p:List Nat) (n:Nat) (hp:t.pa=cr p) (hm:t.ma=n) (hp0:p≠[]) (hpl:p.length<24) (hps:∀n∈p,n<100) (hn:n<100):iJ t fn vs a mk l tk ro now:=by
 have hw:=fR t.g l hg hl;rw [h] at hw;unfold iJ c_;rw [if_neg h0,if_neg h1,if_neg (by simp [h]),if_pos h2]
 by_cases hr:t.ro<1
 ·have hnm:=xh t hr;refine s254.go (keep:=false) rfl ?_
  repeat' ((conv=>whnf);first | exact zf | refine zm ?_ | refine zc hw ?_ | refine zc hnm ?_ | refine zt ?_ | refine zu ?_ | intro _)
 ·have hnm:=rF t p n hp hm hp0 hpl hps hn (by omega) (by omega);refine s254.go (keep:=false) rfl ?_
  repeat' ((conv=>whnf);first | exact zf | refine zm ?_ | refine zc hw ?_ | refine zc hnm ?_ | refine zt ?_ | refine zu ?_ | intro _)
theorem yL (hg:jH t.g) (hl:cO l) (h0:¬(tk<1∨1000<tk)) (h1:¬(ro<0∨999<ro)) (h:bS t.g l=0) (h2:¬t.ro≤ro) (hr2:t.ro<1000000000) (p:List Nat) (n:Nat) (hp:t.pa=cr p) (hm:t.ma=n) (hp0:p≠[]) (hpl:p.length<24) (hps:∀n∈p,n<100) (hn:n<100)
  (hf:t.c.fr.length<1000000000) (h3:da t.c=false):iJ t fn vs a mk l tk ro now:=by
 have hw:=fR t.g l hg hl;rw [h] at hw;have hnm:=rF t p n hp hm hp0 hpl hps hn (by omega) hr2;have he:=kN t.c fn vs [a] mk hf (by simp);unfold l8 at he;rw [h3] at he;unfold iJ c_;rw [if_neg h0,if_neg h1,if_neg (by simp [h]),if_neg h2,if_pos h3];refine s254.go (keep:=false) rfl ?_
 repeat' ((conv=>whnf);first | exact zf | refine zm ?_ | refine zc hw ?_ | refine zc hnm ?_ | refine zc he ?_ | refine zt ?_ | refine zu ?_ | intro _)
set_option maxHeartbeats 2000000 in
theorem sr (hg:jH t.g) (hl:cO l) (h0:¬(tk<1∨1000<tk)) (h1:¬(ro<0∨999<ro)) (h:bS t.g l=0) (h2:¬t.ro≤ro) (hr2:t.ro<1000000000) (p:List Nat) (n:Nat) (hp:t.pa=cr p) (hm:t.ma=n) (hp0:p≠[]) (hpl:p.length<24) (hps:∀n∈p,n<100) (hn:n<100)
  (hf:t.c.fr.length<1000000000) (hsc:t.sc.length<1000000000) (hw0:0≤now∧now<1000000000) (h3:da t.c=true) :
  bJ Tryz.prog 254 [eu t,.d (.int .i64 fn),.d (.int .i64 vs),j5 a,.d (.int .u8 mk),jU l,.d (.int .i64 tk),.d (.int .i64 ro),.d (.int .i64 now)] (.tu [eu (Ad t fn vs a mk l tk ro now (cr (p ++ [n]))),.d (.int .i64 0)]):=by
 have hw:=fR t.g l hg hl;rw [h] at hw;have hnm:=rF t p n hp hm hp0 hpl hps hn (by omega) hr2;have he:=kN t.c fn vs [a] mk hf (by simp);unfold l8 at he;rw [h3] at he;have hnr:(jh t).ro=t.ro - 1:=rfl;have hno:=jg l hl;have iP:=HL (t.sc.map ek);have e1:(t.sc.map ek).length=t.sc.length:=aK _;have e2:(t.sc ++ [oO t l tk ro now (cr (p ++ [n]))]).map ek=t.sc.map ek ++ [ek (oO t l tk ro now (cr (p ++ [n])))]:=by simp
 have e3:((t.c.fr.map bR).length:Int)=t.c.fr.length:=by simp
 have e4:((t.c.st.map cE).length:Int)=t.c.st.length:=by simp
 have e5:((t.c.tr.map eE).length:Int)=t.c.tr.length:=by simp
 unfold Ad eu gX;simp only [e2];unfold oO;rw [←e3,←e4,←e5];refine s254.go (keep:=false) rfl ?_
 repeat' ((conv=>whnf);first | exact zf | refine zm ?_ | refine zc hw ?_ | refine zc hnm ?_ | refine zc he ?_ | refine zc hno ?_ | refine zc iP ?_ | refine (.inl ⟨by unfold eW;omega,?_⟩) | refine zt ?_ | refine zu ?_ | intro _)
 trace_state
end
end Go.Proofs.YtjpgfgajkjhonaaGreatDoor
