/- Lemmas. Conditions: none. -/
import Derived.Test.YtjpgfgajkjhonaaGreatDoorQHAW
set_option maxHeartbeats 4000000
namespace Go.Proofs.YtjpgfgajkjhonaaGreatDoor
open Go.Vx
set_option maxRecDepth 100000
theorem DW (l:List (List D)) (n:Int):Z0 90 [.d (.sl 5 l),.d (.int .i64 n)] (.cl 5 (l.take (min (max n 0) l.length).toNat)):=by
 refine sh0 Tryz.f90 ?_
 exact zj0
theorem wD (l:List (List D)) (n:Int):Z0 94 [.d (.sl 5 l),.d (.int .i64 n)] (.cl 5 (l.take (min (max n 0) l.length).toNat)):=by
 refine sh0 Tryz.f94 ?_
 exact zj0
theorem Jo (l:List (List D)) (n:Int):Z0 95 [.d (.sl 3 l),.d (.int .i64 n)] (.cl 3 (l.take (min (max n 0) l.length).toNat)):=by
 refine sh0 Tryz.f95 ?_
 exact zj0
theorem yM {α:Type} (l:List α):l.take (min (max (l.length:Int) 0) l.length).toNat=l:=dD (by omega)
theorem Nz (l:List (List D)) (a b c d e:D) (hl:l.length<1000000000):Z0 51 [.d (.sl 5 l),.ag [.d a,.d b,.d c,.d d,.d e]] (.d (.sl 5 (l ++ [[a,b,c,d,e]]))):=by
 refine sh0 Tryz.f51 ?_
 repeat' ((conv=>whnf);first | exact zf | refine zm ?_ | refine zc (DW _ _) ?_ | intro _)
 exact cS (κ (λx=>V.d (.sl 5 (x ++ [[a,b,c,d,e]]))) (yM l))
theorem KO (l:List (List D)) (a b c d e:D) (hl:l.length<1000000000):Z0 103 [.d (.sl 5 l),.ag [.d a,.d b,.d c,.d d,.d e]] (.d (.sl 5 (l ++ [[a,b,c,d,e]]))):=by
 refine sh0 Tryz.f103 ?_
 repeat' ((conv=>whnf);first | exact zf | refine zm ?_ | refine zc (wD _ _) ?_ | intro _)
 exact cS (κ (λx=>V.d (.sl 5 (x ++ [[a,b,c,d,e]]))) (yM l))
theorem sX {K:KT} (l:List (List D)) (hl:l.length<1000000000) (hk:K (.ret (.os 0)) [.rows 5 l]):Z1 50 [.d (.sl 5 l)] [] K:=by
 refine si0 Tryz.f50 ?_;cases l with
 |nil=>
  repeat' ((conv=>whnf);first | exact zf | refine zm ?_ | refine And.intro ?_ ?_ | intro _)
  all_goals exact hk
 |cons r l=>
  repeat' ((conv=>whnf);first | exact zf | refine zm ?_ | intro _)
  all_goals exact hk
theorem sW {K:KT} (l:List (List D)) (hl:l.length<1000000000) (hk:K (.ret (.os 0)) [.rows 5 l]):Z1 114 [.d (.sl 5 l)] [] K:=by
 refine si0 Tryz.f114 ?_;cases l with
 |nil=>
  repeat' ((conv=>whnf);first | exact zf | refine zm ?_ | refine And.intro ?_ ?_ | intro _)
  all_goals exact hk
 |cons r l=>
  repeat' ((conv=>whnf);first | exact zf | refine zm ?_ | intro _)
  all_goals exact hk
theorem Jw {K:KT} (l:List (List D)) (hl:l.length<1000000000) (hk:K (.ret (.os 0)) [.rows 3 l]):Z1 278 [.d (.sl 3 l)] [] K:=by
 refine si0 Tryz.f278 ?_;cases l with
 |nil=>
  repeat' ((conv=>whnf);first | exact zf | refine zm ?_ | refine And.intro ?_ ?_ | intro _)
  all_goals exact hk
 |cons r l=>
  repeat' ((conv=>whnf);first | exact zf | refine zm ?_ | intro _)
  all_goals exact hk
structure Va where
  k:Int
  n:Int
  nm:List UInt8
  ls:List UInt8
  li:List UInt8
def cK (v:Va):List D:=[.int .i64 v.k,.int .i64 v.n,.str v.nm,.str v.ls,.str v.li]
def Qq (a b:Va):Bool:=(a.k==b.k)&&((a.n==b.n)&&((a.nm==b.nm)&&((a.ls==b.ls)&&((a.li==b.li)&&true))))
theorem nt {b:Bool} (h:(!b)=true):b=false:=by cases b<;>simp_all
theorem nf {b:Bool} (h:(!b)=false):b=true:=by cases b<;>simp_all
structure Tr where
  f:Int
  h:Int
  a:Int
def eO (v:Tr):List D:=[.int .i64 v.f,.int .i64 v.h,.int .i64 v.a]
structure Fr where
  fu:Int
  pc:Int
  ba:Int
  ma:Int
  vars:List Va
def bU (f:Fr):List D:=[.int .i64 f.fu,.int .i64 f.pc,.int .i64 f.ba,.int .u8 f.ma,.sl 5 (f.vars.map cK)]
def XW (f:Fr):V:=.ag [.d (.int .i64 f.fu),.d (.int .i64 f.pc),.d (.int .i64 f.ba),.d (.int .u8 f.ma),.d (.sl 5 (f.vars.map cK))]
def jl (v:Va):V:=.ag [.d (.int .i64 v.k),.d (.int .i64 v.n),.d (.str v.nm),.d (.str v.ls),.d (.str v.li)]
structure Co where
  fr:List Fr
  st:List Va
  tr:List Tr
def gp (c:Co):V:=.ag [.d (.sl 5 (c.fr.map bU)),.d (.sl 5 (c.st.map cK)),.d (.sl 3 (c.tr.map eO))]
def iB {α:Type} (l:List α) (n:Int):List α :=l.take (min (max n 0) l.length).toNat
theorem gk {α β:Type} (f:α→β) (l:List α) (n:Int):iB (l.map f) n=(iB l n).map f:=by simp [iB]
def FV (c:Co) (f h t:Int):Co:=⟨iB c.fr f,iB c.st h,iB c.tr t⟩
def j7 (c:Co) (v:Va):Co:=⟨c.fr,c.st ++ [v],c.tr⟩
theorem tI (c:Co) (v:Va) (hl:c.st.length<1000000000):Z0 69 [gp c,jl v] (gp (j7 c v)):=by
 refine sh0 Tryz.f69 ?_;have hl':(c.st.map cK).length<1000000000:=by simpa using hl
 repeat' ((conv=>whnf);first | exact zf | refine zm ?_ | refine zc (KO _ _ _ _ _ _ hl') ?_ | intro _)
 show Out.ret (V.ag [V.d (.sl 5 (c.fr.map bU)),V.d (.sl 5 (c.st.map cK ++ [cK v])),V.d (.sl 3 (c.tr.map eO))])=_;simp [gp,j7]
def base (c:Co):Int:=match c.fr.getLast? with
 |some f=>f.ba
 |none=>0
def fJ (c:Co) (n:Int):Bool:=decide (0≤n)&&(decide (0≤base c)&&(decide (base c≤c.st.length)&&decide (n≤c.st.length - base c)))
def rk (c:Co) (n:Int):Co:=⟨c.fr,iB c.st (c.st.length - n),c.tr⟩
def lC (c:Co) (n:Int):List Va:=c.st.drop (c.st.length - n).toNat
def As (c:Co) (n:Int):V:=
 bif fJ c n then .tu [gp (rk c n),.d (.sl 5 ((lC c n).map cK)),.d (.bool true)]
 else .tu [gp c,.d (.sl 5 []),.d (.bool false)]
theorem lP {c:Co} {n:Int} (h:fJ c n=true):As c n = .tu [gp (rk c n),.d (.sl 5 ((lC c n).map cK)),.d (.bool true)]:=by simp [As,h]
theorem sI {c:Co} {n:Int} (h:fJ c n=false):As c n = .tu [gp c,.d (.sl 5 []),.d (.bool false)]:=by simp [As,h]
theorem y8 (c:Co) (n:Int) (hl:c.st.length<1000000000):Z0 113 [gp c,.d (.int .i64 n)] (As c n):=by
  refine sh0 Tryz.f113 ?_
  have hl':(c.st.map cK).length<1000000000:=by simpa using hl
  have yes:∀(b:Int),base c=b→¬n<0→¬b<0→¬(c.st.length:Int)<b→¬(c.st.length:Int) - b<n→fJ c n=true:=by
    intro b hb h1 h2 h3 h4
    simp [fJ,hb]
    omega
  have no:∀(b:Int),base c=b→(n<0∨b<0∨(c.st.length:Int)<b∨(c.st.length:Int) - b<n)→fJ c n=false:=by
    intro b hb h
    cases he:fJ c n with
    |false=>rfl
    |true=>
      simp [fJ,hb] at he
      omega
  repeat' ((conv=>whnf);first | exact zf | refine zm ?_ | intro _)
  refine aX (λhpos=>?_) (λhzero=>?_)
  · have hpos:0<c.fr.length:=by simpa using hpos
    obtain ⟨f,hf1⟩:∃f,c.fr[c.fr.length - 1]? = some f:=⟨_,aB (by omega)⟩
    have hb:base c=f.ba:=by simp [base,dc,hf1]
    replace yes:=yes _ hb
    replace no:=no _ hb
    repeat' ((conv=>whnf);first | exact zf | refine zm ?_ | intro _)
    refine ⟨bU f,⟨by simp;omega,by simp [hf1],rfl⟩,?_⟩
    repeat' ((conv=>whnf);first | exact zf | refine zm ?_ | refine sX _ (by simp;omega) ?_ | refine zc (wD _ _) ?_ | refine aX (λhb=>?_) (λhb=>?_) | intro _)
    all_goals
      first
        |(refine (cS (sI (no ?_))).symm;simp at *;omega)
        | (have hy := yes (by simp at * <;> omega) (by simp at * <;> omega) (by simp at * <;> omega) (by simp at * <;> omega)
           rw [lP hy]
           show Out.ret (V.tu [V.ag [V.d (.sl 5 (c.fr.map bU)),V.d (.sl 5 (iB (c.st.map cK) ((c.st.map cK).length - n))),V.d (.sl 3 (c.tr.map eO))],V.d (.sl 5 ((c.st.map cK).drop (((c.st.map cK).length:Int) - n).toNat)),V.d (.bool true)])=_
           rw [gk]
           simp [gp,rk,lC])
  · have hz:c.fr = []:=by
      have:¬0<c.fr.length:=by simpa using hzero
      exact br (by omega)
    have hb:base c=0:=by simp [base,hz]
    replace yes:=yes _ hb
    replace no:=no _ hb
    repeat' ((conv=>whnf);first | exact zf | refine zm ?_ | refine sX _ (by simp;omega) ?_ | refine zc (wD _ _) ?_ | refine aX (λhb=>?_) (λhb=>?_) | intro _)
    all_goals
      first
        |(refine (cS (sI (no ?_))).symm;simp at *;omega)
        | (have hy := yes (by simp at * <;> omega) (by simp at * <;> omega) (by simp at * <;> omega) (by simp at * <;> omega)
           rw [lP hy]
           show Out.ret (V.tu [V.ag [V.d (.sl 5 (c.fr.map bU)),V.d (.sl 5 (iB (c.st.map cK) ((c.st.map cK).length - n))),V.d (.sl 3 (c.tr.map eO))],V.d (.sl 5 ((c.st.map cK).drop (((c.st.map cK).length:Int) - n).toNat)),V.d (.bool true)])=_
           rw [gk]
           simp [gp,rk,lC])
def XV (t:Tr):V:=.ag [.d (.int .i64 t.f),.d (.int .i64 t.h),.d (.int .i64 t.a)]
theorem Cn (t:Tr) (n:Int):Z0 279 [XV t,.e [.int .i64 n] 0] (.d (.bool (decide (n<t.f)))):=by
 refine sh0 Tryz.f279 ?_
 exact zj0
def idx (p:Tr→Bool):List Tr→Nat
 |[]=>0
 |x :: l=>bif p x then 0 else idx p l+1
theorem JC (p:Tr→Bool):∀l,idx p l≤l.length
 |[]=>aR _
 |x :: l=>by
  simp only [idx];cases p x
  ·simp [JC p l]
  ·simp
theorem uE {p:Tr→Bool}:∀{l:List Tr} {i:Nat},(∀j x,j<i→l[j]? = some x→p x=false)→(∀x,l[i]? = some x→p x=true)→i≤l.length→idx p l=i
 |[],i,_,_,hi=>by simp at hi;simp [idx,hi]
 |x :: l,0,_,h,_=>by simp [idx,h x rfl]
 |x :: l,i+1,h1,h2,hi=>by
  simp only [idx,h1 0 x (by omega) rfl,ε];rw [uE (i:=i) (λj y hj hy=>h1 (j+1) y (by omega) (by simpa using hy)) (λy hy=>h2 y (by simpa using hy)) (by simpa using hi)]
def B4 (p:Tr→Bool) (l:List Tr):Int:=if idx p l<l.length then idx p l else -1
theorem H_ (l:List Tr) (n:Int):Z0 320 [.d (.sl 3 (l.map eO)),.fc 279 [.e [.int .i64 n] 0]] (.d (.int .i64 (B4 (λt=>decide (n<t.f)) l))):=by
 refine sh0 Tryz.f320 ?_
 repeat' ((conv=>whnf);first | exact zf | refine zm ?_ | intro _)
 refine yv ⟨Nat,λi=>i≤l.length∧∀j x,j<i→l[j]? = some x→decide (n<x.f)=false,λi=>[(0,.d (.sl 3 (l.map eO))),(1,.fc 279 [.e [.int .i64 n] 0]),(7,.d (.int .i64 (l.map eO).length)),(8,.d (.int .i64 i))],λ_=>[],λi=>l.length - i,0,
  ⟨⟨ah _,by simp⟩,⟨rfl,rfl,rfl,rfl,trivial⟩,trivial,rfl⟩,λi ⟨hi,he⟩=>?_⟩
 repeat' ((conv=>whnf);first | exact zf | refine zm ?_ | intro _)
 refine aX (λhlt=>?_) (λhge=>?_)
 ·have hlt:i<l.length:=by simpa using hlt
  obtain ⟨x,hx⟩:∃x,l[i]? = some x:=⟨_,aB hlt⟩
  repeat' ((conv=>whnf);first | exact zf | refine zm ?_ | intro _)
  refine ⟨eO x,⟨by omega,by simp [hx],rfl⟩,?_⟩
  repeat' ((conv=>whnf);first | exact zf | refine zm ?_ | refine zc (Cn x n) ?_ | intro _)
  refine aX (λhyes=>?_) (λhno=>?_)
  ·skip
   repeat' ((conv=>whnf);first | exact zf | refine zm ?_ | intro _)
   refine cS (κ (λx=>V.d (.int .i64 x)) ?_);have:=uE (p:=λt=>decide (n<t.f)) he (λy hy=>by rw [hx] at hy;cases hy;exact hyes) hi;simp only [B4,this,hlt,if_true]
  ·skip
   repeat' ((conv=>whnf);first | exact zf | refine zm ?_ | intro _)
   refine ⟨i+1,⟨hlt,λj y hj hy=>?_⟩,bG hlt (bP i),⟨rfl,rfl,rfl,rfl,trivial⟩,trivial,rfl⟩
   by_cases hji:j=i
   ·subst hji;rw [hx] at hy;cases hy;exact hno
   ·exact he j y (by omega) hy
 ·have hge:i=l.length:=by
   have:¬i<l.length:=by simpa using hge
   omega
  repeat' ((conv=>whnf);first | exact zf | refine zm ?_ | intro _)
  refine cS (κ (λx=>V.d (.int .i64 x)) ?_);have:=uE (p:=λt=>decide (n<t.f)) he (λy hy=>by simp [hge] at hy) hi;simp [B4,this,hge]
def keep (n:Int) (l:List Tr):List Tr:=l.filter λt=> !(decide (n<t.f))
theorem zF {n:Int}:∀{l:List Tr},idx (λt=>decide (n<t.f)) l=l.length→keep n l=l
 |[],_=>rfl
 |x :: l,h=>by
  simp only [idx] at h;cases hx:decide (n<x.f) with
  |true=>rw [hx] at h;simp at h
  |false=>
   rw [hx] at h;simp only [ε,aV,Nat.add_right_cancel_iff] at h;have:=zF h;simp only [keep] at this ⊢;rw [List.filter_cons_of_pos (by simp [hx]),this]
theorem vm {n:Int}:∀{l:List Tr},keep n (l.take (idx (λt=>decide (n<t.f)) l))=l.take (idx (λt=>decide (n<t.f)) l)
 |[]=>rfl
 |x :: l=>by
  simp only [idx];cases hx:decide (n<x.f) with
  |true=>rfl
  |false=>
   simp only [ε,dk];have:=vm (n:=n) (l:=l);simp only [keep] at this ⊢;rw [List.filter_cons_of_pos (by simp [hx]),this]
theorem JD {n:Int}:∀{l:List Tr} {x:Tr},l[idx (λt=>decide (n<t.f)) l]? = some x→decide (n<x.f)=true
 |[],_,h=>by simp at h
 |y :: l,x,h=>by
  simp only [idx] at h;cases hy:decide (n<y.f) with
  |true=>rw [hy] at h;simp at h;subst h;exact hy
  |false=>rw [hy] at h;exact JD (by simpa using h)
theorem qm {n:Int} {l:List Tr} {j:Nat} {x:Tr} (h:l[j]? = some x):keep n (l.take (j+1))=keep n (l.take j)++(bif decide (n<x.f) then [] else [x]):=by
 rw [bu,h];simp only [keep,List.filter_append,Option.toList];cases hx:decide (n<x.f)<;>simp [hx]
theorem FL {K:KT} (l:List Tr) (n:Int) (hl:l.length<1000000000) (hk:K (.ret (.d (.sl 3 ((keep n l).map eO)))) [.no,.cells [.d (.int .i64 n)]]):Z1 277 [.os 0,.fc 279 [.p 1 0]] [.rows 3 (l.map eO),.cells [.d (.int .i64 n)]] K:=by
 refine sh0 Tryz.f277 ?_;have hle:=JC (λt=>decide (n<t.f)) l;have hst:=λx=>JD (n:=n) (l:=l) (x:=x)
 repeat' ((conv=>whnf);first | exact zf | refine zm ?_ | intro _)
 refine .inl ⟨_,H_ l n,rfl,?_⟩
 repeat' ((conv=>whnf);first | exact zf | refine zm ?_ | intro _)
 refine aX (λhno=>?_) (λhyes=>?_)
 ·have hall:keep n l=l:=by
   refine zF ?_
   by_cases h:idx (λt=>decide (n<t.f)) l<l.length
   ·simp [B4,h] at hno
   ·omega
  repeat' ((conv=>whnf);first | exact zf | refine zm ?_ | intro _)
  rw [hall] at hk;exact hk
 ·have hlt:idx (λt=>decide (n<t.f)) l<l.length:=by
   by_cases h:idx (λt=>decide (n<t.f)) l<l.length
   ·exact h
   ·simp [B4,h] at hyes
  have hix:B4 (λt=>decide (n<t.f)) l=(idx (λt=>decide (n<t.f)) l:Nat):=by simp [B4,hlt]
  rw [hix];generalize B6:idx (λt=>decide (n<t.f)) l=i0 at *
  repeat' ((conv=>whnf);first | exact zf | refine zm ?_ | intro _)
  have hkt:=vm (n:=n) (l:=l);rw [B6] at hkt;obtain ⟨x0,hx0⟩:∃x,l[i0]? = some x:=⟨_,aB hlt⟩
  refine yv ⟨Nat×Nat×List Tr,λ(j,i,m)=>m.length=l.length∧i<j∧j≤l.length∧m.take i=keep n (l.take j)∧m.drop j=l.drop j,
   λ(j,i,_)=>[(0,.os 0),(1,.fc 279 [.p 1 0]),(5,.d (.int .i64 i)),(6,.d (.int .i64 j))],λ(_,_,m)=>[.rows 3 (m.map eO),.cells [.d (.int .i64 n)]],λ(j,_,_)=>l.length - j,(i0+1,i0,l),
   ⟨⟨rfl,by omega,hlt,by rw [qm hx0,hkt,hst x0 hx0];simp,rfl⟩,⟨rfl,rfl,rfl,rfl,trivial⟩,⟨rfl,.inl rfl,trivial⟩,rfl⟩,λ(j,i,m) ⟨h1,h2,h3,h4,h5⟩=>?_⟩
  repeat' ((conv=>whnf);first | exact zf | refine zm ?_ | intro _)
  refine aX (λhlt=>?_) (λhge=>?_)
  ·have hlt:j<m.length:=by simpa using hlt
   obtain ⟨x,hx⟩:∃x,l[j]? = some x:=⟨_,aB (by omega)⟩
   have hmx:m[j]? = some x:=by
    have:=κ (λl=>l[0]?) h5;simpa [aw,hx] using this
   obtain ⟨y,hy⟩:∃y,m[i]? = some y:=⟨_,aB (by omega)⟩
   repeat' ((conv=>whnf);first | exact zf | refine zm ?_ | intro _)
   refine ⟨eO x,by simp [hmx],?_⟩
   repeat' ((conv=>whnf);first | exact zf | refine zm ?_ | intro _)
   refine .inl ⟨_,Cn x n,rfl,?_⟩
   repeat' ((conv=>whnf);first | exact zf | refine zm ?_ | intro _)
   refine aX (λhyes=>?_) (λhno=>?_)
   ·skip
    repeat' ((conv=>whnf);first | exact zf | refine zm ?_ | intro _)
    refine ⟨eO y,by simp [hy],⟨rfl,rfl,rfl⟩,?_⟩
    repeat' ((conv=>whnf);first | exact zf | refine zm ?_ | intro _)
    refine ⟨(j+1,i+1,m.set i x),⟨by simp [h1],by omega,by omega,?_,?_⟩,bG (by omega) (bP j),⟨rfl,rfl,rfl,rfl,trivial⟩,⟨?_,.inl rfl,trivial⟩,rfl⟩
    ·rw [qm hx,nt hyes,←h4];simp only [ε];rw [bu,List.take_set_of_le (aR _),bm (by omega)];rfl
    ·rw [List.drop_set_of_lt (by omega)];have:=κ (List.drop 1) h5;simpa [List.drop_drop] using this
    ·show B.rows 3 ((m.map eO).set i (eO x))=B.rows 3 ((m.set i x).map eO);rw [fg]
   ·skip
    repeat' ((conv=>whnf);first | exact zf | refine zm ?_ | intro _)
    refine ⟨(j+1,i,m),⟨h1,by omega,by omega,?_,?_⟩,bG (by omega) (bP j),⟨rfl,rfl,rfl,rfl,trivial⟩,⟨rfl,.inl rfl,trivial⟩,rfl⟩
    ·rw [qm hx,nf hno,h4];simp
    ·have:=κ (List.drop 1) h5;simpa [List.drop_drop] using this
  ·have hj:j=l.length:=by
    have:¬j<m.length:=by simpa using hge
    omega
   subst hj;rw [cu] at h4
   repeat' ((conv=>whnf);first | exact zf | refine zm ?_ | intro _)
   show K (.ret (.d (.sl 3 (List.drop 0 (List.take i (List.take i (m.map eO)++List.replicate ((m.map eO).length - i) [.int .i64 0,.int .i64 0,.int .i64 0])))))) [.no,.cells [.d (.int .i64 n)]];have e:List.drop 0 (List.take i (List.take i (m.map eO)++List.replicate ((m.map eO).length - i) [D.int .i64 0,.int .i64 0,.int .i64 0]))=(keep n l).map eO:=by
    rw [List.drop_zero,List.take_append_of_le_length (by simp;omega),List.take_take,Nat.min_self,←fo,h4]
   rw [e];exact hk
def num (n:Int):Va:=⟨1,n,[],[],[]⟩
def rK (c:Co) (t:Tr):Bool:=decide (1≤t.f)&&(decide (t.f≤c.fr.length)&&(decide (0≤t.h)&&decide (t.h≤c.st.length)))
def vU (l:List Fr) (i:Nat) (pc:Int):List Fr:=match l[i]? with
 |some f=>l.set i { f with pc:=pc }
 |none=>l
def sj (c:Co) (t:Tr) (code:Int):Co:=⟨vU (iB c.fr t.f) (t.f - 1).toNat t.a,iB c.st t.h ++ [num code],iB c.tr (c.tr.length - 1)⟩
def ju (c:Co) (code kp:Int):V:=
 bif decide ((c.tr.length:Int) - 1<max kp 0) then .tu [gp c,.d (.bool false)] else
 match c.tr.getLast? with
 |none=>.tu [gp c,.d (.bool false)]
 |some t=>bif rK c t then .tu [gp (sj c t code),.d (.bool true)] else .tu [gp c,.d (.bool false)]
theorem Km (c:Co) (code kp:Int) (hf:c.fr.length<1000000000) (hs:c.st.length<1000000000):Z0 168 [gp c,.d (.int .i64 code),.d (.int .i64 kp)] (ju c code kp):=by
 cases hkp:decide ((c.tr.length:Int) - 1<max kp 0) with
 |true=>
  have hr:ju c code kp = .tu [gp c,.d (.bool false)]:=by simp only [ju,hkp,δ]
  have hkp':decide (((c.tr.map eO).length:Int) - 1<max kp 0)=true:=by simpa using hkp
  rw [hr];refine sh0 Tryz.f168 ?_
  repeat' ((conv=>whnf);first | exact zf | refine zm ?_ | intro _)
  refine aX (λhkp2=>?_) (λhkp2=>by rw [hkp'] at hkp2;cases hkp2)
  exact zj0
 |false=>
  have hkp':decide (((c.tr.map eO).length:Int) - 1<max kp 0)=false:=by simpa using hkp
  have hpos:0<c.tr.length:=by simp at hkp;omega
  obtain ⟨t,ht⟩:∃t,c.tr[c.tr.length - 1]? = some t:=⟨_,aB (by omega)⟩
  have htl:c.tr.getLast? = some t:=by rw [dc];exact ht
  cases hy:rK c t with
  |false=>
   have hr:ju c code kp = .tu [gp c,.d (.bool false)]:=by simp only [ju,hkp,htl,hy,ε]
   rw [hr];refine sh0 Tryz.f168 ?_
   repeat' ((conv=>whnf);first | exact zf | refine zm ?_ | intro _)
   refine aX (λhkp2=>by rw [hkp'] at hkp2;cases hkp2) (λhkp2=>?_)
   repeat' ((conv=>whnf);first | exact zf | refine zm ?_ | intro _)
   refine ⟨eO t,⟨by simp;omega,by simp [ht],rfl⟩,?_⟩
   repeat' ((conv=>whnf);first | exact zf | refine zm ?_ | refine sW _ (by simp at *;omega) ?_ | refine aX (λhb=>?_) (λhb=>?_) | intro _)
   exfalso;simp [rK] at *;omega
  |true=>
   have hr:ju c code kp = .tu [gp (sj c t code),.d (.bool true)]:=by simp only [ju,hkp,htl,hy,ε,δ]
   rw [hr];have h1:1≤t.f∧t.f≤c.fr.length∧0≤t.h∧t.h≤c.st.length:=by
    simp [rK] at hy;omega
   obtain ⟨f,hf⟩:∃f,c.fr[(t.f - 1).toNat]? = some f:=⟨_,aB (by omega)⟩
   have hrow:(List.take (min (max t.f 0) (List.map bU c.fr).length).toNat (List.map bU c.fr))[(t.f - 1).toNat]? = some (bU f):=by
    rw [ae,ζ (by simp;omega),aC,hf];rfl
   have hfc:(iB c.fr t.f)[(t.f - 1).toNat]? = some f:=by
    unfold iB;rw [ae,ζ (by omega),hf]
   have hst:vU (iB c.fr t.f) (t.f - 1).toNat t.a=(iB c.fr t.f).set (t.f - 1).toNat { f with pc:=t.a }:=by simp only [vU,hfc]
   refine sh0 Tryz.f168 ?_
   repeat' ((conv=>whnf);first | exact zf | refine zm ?_ | intro _)
   refine aX (λhkp2=>by rw [hkp'] at hkp2;cases hkp2) (λhkp2=>?_)
   repeat' ((conv=>whnf);first | exact zf | refine zm ?_ | intro _)
   refine ⟨eO t,⟨by simp;omega,by simp [ht],rfl⟩,?_⟩
   repeat' ((conv=>whnf);first | exact zf | refine zm ?_ | intro _)
   refine aX (λhb=>absurd hb (by simp;omega)) (λhb=>?_)
   repeat' ((conv=>whnf);first | exact zf | refine zm ?_ | intro _)
   refine aX (λhb=>absurd hb (by simp;omega)) (λhb=>?_)
   repeat' ((conv=>whnf);first | exact zf | refine zm ?_ | intro _)
   refine aX (λhb=>absurd hb (by simp;omega)) (λhb=>?_)
   repeat' ((conv=>whnf);first | exact zf | refine zm ?_ | intro _)
   refine aX (λhb=>absurd hb (by simp;omega)) (λhb=>?_)
   repeat' ((conv=>whnf);first | exact zf | refine zm ?_ | refine sW _ (by simp at *;omega) ?_ | refine zc (DW _ _) ?_ | intro _)
   refine ⟨bU f,hrow,⟨rfl,rfl,rfl⟩,?_⟩
   repeat' ((conv=>whnf);first | exact zf | refine zm ?_ | refine zc (wD _ _) ?_ | refine ⟨_,KO _ _ _ _ _ _ (by simp;omega),?_⟩ | refine (KO _ _ _ _ _ _ (by simp;omega)).use ?_ | refine zc (Jo _ _) ?_ | intro _)
   show Out.ret (V.tu [V.ag [V.d (.sl 5 ((iB (c.fr.map bU) t.f).set (t.f - 1).toNat (bU { f with pc:=t.a }))),V.d (.sl 5 (iB (c.st.map cK) t.h ++ [cK (num code)])),V.d (.sl 3 (iB (c.tr.map eO) ((c.tr.map eO).length - 1)))],V.d (.bool true)])=_;rw [gk,gk,gk];simp only [gp,sj,hst,fg,bY,cH,kS,aI]
def oU (c:Co):Bool:=fJ c 1&&decide (0<c.fr.length)
def zeroV:Va:=⟨0,0,[],[],[]⟩
def gD (c:Co):Co:=⟨iB c.fr (c.fr.length - 1),iB c.st (base c),keep (c.fr.length - 1) c.tr⟩
def rj (c:Co):Va:=((lC c 1)[0]?).getD zeroV
def EL (c:Co):V:=bif oU c then .tu [gp (gD c),jl (rj c),.d (.bool true)] else .tu [gp c,jl zeroV,.d (.bool false)]
theorem G8 (c:Co) (hf:c.fr.length<1000000000) (hs:c.st.length<1000000000) (ht:c.tr.length<1000000000):Z0 223 [gp c] (EL c):=by
 refine sh0 Tryz.f223 ?_;cases hp:fJ c 1 with
 |false=>
  have hr:As c 1 = .tu [gp c,.d (.sl 5 []),.d (.bool false)]:=sI hp;have hpop:=y8 c 1 hs;rw [hr] at hpop
  repeat' ((conv=>whnf);first | exact zf | refine zm ?_ | refine zc hpop ?_ | intro _)
  simp only [EL,oU,hp,nh,ε];rfl
 |true=>
  have hr:As c 1 = .tu [gp (rk c 1),.d (.sl 5 ((lC c 1).map cK)),.d (.bool true)]:=lP hp;have hpop:=y8 c 1 hs;rw [hr] at hpop
  repeat' ((conv=>whnf);first | exact zf | refine zm ?_ | refine zc hpop ?_ | intro _)
  refine aX (λhz=>?_) (λhz=>?_)
  ·have hz:c.fr.length=0:=by simpa using hz
   have hy:oU c=false:=by simp [oU,hz]
   repeat' ((conv=>whnf);first | exact zf | refine zm ?_ | intro _)
   simp only [EL,hy,ε];rfl
  ·have hz:0<c.fr.length:=by
    have:¬c.fr.length=0:=by simpa using hz
    omega
   have hy:oU c=true:=by simp [oU,hz,hp]
   simp only [EL,hy,δ];obtain ⟨f,hf1⟩:∃f,c.fr[c.fr.length - 1]? = some f:=⟨_,aB (by omega)⟩
   have hb:base c=f.ba:=by simp [base,dc,hf1]
   repeat' ((conv=>whnf);first | exact zf | refine zm ?_ | intro _)
   refine ⟨bU f,⟨by simp;omega,by simp [hf1],rfl⟩,?_⟩
   repeat' ((conv=>whnf);first | exact zf | refine zm ?_ | refine zc (wD _ _) ?_ | refine zc (DW _ _) ?_ | refine Jw _ (by simp;omega) ?_ | refine FL _ _ ht ?_ | intro _)
   obtain ⟨v,hv⟩:∃v,(lC c 1)[0]? = some v:=by
    refine ⟨_,aB ?_⟩;simp [lC,fJ] at *;omega
   refine ⟨cK v,⟨by omega,by simp [hv],rfl⟩,?_⟩
   repeat' ((conv=>whnf);first | exact zf | refine zm ?_ | intro _)
   refine Eq.trans (show _=Out.ret (V.tu [V.ag [V.d (.sl 5 _),V.d (.sl 5 _),V.d (.sl 3 _)],V.ag [V.d _,V.d _,V.d _,V.d _,V.d _],V.d (.bool true)]) from rfl) ?_;show Out.ret (V.tu [V.ag [V.d (.sl 5 (iB (c.fr.map bU) ((c.fr.map bU).length - 1))),V.d (.sl 5 (iB (c.st.map cK) f.ba)),V.d (.sl 3 ((keep ((c.fr.map bU).length - 1) c.tr).map eO))],jl v,V.d (.bool true)])=_;rw [gk,gk];simp only [gp,gD,rj,hv,hb,aI,bf]
def rI (n:Nat):List Va:=List.replicate n (num 0)
def du (c:Co):Bool:=decide (c.fr.length<16)
def gF (c:Co) (fn vs:Int) (l:List Va) (ma:Int):Co:=⟨c.fr ++ [⟨fn,0,c.st.length,ma,l++rI (min (max vs 0) 16).toNat⟩],c.st,c.tr⟩
def mK (c:Co) (fn vs:Int) (l:List Va) (ma:Int):V:=bif du c then .tu [gp (gF c fn vs l ma),.d (.bool true)] else .tu [gp c,.d (.bool false)]
theorem kj (c:Co) (fn vs:Int) (l:List Va) (ma:Int) (hf:c.fr.length<1000000000) (ha:l.length<1000000000):Z0 20 [gp c,.d (.int .i64 fn),.d (.int .i64 vs),.d (.sl 5 (l.map cK)),.d (.int .u8 ma)] (mK c fn vs l ma):=by
 refine sh0 Tryz.f20 ?_
 repeat' ((conv=>whnf);first | exact zf | refine zm ?_ | intro _)
 refine aX (λhno=>?_) (λhyes=>?_)
 ·have hno:16≤(c.fr.length:Int):=by simpa using hno
  repeat' ((conv=>whnf);first | exact zf | refine zm ?_ | intro _)
  have hy:du c=false:=by simp [du];omega
  simp only [mK,hy,ε];rfl
 ·have hyes:(c.fr.length:Int)<16:=by simpa using hyes
  have hy:du c=true:=by simp [du];omega
  have hr:mK c fn vs l ma = .tu [gp (gF c fn vs l ma),.d (.bool true)]:=by simp only [mK,hy,δ]
  rw [hr]
  repeat' ((conv=>whnf);first | exact zf | refine zm ?_ | refine sX _ (by simp;omega) ?_ | intro _)
  conv=>whnf
  refine H8 [12,18,19,23,24,25,26,27,28,29] (λp:Nat×List Va=>p.1≤(min (max vs 0) 16).toNat∧p.2=l++rI p.1) (λp=>[(12,.os 2),(23,.d (.int .i64 p.1))]) (λp=>[.cells [.d (.sl 5 (c.fr.map bU)),.d (.sl 5 (c.st.map cK)),.d (.sl 3 (c.tr.map eO))],.cells [.nl 5,.nl 5,.nl 3],.rows 5 (p.2.map cK)]) (λp=>(min (max vs 0) 16).toNat - p.1) (0,l) ⟨ah _,by simp [rI]⟩ ?_ ?_ ?_ (λ⟨i,r⟩ ⟨hi,hr⟩=>?_)
  ·exact zzz
  ·exact zzz
  ·exact rfl
  repeat' ((conv=>whnf);first | exact zf | refine zm ?_ | intro _)
  refine aX (λhlt=>?_) (λhge=>?_)
  ·have hlt:i<(min (max vs 0) 16).toNat:=by simp at hlt;omega
   have hrl:r.length<1000000100:=by simp at hr;simp [hr,rI];omega
   repeat' ((conv=>whnf);first | exact zf | refine zm ?_ | intro _)
   refine ⟨(i+1,r ++ [num 0]),⟨hlt,?_⟩,bG hlt (bP i),zzz,?_,rfl⟩
   ·simp at hr;simp [hr,rI,List.replicate_succ']
   ·refine ⟨.inl rfl,.inl rfl,?_,trivial⟩;simp [cK,num];rfl
  ·have hge:i=(min (max vs 0) 16).toNat:=by simp at hge hi;omega
   repeat' ((conv=>whnf);first | exact zf | refine zm ?_ | intro _)
   conv=>whnf
   refine .inr ?_
   repeat' ((conv=>whnf);first | exact zf | refine zm ?_ | refine ⟨_,Nz _ _ _ _ _ _ (by simp;omega),?_⟩ | refine (Nz _ _ _ _ _ _ (by simp;omega)).use ?_ | intro _)
   show Out.ret (V.tu [V.ag [V.d (.sl 5 (c.fr.map bU ++ [[.int .i64 fn,.int .i64 0,.int .i64 (c.st.map cK).length,.int .u8 ma,.sl 5 (r.map cK)]])),V.d (.sl 5 (c.st.map cK)),V.d (.sl 3 (c.tr.map eO))],V.d (.bool true)])=_;simp at hr;simp [gp,gF,bU,hr,hge]
structure Sc where
  nm:List UInt8
  l:Lb
  un:Int
  fr:Int
  he:Int
  tr:Int
  g:Gs
  pa:List UInt8
  ma:Int
  ro:Int
def eW (s:Sc):List D:=[.str s.nm,.str s.l.s,.str s.l.i,.int .i64 s.un,.int .i64 s.fr,.int .i64 s.he,.int .i64 s.tr,.str s.g.cur.s,.str s.g.cur.i,.str s.g.gH.s,.str s.g.gH.i,.str s.pa,.int .i64 s.ma,.int .i64 s.ro]
def WH (s:Sc):V:=.ag ((eW s).map .d)
structure Th where
  id:List UInt8
  pa:List UInt8
  g:Gs
  c:Co
  sc:List Sc
  ma:Int
  ro:Int
  st:Int
  on:List UInt8
  v:Va
  ex:Bool
def fC (t:Th):List D:=[.str t.id,.str t.pa,.str t.g.cur.s,.str t.g.cur.i,.str t.g.gH.s,.str t.g.gH.i,.sl 5 (t.c.fr.map bU),.sl 5 (t.c.st.map cK),.sl 3 (t.c.tr.map eO),.sl 14 (t.sc.map eW),.int .i64 t.ma,.int .i64 t.ro,.int .i64 t.st,.str t.on,
 .int .i64 t.v.k,.int .i64 t.v.n,.str t.v.nm,.str t.v.ls,.str t.v.li,.bool t.ex]
def eo (t:Th):V:=.ag ((fC t).map .d)
def de:Va:=⟨0,0,[],[],[]⟩
def oV:Lb:=⟨[],[]⟩
def TX:Gs:=⟨oV,oV⟩
def HP:Sc:=⟨[],oV,0,0,0,0,TX,[],0,0⟩
def yj (id:List UInt8) (g:Gs) (c:Co) (ro:Int):Th:=⟨id,id,g,c,[],0,ro,0,[],de,false⟩
theorem HY (id:List UInt8) (g:Gs) (c:Co) (ro:Int):Z0 22 [.d (.str id),Fh g,gp c,.d (.int .i64 ro)] (eo (yj id g c ro)):=by
 refine sh0 Tryz.f22 ?_
 exact zj0
def o4 (t:Th):V:=.ag [.d (.sl 14 (t.sc.map eW)),.d (.str t.g.cur.s),.d (.str t.g.cur.i)]
theorem sJ (t:Th):Z0 40 [eo t] (o4 t):=by
 refine sh0 Tryz.f40 ?_
 exact zj0
def bS (t:Th):Sc:=t.sc.getLast?.getD HP
theorem Hw (t:Th):Z0 104 [o4 t] (.tu [WH (bS t),.d (.bool (!t.sc.isEmpty))]):=by
 have hl:(t.sc.map eW).length=t.sc.length:=aI _;cases hs:t.sc.getLast? with
 |none=>
  have h0:t.sc = []:=List.getLast?_eq_none_iff.1 hs;unfold bS o4;rw [hs,h0];refine sh0 Tryz.f104 ?_
  exact zk0
 |some s=>
  have hne:t.sc≠[]:=by intro h;rw [h] at hs;cases hs
  have hpos:0<t.sc.length:=gA.2 hne;have hem:t.sc.isEmpty=false:=by rw [List.isEmpty_eq_false_iff];exact hne
  have hget:(t.sc.map eW)[t.sc.length - 1]? = some (eW s):=by
   rw [aC,←dc,hs];rfl
  unfold bS;rw [hs,hem];refine sh0 Tryz.f104 ?_;have hn:(((t.sc.map eW).length:Int) - 1).toNat=t.sc.length - 1:=by omega
  repeat' ((conv=>whnf);first | exact zf | refine zm ?_ | refine zi0 ?_ | refine ⟨eW s,⟨by omega,by rw [hn];exact hget,rfl⟩,?_⟩ | refine zt ?_ | refine zu ?_ | intro _)
theorem xU (t:Th):Z0 70 [eo t] (.tu [.d (.int .i64 (bS t).fr),.d (.int .i64 (bS t).tr)]):=by
 have h1:=sJ t;have h2:=Hw t;refine sh0 Tryz.f70 ?_
 exact zj2 h1 h2
def jF (now:Int):List Sc→Nat
 |[]=>0
 |s :: r=>bif decide (s.un≤now) then 0 else jF now r+1
def FG (t:Th) (now:Int):Int:=if jF now t.sc<t.sc.length then jF now t.sc else -1
theorem qu {now:Int}:∀{l:List Sc} {i:Nat},(∀s∈l.take i,¬s.un≤now)→i≤l.length→jF now l=i+jF now (l.drop i)
 |l,0,_,_=>by simp
 |[],i+1,_,h=>by simp at h
 |s :: l,i+1,h,hi=>by
  rw [jF,τ (h s (by simp)),ε,mT,qu (i:=i) (λx hx=>h x (by rw [dk];exact cQ _ hx)) (by simpa using hi)];omega
theorem DQ (now:Int):∀l:List Sc,jF now l≤l.length
 |[]=>aR _
 |s :: l=>by
  have:=DQ now l;rw [jF];cases decide (s.un≤now)<;>simp<;>omega
theorem Tu (t:Th) (now:Int):Z0 41 [o4 t,.d (.int .i64 now)] (.d (.int .i64 (FG t now))):=by
 have hl:(t.sc.map eW).length=t.sc.length:=aI _;refine sh0 Tryz.f41 ?_
 repeat' ((conv=>whnf);first | exact zf | refine zm ?_ | intro _)
 conv=>whnf
 refine bN [(1,.d (.int .i64 now)),(8,.d (.sl 14 (t.sc.map eW))),(9,.d (.int .i64 (t.sc.map eW).length))] (λi:Nat=>i≤t.sc.length∧∀s∈t.sc.take i,¬s.un≤now) (λi=>[(10,.d (.int .i64 i))]) (λ_=>[]) (λi=>t.sc.length - i) 0 ⟨ah _,λ_ h=>nomatch h⟩ ?_ ?_ ?_ (λi hi=>?_)
 ·exact zzz
 ·exact zzz
 ·exact rfl
 repeat' ((conv=>whnf);first | exact zf | refine zm ?_ | intro _)
 refine aX (λhlt=>?_) (λhge=>?_)
 ·have hlt:i<t.sc.length:=by rw [←hl];simpa using hlt
  obtain ⟨s,hs⟩:∃s,t.sc[i]? = some s:=⟨_,aB hlt⟩
  have htk:t.sc.take (i+1)=t.sc.take i ++ [s]:=by rw [bu,hs];rfl
  have hdr:t.sc.drop i=s :: t.sc.drop (i+1):=by
   rw [bR hlt];rw [aB hlt] at hs;rw [an hs]
  have hk:=qu hi.2 hi.1;rw [hdr,jF] at hk
  repeat' ((conv=>whnf);first | exact zf | refine zm ?_ | intro _)
  refine ⟨eW s,⟨by omega,by simp [hs],rfl⟩,?_⟩
  repeat' ((conv=>whnf);first | exact zf | refine zm ?_ | intro _)
  refine aX (λhy=>?_) (λhn=>?_)
  ·skip
   repeat' ((conv=>whnf);first | exact zf | refine zm ?_ | intro _)
   refine cS (κ (λx=>V.d (D.int .i64 x)) ?_);rw [show decide (s.un≤now)=true from hy,δ] at hk;unfold FG;rw [hk,ζ (by omega)];simp
  ·skip
   repeat' ((conv=>whnf);first | exact zf | refine zm ?_ | intro _)
   refine ⟨i+1,⟨hlt,?_⟩,bG hlt (bP i),zzz,zzz,rfl⟩;rw [htk];intro x hx;exact (aS.1 hx).elim (hi.2 x) λh=>by rw [aM.1 h];exact ι hn
 ·have hge:i=t.sc.length:=by
   have:¬i<t.sc.length:=by rw [←hl];simpa using hge
   omega
  have hk:=qu hi.2 hi.1;rw [hge,lH] at hk;have:FG t now = -1:=by unfold FG;rw [hk,η (by simp [jF])]
  rw [this]
  exact zj0
theorem Tv (t:Th) (now:Int):Z0 11 [eo t,.d (.int .i64 now)] (.d (.int .i64 (FG t now))):=by
 have h1:=sJ t;have h2:=Tu t now;refine sh0 Tryz.f11 ?_
 exact zj2 h1 h2
def ei (t:Th) (v:Va) (ex:Bool):Th:={ t with st:=bif !t.sc.isEmpty then 2 else bif ex then 4 else 3,v:=v,ex:=ex,on:=[] }
theorem qo (t:Th) (v:Va) (ex:Bool):Z0 110 [eo t,jl v,.d (.bool ex)] (eo (ei t v ex)):=by
 have hl:(t.sc.map eW).length=t.sc.length:=aI _;unfold ei;cases he:t.sc.isEmpty with
 |true=>
  have h0:t.sc = []:=gK.1 he;cases ex<;>refine sh0 Tryz.f110 ?_
  ·exact zk0
  ·exact zk0
 |false=>
  have hpos:0<t.sc.length:=gA.2 (by simpa using he);refine sh0 Tryz.f110 ?_
  exact zk0
structure Wt where
  id:List UInt8
  put:Bool
  v:Va
def dX (x:Wt):List D:=[.str x.id,.bool x.put,.int .i64 x.v.k,.int .i64 x.v.n,.str x.v.nm,.str x.v.ls,.str x.v.li]
structure Vr where
  full:Bool
  v:Va
  q:List Wt
structure Ob where
  k:Int
  l:Lb
  v:Va
  ex:Bool
  dn:Bool
  va:Vr
  fu:Int
  ma:Int
def ek (o:Ob):List D:=[.int .i64 o.k,.str o.l.s,.str o.l.i,.int .i64 o.v.k,.int .i64 o.v.n,.str o.v.nm,.str o.v.ls,.str o.v.li,.bool o.ex,.bool o.dn,.bool o.va.full,
 .int .i64 o.va.v.k,.int .i64 o.va.v.n,.str o.va.v.nm,.str o.va.v.ls,.str o.va.v.li,.sl 7 (o.va.q.map dX),.int .i64 o.fu,.int .u8 o.ma]
def fz (o:Ob):V:=.ag ((ek o).map .d)
def BD:Vr:=⟨false,de,[]⟩
def fT:Ob:=⟨0,oV,de,false,false,BD,0,0⟩
def kA (t:Th):Th:={ t with ma:=t.ma+1,ro:=t.ro - 1 }
theorem sM (t:Th) (l:List Nat) (n:Nat) (hp:t.pa=cR l) (hm:t.ma=n) (h0:l≠[]) (hl:l.length<24) (hs:∀n∈l,n<100) (hn:n<100) (hr:1≤t.ro) (hr2:t.ro<1000000000) :
  Z0 292 [eo t] (.tu [eo (kA t),.d (.str (cR (l ++ [n]))),.d (.bool true)]):=by
 have h1:=Jz l n h0 hl hs hn;rw [←hp,←hm] at h1;refine sh0 Tryz.f292 ?_
 repeat' ((conv=>whnf);first | exact zf | refine zm ?_ | refine zc h1 ?_ | refine zi0 ?_ | refine zt ?_ | refine zu ?_ | intro _)
theorem yn (t:Th) (hr:t.ro<1):Z0 292 [eo t] (.tu [eo t,.d (.str []),.d (.bool false)]):=by
 refine sh0 Tryz.f292 ?_
 exact zk0
theorem RF (l:List (List D)):Z0 49 [.d (.sl 5 l)] (.cl 5 l):=by
 refine sh0 Tryz.f49 ?_
 repeat' ((conv=>whnf);first | exact zf | refine zm ?_ | intro _)
 exact cS (κ (V.cl 5) (by show List.drop 0 (List.take ((l.length:Int)).toNat l)=l;simp))
theorem Jy (l:List (List D)):Z0 58 [.d (.sl 14 l)] (.cl 14 l):=by
 refine sh0 Tryz.f58 ?_
 repeat' ((conv=>whnf);first | exact zf | refine zm ?_ | intro _)
 exact cS (κ (V.cl 14) (by show List.drop 0 (List.take ((l.length:Int)).toNat l)=l;simp))
def vL (t:Th) (l:List Va):Th:={ t with st:=0,on:=[],c:=⟨t.c.fr,t.c.st++l,t.c.tr⟩ }
theorem PL (t:Th) (l:List Va) (hl:l.length<1000000000) (hs:t.c.st.length<1000000000):Z0 15 [eo t,.d (.sl 5 (l.map cK))] (eo (vL t l)):=by
 have h1:=RF (t.c.st.map cK);have e1:(t.c.st.map cK).length=t.c.st.length:=aI _;have e2:(l.map cK).length=l.length:=aI _;have e3:(t.c.st++l).map cK=t.c.st.map cK++l.map cK:=bY;unfold vL eo fC;simp only [e3];refine sh0 Tryz.f15 ?_
 exact zj1 h1
def jS (t:Th) (k:Nat):Va×Bool:=
 bif !(t.st==2) || !((k:Int)==(t.sc.length:Int) - 1) then (num (-7),true) else
 bif !ao t.g.cur ((t.sc[k]?).getD HP).l then (num (-3),true) else (t.v,t.ex)
theorem F0 (t:Th) (k:Nat) (hk:k<t.sc.length) (hc:cI t.g.cur) (hl:cI ((t.sc[k]?).getD HP).l) (hn:t.sc.length<1000000000) :
  Z0 68 [eo t,.d (.int .i64 k)] (.tu [jl (jS t k).1,.d (.bool (jS t k).2)]):=by
 have e1:(t.sc.map eW).length=t.sc.length:=aI _;obtain ⟨s,hs⟩:∃s,t.sc[k]? = some s:=⟨_,aB hk⟩
 rw [hs,bf] at hl;have hf:=gQ t.g.cur s.l hc hl;unfold jS;rw [hs,bf];cases h1:t.st==2 with
 |false=>
  refine sh0 Tryz.f68 ?_
  exact zk0
 |true=>
  cases h2:(k:Int)==(t.sc.length:Int) - 1 with
  |false=>
   refine sh0 Tryz.f68 ?_
   exact zk0
  |true=>
   cases h3:ao t.g.cur s.l with
   |false=>
    rw [h3] at hf;refine sh0 Tryz.f68 ?_
    repeat' ((conv=>whnf);first | exact zf | refine zm ?_ | refine zc hf ?_ | refine ⟨eW s,⟨by omega,by simp [hs],rfl⟩,?_⟩ | refine zt ?_ | refine zu ?_ | intro _)
   |true=>
    rw [h3] at hf;refine sh0 Tryz.f68 ?_
    repeat' ((conv=>whnf);first | exact zf | refine zm ?_ | refine zc hf ?_ | refine ⟨eW s,⟨by omega,by simp [hs],rfl⟩,?_⟩ | refine zt ?_ | refine zu ?_ | intro _)
theorem T_ (c:Co) (f h t:Int):Z0 59 [gp c,.d (.int .i64 f),.d (.int .i64 h),.d (.int .i64 t)] (gp (FV c f h t)):=by
 have h1:=DW (c.fr.map bU) f;have h2:=wD (c.st.map cK) h;have h3:=Jo (c.tr.map eO) t;have e1:=gk bU c.fr f;have e2:=gk cK c.st h;have e3:=gk eO c.tr t;unfold gp FV;simp only [←e1,←e2,←e3];refine sh0 Tryz.f59 ?_
 exact zj3 h1 h2 h3
def pG (t:Th) (k:Nat) (s:Sc):Ob:={ fT with k:=3,l:=s.l,v:=(jS t k).1,ex:=(jS t k).2 }
def xJ (t:Th) (k:Nat) (s:Sc):Th:={ t with sc:=t.sc.take k,g:=s.g,pa:=s.pa,ma:=s.ma,ro:=s.ro,c:=j7 (FV t.c s.fr s.he s.tr) ⟨3,0,s.nm,s.l.s,s.l.i⟩,st:=0,on:=[],v:=de,ex:=false }
theorem Ls (t:Th) (k:Nat) (s:Sc) (hs:t.sc[k]? = some s) (hc:cI t.g.cur) (hl:cI s.l) (hn:t.sc.length<1000000000) (hst:t.c.st.length<1000000000) :
  Z0 33 [eo t,.d (.int .i64 k)] (.tu [eo (xJ t k s),.d (.str s.nm),fz (pG t k s)]):=by
 have hk:=(aA.1 hs).1;have e1:(t.sc.map eW).length=t.sc.length:=aI _;have h1:=F0 t k hk hc (by rw [hs];exact hl) hn;have h2:=Jy ((t.sc.map eW).take k);have h3:=T_ t.c s.fr s.he s.tr;have h4:=tI (FV t.c s.fr s.he s.tr) ⟨3,0,s.nm,s.l.s,s.l.i⟩ (by
  unfold FV iB;rw [af];omega)
 have e2:(t.sc.take k).map eW=(t.sc.map eW).take k:=fo;generalize hb:jS t k=b at h1;unfold pG xJ;rw [hb];unfold eo fC;simp only [e2];refine sh0 Tryz.f33 ?_
 repeat' ((conv=>whnf);first | exact zf | refine zm ?_ | refine zc h1 ?_ | refine zc h2 ?_ | refine zc h3 ?_ | refine zc h4 ?_ | refine ⟨eW s,⟨by omega,by simp [hs],rfl⟩,?_⟩ | refine zt ?_ | refine zu ?_ | intro _)
def qq (t:Th) (l:Lb) (tk ro now:Int) (nm:List UInt8):Sc:=⟨nm,fA l,now+tk,t.c.fr.length,t.c.st.length,t.c.tr.length,t.g,t.pa,t.ma+1,t.ro - 1 - ro⟩
def Bp (t:Th) (fn vs:Int) (a:Va) (mk:Int) (l:Lb) (tk ro now:Int) (nm:List UInt8):Th:=
 { t with sc:=t.sc ++ [qq t l tk ro now nm],c:=gF t.c fn vs [a] mk,g:=⟨t.g.cur,fA l⟩,pa:=nm,ma:=0,ro:=ro }
def dG (t:Th) (l:Lb) (tk ro:Int):Int:=
 if tk<1∨1000<tk then -7 else if ro<0∨999<ro then -5 else if bV t.g l≠0 then bV t.g l else if t.ro≤ro then -5 else if du t.c=false then -6 else 0
section
variable (t:Th) (fn vs:Int) (a:Va) (mk:Int) (l:Lb) (tk ro now:Int)
def iY:Prop:=Z0 254 [eo t,.d (.int .i64 fn),.d (.int .i64 vs),jl a,.d (.int .u8 mk),jT l,.d (.int .i64 tk),.d (.int .i64 ro),.d (.int .i64 now)] (.tu [eo t,.d (.int .i64 (dG t l tk ro))])
theorem zV (h:tk<1∨1000<tk):iY t fn vs a mk l tk ro now:=by
 unfold iY dG;rw [ζ h];rcases h with h | h
 ·refine sh0 Tryz.f254 ?_
  exact zk0
 ·refine sh0 Tryz.f254 ?_
  exact zk0
theorem Bo (h0:¬(tk<1∨1000<tk)) (h:ro<0∨999<ro):iY t fn vs a mk l tk ro now:=by
 unfold iY dG;rw [η h0,ζ h];rcases h with h | h
 ·refine sh0 Tryz.f254 ?_
  exact zk0
 ·refine sh0 Tryz.f254 ?_
  exact zk0
theorem zU (hg:jX t.g) (hl:cI l) (h0:¬(tk<1∨1000<tk)) (h1:¬(ro<0∨999<ro)) (h:bV t.g l≠0):iY t fn vs a mk l tk ro now:=by
 have hw:=fY t.g l hg hl;unfold iY dG;rw [η h0,η h1,ζ h];refine sh0 Tryz.f254 ?_
 exact zk1 hw
theorem zX (hg:jX t.g) (hl:cI l) (h0:¬(tk<1∨1000<tk)) (h1:¬(ro<0∨999<ro)) (h:bV t.g l=0) (h2:t.ro≤ro) (p:List Nat) (n:Nat) (hp:t.pa=cR p) (hm:t.ma=n) (hp0:p≠[]) (hpl:p.length<24) (hps:∀n∈p,n<100) (hn:n<100):iY t fn vs a mk l tk ro now:=by
 have hw:=fY t.g l hg hl;rw [h] at hw;unfold iY dG;rw [η h0,η h1,η (by simp [h]),ζ h2]
 by_cases hr:t.ro<1
 ·have hnm:=yn t hr;refine sh0 Tryz.f254 ?_
  exact zk2 hw hnm
 ·have hnm:=sM t p n hp hm hp0 hpl hps hn (by omega) (by omega);refine sh0 Tryz.f254 ?_
  exact zk2 hw hnm
theorem zY (hg:jX t.g) (hl:cI l) (h0:¬(tk<1∨1000<tk)) (h1:¬(ro<0∨999<ro)) (h:bV t.g l=0) (h2:¬t.ro≤ro) (hr2:t.ro<1000000000) (p:List Nat) (n:Nat) (hp:t.pa=cR p) (hm:t.ma=n) (hp0:p≠[]) (hpl:p.length<24) (hps:∀n∈p,n<100) (hn:n<100)
  (hf:t.c.fr.length<1000000000) (h3:du t.c=false):iY t fn vs a mk l tk ro now:=by
 have hw:=fY t.g l hg hl;rw [h] at hw;have hnm:=sM t p n hp hm hp0 hpl hps hn (by omega) hr2;have he:=kj t.c fn vs [a] mk hf (by simp);unfold mK at he;rw [h3] at he;unfold iY dG;rw [η h0,η h1,η (by simp [h]),η h2,ζ h3];refine sh0 Tryz.f254 ?_
 exact zk3 hw hnm he
theorem uP (hg:jX t.g) (hl:cI l) (h0:¬(tk<1∨1000<tk)) (h1:¬(ro<0∨999<ro)) (h:bV t.g l=0) (h2:¬t.ro≤ro) (hr2:t.ro<1000000000) (p:List Nat) (n:Nat) (hp:t.pa=cR p) (hm:t.ma=n) (hp0:p≠[]) (hpl:p.length<24) (hps:∀n∈p,n<100) (hn:n<100)
  (hf:t.c.fr.length<1000000000) (hsc:t.sc.length<1000000000) (hw0:0≤now∧now<1000000000) (h3:du t.c=true) :
  Z0 254 [eo t,.d (.int .i64 fn),.d (.int .i64 vs),jl a,.d (.int .u8 mk),jT l,.d (.int .i64 tk),.d (.int .i64 ro),.d (.int .i64 now)] (.tu [eo (Bp t fn vs a mk l tk ro now (cR (p ++ [n]))),.d (.int .i64 0)]):=by
 have hw:=fY t.g l hg hl;rw [h] at hw;have hnm:=sM t p n hp hm hp0 hpl hps hn (by omega) hr2;have he:=kj t.c fn vs [a] mk hf (by simp);unfold mK at he;rw [h3] at he;have hnr:(kA t).ro=t.ro - 1:=rfl;have hno:=j_ l hl;have ib:=Jy (t.sc.map eW);have e1:(t.sc.map eW).length=t.sc.length:=aI _;have e2:(t.sc ++ [qq t l tk ro now (cR (p ++ [n]))]).map eW=t.sc.map eW ++ [eW (qq t l tk ro now (cR (p ++ [n])))]:=by simp
 have e3:((t.c.fr.map bU).length:Int)=t.c.fr.length:=by simp
 have e4:((t.c.st.map cK).length:Int)=t.c.st.length:=by simp
 have e5:((t.c.tr.map eO).length:Int)=t.c.tr.length:=by simp
 unfold Bp eo fC;simp only [e2];unfold qq;rw [←e3,←e4,←e5];refine sh0 Tryz.f254 ?_
 repeat' ((conv=>whnf);first | exact zf | refine zm ?_ | refine zc hw ?_ | refine zc hnm ?_ | refine zc he ?_ | refine zc hno ?_ | refine zc ib ?_ | refine zi0 ?_ | refine zt ?_ | refine zu ?_ | intro _)
 trace_state
end
end Go.Proofs.YtjpgfgajkjhonaaGreatDoor