/- Lemmas. Conditions: none. -/
import Derived.Test.YtjpgfgajkjhonaaGreatDoorQRAU
set_option maxHeartbeats 4000000
namespace Go.Proofs.YtjpgfgajkjhonaaGreatDoor
open Go.Vx
set_option maxRecDepth 100000
theorem Cz(l:List (List D))(n:Int):Z0 90 [.d (.sl 5 l),.d (.int .i64 n)] (.cl 5 (l.take (min (max n 0) l.length).toNat)):=by
 refine sh0 Tryz.f90 ?_
 exact zj0
theorem vl(l:List (List D))(n:Int):Z0 94 [.d (.sl 5 l),.d (.int .i64 n)] (.cl 5 (l.take (min (max n 0) l.length).toNat)):=by
 refine sh0 Tryz.f94 ?_
 exact zj0
theorem J6(l:List (List D))(n:Int):Z0 95 [.d (.sl 3 l),.d (.int .i64 n)] (.cl 3 (l.take (min (max n 0) l.length).toNat)):=by
 refine sh0 Tryz.f95 ?_
 exact zj0
theorem xu{α:Type}(l:List α):l.take (min (max (l.length:Int) 0) l.length).toNat=l:=cu (by omega)
theorem PF(l:List (List D))(a b c d e:D)(hl:l.length<1000000000):Z0 51 [.d (.sl 5 l),.ag [.d a,.d b,.d c,.d d,.d e]] (.d (.sl 5 (l++[[a,b,c,d,e]]))):=by
 refine sh0 Tryz.f51 ?_
 repeat' ((conv=>whnf);first|exact zf|refine zm ?_|refine zc (Cz _ _) ?_|intro _)
 exact cJ (κ (λx=>V.d (.sl 5 (x++[[a,b,c,d,e]]))) (xu l))
theorem Jv(l:List (List D))(a b c d e:D)(hl:l.length<1000000000):Z0 103 [.d (.sl 5 l),.ag [.d a,.d b,.d c,.d d,.d e]] (.d (.sl 5 (l++[[a,b,c,d,e]]))):=by
 refine sh0 Tryz.f103 ?_
 repeat' ((conv=>whnf);first|exact zf|refine zm ?_|refine zc (vl _ _) ?_|intro _)
 exact cJ (κ (λx=>V.d (.sl 5 (x++[[a,b,c,d,e]]))) (xu l))
theorem sL{K:KT}(l:List (List D))(hl:l.length<1000000000)(hk:K (.ret (.os 0)) [.rows 5 l]):Z1 50 [.d (.sl 5 l)] [] K:=by
 refine si0 Tryz.f50 ?_;cases l with
 |nil=>
  repeat' ((conv=>whnf);first|exact zf|refine zm ?_|refine And.intro ?_ ?_|intro _)
  all_goals exact hk
 |cons r l=>
  repeat' ((conv=>whnf);first|exact zf|refine zm ?_|intro _)
  all_goals exact hk
theorem sK{K:KT}(l:List (List D))(hl:l.length<1000000000)(hk:K (.ret (.os 0)) [.rows 5 l]):Z1 114 [.d (.sl 5 l)] [] K:=by
 refine si0 Tryz.f114 ?_;cases l with
 |nil=>
  repeat' ((conv=>whnf);first|exact zf|refine zm ?_|refine And.intro ?_ ?_|intro _)
  all_goals exact hk
 |cons r l=>
  repeat' ((conv=>whnf);first|exact zf|refine zm ?_|intro _)
  all_goals exact hk
theorem Jg{K:KT}(l:List (List D))(hl:l.length<1000000000)(hk:K (.ret (.os 0)) [.rows 3 l]):Z1 278 [.d (.sl 3 l)] [] K:=by
 refine si0 Tryz.f278 ?_;cases l with
 |nil=>
  repeat' ((conv=>whnf);first|exact zf|refine zm ?_|refine And.intro ?_ ?_|intro _)
  all_goals exact hk
 |cons r l=>
  repeat' ((conv=>whnf);first|exact zf|refine zm ?_|intro _)
  all_goals exact hk
structure Va where
  k:Int
  n:Int
  nm:List UInt8
  ls:List UInt8
  li:List UInt8
def cE(v:Va):List D:=[.int .i64 v.k,.int .i64 v.n,.str v.nm,.str v.ls,.str v.li]
def Q_(a b:Va):Bool:=(a.k==b.k)&&((a.n==b.n)&&((a.nm==b.nm)&&((a.ls==b.ls)&&((a.li==b.li)&&true))))
theorem nt{b:Bool}(h:(!b)=true):b=false:=by cases b<;>simp_all
theorem nf{b:Bool}(h:(!b)=false):b=true:=by cases b<;>simp_all
structure Tr where
  f:Int
  h:Int
  a:Int
def eF(v:Tr):List D:=[.int .i64 v.f,.int .i64 v.h,.int .i64 v.a]
structure Fr where
  fu:Int
  pc:Int
  ba:Int
  ma:Int
  vars:List Va
def bS(f:Fr):List D:=[.int .i64 f.fu,.int .i64 f.pc,.int .i64 f.ba,.int .u8 f.ma,.sl 5 (f.vars.map cE)]
def Xw(f:Fr):V:=.ag [.d (.int .i64 f.fu),.d (.int .i64 f.pc),.d (.int .i64 f.ba),.d (.int .u8 f.ma),.d (.sl 5 (f.vars.map cE))]
def j7(v:Va):V:=.ag [.d (.int .i64 v.k),.d (.int .i64 v.n),.d (.str v.nm),.d (.str v.ls),.d (.str v.li)]
structure Co where
  fr:List Fr
  st:List Va
  tr:List Tr
def gZ(c:Co):V:=.ag [.d (.sl 5 (c.fr.map bS)),.d (.sl 5 (c.st.map cE)),.d (.sl 3 (c.tr.map eF))]
def gw{α:Type}(l:List α)(n:Int):List α :=l.take (min (max n 0) l.length).toNat
theorem gX{α β:Type}(f:α->β)(l:List α)(n:Int):gw (l.map f) n=(gw l n).map f:=by simp[gw]
def Ez(c:Co)(f h t:Int):Co:=⟨gw c.fr f,gw c.st h,gw c.tr t⟩
def jX(c:Co)(v:Va):Co:=⟨c.fr,c.st++[v],c.tr⟩
theorem sx(c:Co)(v:Va)(hl:c.st.length<1000000000):Z0 69 [gZ c,j7 v] (gZ (jX c v)):=by
 refine sh0 Tryz.f69 ?_;have hl':(c.st.map cE).length<1000000000:=by simpa using hl
 repeat' ((conv=>whnf);first|exact zf|refine zm ?_|refine zc (Jv _ _ _ _ _ _ hl') ?_|intro _)
 show Out.ret (V.ag [V.d (.sl 5 (c.fr.map bS)),V.d (.sl 5 (c.st.map cE++[cE v])),V.d (.sl 3 (c.tr.map eF))])=_;simp[gZ,jX]
def base(c:Co):Int:=match c.fr.getLast? with
 |some f=>f.ba
 |none=>0
def ez(c:Co)(n:Int):Bool:=decide (0<=n)&&(decide (0<=base c)&&(decide (base c<=c.st.length)&&decide (n<=c.st.length-base c)))
def rR(c:Co)(n:Int):Co:=⟨c.fr,gw c.st (c.st.length-n),c.tr⟩
def kf(c:Co)(n:Int):List Va:=c.st.drop (c.st.length-n).toNat
def A4(c:Co)(n:Int):V:=
 bif ez c n then .tu [gZ (rR c n),.d (.sl 5 ((kf c n).map cE)),.d (.bool true)]
 else .tu [gZ c,.d (.sl 5 []),.d (.bool false)]
theorem lH{c:Co}{n:Int}(h:ez c n=true):A4 c n=.tu [gZ (rR c n),.d (.sl 5 ((kf c n).map cE)),.d (.bool true)]:=by simp[A4,h]
theorem rz{c:Co}{n:Int}(h:ez c n=false):A4 c n=.tu [gZ c,.d (.sl 5 []),.d (.bool false)]:=by simp[A4,h]
theorem yM(c:Co)(n:Int)(hl:c.st.length<1000000000):Z0 113 [gZ c,.d (.int .i64 n)] (A4 c n):=by
  refine sh0 Tryz.f113 ?_
  have hl':(c.st.map cE).length<1000000000:=by simpa using hl
  have yes:∀(b:Int),base c=b->¬n<0->¬b<0->¬(c.st.length:Int)<b->¬(c.st.length:Int)-b<n->ez c n=true:=by
    intro b hb h1 h2 h3 h4
    simp[ez,hb]
    omega
  have no:∀(b:Int),base c=b->(n<0\/b<0\/(c.st.length:Int)<b\/(c.st.length:Int)-b<n)->ez c n=false:=by
    intro b hb h
    cases he:ez c n with
    |false=>rfl
    |true=>
      simp[ez,hb]at he
      omega
  repeat' ((conv=>whnf);first|exact zf|refine zm ?_|intro _)
  refine aW (λhpos=>?_) (λhzero=>?_)
  · have hpos:0<c.fr.length:=by simpa using hpos
    obtain⟨f,hf1⟩:∃f,c.fr[c.fr.length-1]?=some f:=⟨_,aA (by omega)⟩
    have hb:base c=f.ba:=by simp[base,dS,hf1]
    replace yes:=yes _ hb
    replace no:=no _ hb
    repeat' ((conv=>whnf);first|exact zf|refine zm ?_|intro _)
    refine⟨bS f,⟨by simp;omega,by simp[hf1],rfl⟩,?_⟩
    repeat' ((conv=>whnf);first|exact zf|refine zm ?_|refine sL _ (by simp;omega) ?_|refine zc (vl _ _) ?_|refine aW (λhb=>?_) (λhb=>?_)|intro _)
    all_goals
      first
        |(refine(cJ (rz (no ?_))).symm;simp at *;omega)
        | (have hy := yes (by simp at * <;> omega) (by simp at * <;> omega) (by simp at * <;> omega) (by simp at * <;> omega)
           rw[lH hy]
           show Out.ret (V.tu [V.ag [V.d (.sl 5 (c.fr.map bS)),V.d (.sl 5 (gw (c.st.map cE) ((c.st.map cE).length-n))),V.d (.sl 3 (c.tr.map eF))],V.d (.sl 5 ((c.st.map cE).drop (((c.st.map cE).length:Int)-n).toNat)),V.d (.bool true)])=_
           rw[gX]
           simp[gZ,rR,kf])
  · have hz:c.fr=[]:=by
      have:¬0<c.fr.length:=by simpa using hzero
      exact bP (by omega)
    have hb:base c=0:=by simp[base,hz]
    replace yes:=yes _ hb
    replace no:=no _ hb
    repeat' ((conv=>whnf);first|exact zf|refine zm ?_|refine sL _ (by simp;omega) ?_|refine zc (vl _ _) ?_|refine aW (λhb=>?_) (λhb=>?_)|intro _)
    all_goals
      first
        |(refine(cJ (rz (no ?_))).symm;simp at *;omega)
        | (have hy := yes (by simp at * <;> omega) (by simp at * <;> omega) (by simp at * <;> omega) (by simp at * <;> omega)
           rw[lH hy]
           show Out.ret (V.tu [V.ag [V.d (.sl 5 (c.fr.map bS)),V.d (.sl 5 (gw (c.st.map cE) ((c.st.map cE).length-n))),V.d (.sl 3 (c.tr.map eF))],V.d (.sl 5 ((c.st.map cE).drop (((c.st.map cE).length:Int)-n).toNat)),V.d (.bool true)])=_
           rw[gX]
           simp[gZ,rR,kf])
def Xv(t:Tr):V:=.ag [.d (.int .i64 t.f),.d (.int .i64 t.h),.d (.int .i64 t.a)]
theorem C0(t:Tr)(n:Int):Z0 279 [Xv t,.e [.int .i64 n] 0] (.d (.bool (decide (n<t.f)))):=by
 refine sh0 Tryz.f279 ?_
 exact zj0
def idx(p:Tr->Bool):List Tr->Nat
 |[]=>0
 |x::l=>bif p x then 0 else idx p l+1
theorem Hh(p:Tr->Bool):∀l,idx p l<=l.length
 |[]=>aM _
 |x::l=>by
  simp only[idx];cases p x
  .simp[Hh p l]
  .simp
theorem ti{p:Tr->Bool}:∀{l:List Tr}{i:Nat},(∀j x,j<i->l[j]?=some x->p x=false)->(∀x,l[i]?=some x->p x=true)->i<=l.length->idx p l=i
 |[],i,_,_,hi=>by simp at hi;simp[idx,hi]
 |x::l,0,_,h,_=>by simp[idx,h x rfl]
 |x::l,i+1,h1,h2,hi=>by
  simp only[idx,h1 0 x (by omega) rfl,ε];rw[ti (i:=i) (λj y hj hy=>h1 (j+1) y (by omega) (by simpa using hy)) (λy hy=>h2 y (by simpa using hy)) (by simpa using hi)]
def BD(p:Tr->Bool)(l:List Tr):Int:=if idx p l<l.length then idx p l else -1
theorem He(l:List Tr)(n:Int):Z0 320 [.d (.sl 3 (l.map eF)),.fc 279 [.e [.int .i64 n] 0]] (.d (.int .i64 (BD (λt=>decide (n<t.f)) l))):=by
 refine sh0 Tryz.f320 ?_
 repeat' ((conv=>whnf);first|exact zf|refine zm ?_|intro _)
 refine ya ⟨Nat,λi=>i<=l.length/\∀j x,j<i->l[j]?=some x->decide (n<x.f)=false,λi=>[(0,.d (.sl 3 (l.map eF))),(1,.fc 279 [.e [.int .i64 n] 0]),(7,.d (.int .i64 (l.map eF).length)),(8,.d (.int .i64 i))],λ_=>[],λi=>l.length-i,0,
  ⟨⟨ae _,by simp⟩,⟨rfl,rfl,rfl,rfl,trivial⟩,trivial,rfl⟩,λi ⟨hi,he⟩=>?_⟩
 repeat' ((conv=>whnf);first|exact zf|refine zm ?_|intro _)
 refine aW (λhlt=>?_) (λhge=>?_)
 .have hlt:i<l.length:=by simpa using hlt
  obtain⟨x,hx⟩:∃x,l[i]?=some x:=⟨_,aA hlt⟩
  repeat' ((conv=>whnf);first|exact zf|refine zm ?_|intro _)
  refine⟨eF x,⟨by omega,by simp[hx],rfl⟩,?_⟩
  repeat' ((conv=>whnf);first|exact zf|refine zm ?_|refine zc (C0 x n) ?_|intro _)
  refine aW (λhyes=>?_) (λhno=>?_)
  .skip
   repeat' ((conv=>whnf);first|exact zf|refine zm ?_|intro _)
   refine cJ (κ (λx=>V.d (.int .i64 x)) ?_);have:=ti (p:=λt=>decide (n<t.f)) he (λy hy=>by rw[hx]at hy;cases hy;exact hyes) hi;simp only[BD,this,hlt,if_true]
  .skip
   repeat' ((conv=>whnf);first|exact zf|refine zm ?_|intro _)
   refine⟨i+1,⟨hlt,λj y hj hy=>?_⟩,az hlt (bL i),⟨rfl,rfl,rfl,rfl,trivial⟩,trivial,rfl⟩
   by_cases hji:j=i
   .subst hji;rw[hx]at hy;cases hy;exact hno
   .exact he j y (by omega) hy
 .have hge:i=l.length:=by
   have:¬i<l.length:=by simpa using hge
   omega
  repeat' ((conv=>whnf);first|exact zf|refine zm ?_|intro _)
  refine cJ (κ (λx=>V.d (.int .i64 x)) ?_);have:=ti (p:=λt=>decide (n<t.f)) he (λy hy=>by simp[hge]at hy) hi;simp[BD,this,hge]
def keep(n:Int)(l:List Tr):List Tr:=l.filter λt=> !(decide (n<t.f))
theorem yk{n:Int}:∀{l:List Tr},idx (λt=>decide (n<t.f)) l=l.length->keep n l=l
 |[],_=>rfl
 |x::l,h=>by
  simp only[idx]at h;cases hx:decide (n<x.f) with
  |true=>rw[hx]at h;simp at h
  |false=>
   rw[hx]at h;simp only[ε,aX,Nat.add_right_cancel_iff]at h;have:=yk h;simp only[keep]at this⊢;rw[List.filter_cons_of_pos (by simp[hx]),this]
theorem vX{n:Int}:∀{l:List Tr},keep n (l.take (idx (λt=>decide (n<t.f)) l))=l.take (idx (λt=>decide (n<t.f)) l)
 |[]=>rfl
 |x::l=>by
  simp only[idx];cases hx:decide (n<x.f) with
  |true=>rfl
  |false=>
   simp only[ε,dV];have:=vX (n:=n) (l:=l);simp only[keep]at this⊢;rw[List.filter_cons_of_pos (by simp[hx]),this]
theorem Hi{n:Int}:∀{l:List Tr}{x:Tr},l[idx (λt=>decide (n<t.f)) l]?=some x->decide (n<x.f)=true
 |[],_,h=>by simp at h
 |y::l,x,h=>by
  simp only[idx]at h;cases hy:decide (n<y.f) with
  |true=>rw[hy]at h;simp at h;subst h;exact hy
  |false=>rw[hy]at h;exact Hi (by simpa using h)
theorem qY{n:Int}{l:List Tr}{j:Nat}{x:Tr}(h:l[j]?=some x):keep n (l.take (j+1))=keep n (l.take j)++(bif decide (n<x.f)then[]else[x]):=by
 rw[bc,h];simp only[keep,List.filter_append,Option.toList];cases hx:decide (n<x.f)<;>simp[hx]
theorem Eo{K:KT}(l:List Tr)(n:Int)(hl:l.length<1000000000)(hk:K (.ret (.d (.sl 3 ((keep n l).map eF)))) [.no,.cells [.d (.int .i64 n)]]):Z1 277 [.os 0,.fc 279 [.p 1 0]] [.rows 3 (l.map eF),.cells [.d (.int .i64 n)]] K:=by
 refine sh0 Tryz.f277 ?_;have hle:=Hh (λt=>decide (n<t.f)) l;have hst:=λx=>Hi (n:=n) (l:=l) (x:=x)
 repeat' ((conv=>whnf);first|exact zf|refine zm ?_|intro _)
 refine .inl ⟨_,He l n,rfl,?_⟩
 repeat' ((conv=>whnf);first|exact zf|refine zm ?_|intro _)
 refine aW (λhno=>?_) (λhyes=>?_)
 .have hall:keep n l=l:=by
   refine yk ?_
   by_cases h:idx (λt=>decide (n<t.f)) l<l.length
   .simp[BD,h]at hno
   .omega
  repeat' ((conv=>whnf);first|exact zf|refine zm ?_|intro _)
  rw[hall]at hk;exact hk
 .have hlt:idx (λt=>decide (n<t.f)) l<l.length:=by
   by_cases h:idx (λt=>decide (n<t.f)) l<l.length
   .exact h
   .simp[BD,h]at hyes
  have hix:BD (λt=>decide (n<t.f)) l=(idx (λt=>decide (n<t.f)) l:Nat):=by simp[BD,hlt]
  rw[hix];generalize BF:idx (λt=>decide (n<t.f)) l=i0 at *
  repeat' ((conv=>whnf);first|exact zf|refine zm ?_|intro _)
  have hkt:=vX (n:=n) (l:=l);rw[BF]at hkt;obtain⟨x0,hx0⟩:∃x,l[i0]?=some x:=⟨_,aA hlt⟩
  refine ya ⟨Nat×Nat×List Tr,λ(j,i,m)=>m.length=l.length/\i<j/\j<=l.length/\m.take i=keep n (l.take j)/\m.drop j=l.drop j,
   λ(j,i,_)=>[(0,.os 0),(1,.fc 279 [.p 1 0]),(5,.d (.int .i64 i)),(6,.d (.int .i64 j))],λ(_,_,m)=>[.rows 3 (m.map eF),.cells [.d (.int .i64 n)]],λ(j,_,_)=>l.length-j,(i0+1,i0,l),
   ⟨⟨rfl,by omega,hlt,by rw[qY hx0,hkt,hst x0 hx0];simp,rfl⟩,⟨rfl,rfl,rfl,rfl,trivial⟩,⟨rfl,.inl rfl,trivial⟩,rfl⟩,λ(j,i,m) ⟨h1,h2,h3,h4,h5⟩=>?_⟩
  repeat' ((conv=>whnf);first|exact zf|refine zm ?_|intro _)
  refine aW (λhlt=>?_) (λhge=>?_)
  .have hlt:j<m.length:=by simpa using hlt
   obtain⟨x,hx⟩:∃x,l[j]?=some x:=⟨_,aA (by omega)⟩
   have hmx:m[j]?=some x:=by
    have:=κ (λl=>l[0]?) h5;simpa[bF,hx]using this
   obtain⟨y,hy⟩:∃y,m[i]?=some y:=⟨_,aA (by omega)⟩
   repeat' ((conv=>whnf);first|exact zf|refine zm ?_|intro _)
   refine⟨eF x,by simp[hmx],?_⟩
   repeat' ((conv=>whnf);first|exact zf|refine zm ?_|intro _)
   refine .inl ⟨_,C0 x n,rfl,?_⟩
   repeat' ((conv=>whnf);first|exact zf|refine zm ?_|intro _)
   refine aW (λhyes=>?_) (λhno=>?_)
   .skip
    repeat' ((conv=>whnf);first|exact zf|refine zm ?_|intro _)
    refine⟨eF y,by simp[hy],⟨rfl,rfl,rfl⟩,?_⟩
    repeat' ((conv=>whnf);first|exact zf|refine zm ?_|intro _)
    refine⟨(j+1,i+1,m.set i x),⟨by simp[h1],by omega,by omega,?_,?_⟩,az (by omega) (bL j),⟨rfl,rfl,rfl,rfl,trivial⟩,⟨?_,.inl rfl,trivial⟩,rfl⟩
    .rw[qY hx,nt hyes,<-h4];simp only[ε];rw[bc,List.take_set_of_le (aM _),b_ (by omega)];rfl
    .rw[List.drop_set_of_lt (by omega)];have:=κ (List.drop 1) h5;simpa[List.drop_drop]using this
    .show B.rows 3 ((m.map eF).set i (eF x))=B.rows 3 ((m.set i x).map eF);rw[fX]
   .skip
    repeat' ((conv=>whnf);first|exact zf|refine zm ?_|intro _)
    refine⟨(j+1,i,m),⟨h1,by omega,by omega,?_,?_⟩,az (by omega) (bL j),⟨rfl,rfl,rfl,rfl,trivial⟩,⟨rfl,.inl rfl,trivial⟩,rfl⟩
    .rw[qY hx,nf hno,h4];simp
    .have:=κ (List.drop 1) h5;simpa[List.drop_drop]using this
  .have hj:j=l.length:=by
    have:¬j<m.length:=by simpa using hge
    omega
   subst hj;rw[cO]at h4
   repeat' ((conv=>whnf);first|exact zf|refine zm ?_|intro _)
   show K (.ret (.d (.sl 3 (List.drop 0 (List.take i (List.take i (m.map eF)++List.replicate ((m.map eF).length-i) [.int .i64 0,.int .i64 0,.int .i64 0])))))) [.no,.cells [.d (.int .i64 n)]];have e:List.drop 0 (List.take i (List.take i (m.map eF)++List.replicate ((m.map eF).length-i) [D.int .i64 0,.int .i64 0,.int .i64 0]))=(keep n l).map eF:=by
    rw[List.drop_zero,List.take_append_of_le_length (by simp;omega),List.take_take,Nat.min_self,<-e_,h4]
   rw[e];exact hk
def num(n:Int):Va:=⟨1,n,[],[],[]⟩
def qt(c:Co)(t:Tr):Bool:=decide (1<=t.f)&&(decide (t.f<=c.fr.length)&&(decide (0<=t.h)&&decide (t.h<=c.st.length)))
def vJ(l:List Fr)(i:Nat)(pc:Int):List Fr:=match l[i]? with
 |some f=>l.set i {f with pc:=pc}
 |none=>l
def sT(c:Co)(t:Tr)(code:Int):Co:=⟨vJ (gw c.fr t.f) (t.f-1).toNat t.a,gw c.st t.h++[num code],gw c.tr (c.tr.length-1)⟩
def jg(c:Co)(code kp:Int):V:=
 bif decide ((c.tr.length:Int)-1<max kp 0)then .tu [gZ c,.d (.bool false)] else
 match c.tr.getLast? with
 |none=>.tu [gZ c,.d (.bool false)]
 |some t=>bif qt c t then .tu [gZ (sT c t code),.d (.bool true)]else .tu [gZ c,.d (.bool false)]
theorem Kg(c:Co)(code kp:Int)(hf:c.fr.length<1000000000)(hs:c.st.length<1000000000):Z0 168 [gZ c,.d (.int .i64 code),.d (.int .i64 kp)] (jg c code kp):=by
 cases hkp:decide ((c.tr.length:Int)-1<max kp 0) with
 |true=>
  have hr:jg c code kp=.tu [gZ c,.d (.bool false)]:=by simp only[jg,hkp,δ]
  have hkp':decide (((c.tr.map eF).length:Int)-1<max kp 0)=true:=by simpa using hkp
  rw[hr];refine sh0 Tryz.f168 ?_
  repeat' ((conv=>whnf);first|exact zf|refine zm ?_|intro _)
  refine aW (λhkp2=>?_) (λhkp2=>by rw[hkp']at hkp2;cases hkp2)
  exact zj0
 |false=>
  have hkp':decide (((c.tr.map eF).length:Int)-1<max kp 0)=false:=by simpa using hkp
  have hpos:0<c.tr.length:=by simp at hkp;omega
  obtain⟨t,ht⟩:∃t,c.tr[c.tr.length-1]?=some t:=⟨_,aA (by omega)⟩
  have htl:c.tr.getLast?=some t:=by rw[dS];exact ht
  cases hy:qt c t with
  |false=>
   have hr:jg c code kp=.tu [gZ c,.d (.bool false)]:=by simp only[jg,hkp,htl,hy,ε]
   rw[hr];refine sh0 Tryz.f168 ?_
   repeat' ((conv=>whnf);first|exact zf|refine zm ?_|intro _)
   refine aW (λhkp2=>by rw[hkp']at hkp2;cases hkp2) (λhkp2=>?_)
   repeat' ((conv=>whnf);first|exact zf|refine zm ?_|intro _)
   refine⟨eF t,⟨by simp;omega,by simp[ht],rfl⟩,?_⟩
   repeat' ((conv=>whnf);first|exact zf|refine zm ?_|refine sK _ (by simp at *;omega) ?_|refine aW (λhb=>?_) (λhb=>?_)|intro _)
   exfalso;simp[qt]at *;omega
  |true=>
   have hr:jg c code kp=.tu [gZ (sT c t code),.d (.bool true)]:=by simp only[jg,hkp,htl,hy,ε,δ]
   rw[hr];have h1:1<=t.f/\t.f<=c.fr.length/\0<=t.h/\t.h<=c.st.length:=by
    simp[qt]at hy;omega
   obtain⟨f,hf⟩:∃f,c.fr[(t.f-1).toNat]?=some f:=⟨_,aA (by omega)⟩
   have hrow:(List.take (min (max t.f 0) (List.map bS c.fr).length).toNat (List.map bS c.fr))[(t.f-1).toNat]?=some (bS f):=by
    rw[ao,ζ (by simp;omega),aB,hf];rfl
   have hfc:(gw c.fr t.f)[(t.f-1).toNat]?=some f:=by
    unfold gw;rw[ao,ζ (by omega),hf]
   have hst:vJ (gw c.fr t.f) (t.f-1).toNat t.a=(gw c.fr t.f).set (t.f-1).toNat {f with pc:=t.a}:=by simp only[vJ,hfc]
   refine sh0 Tryz.f168 ?_
   repeat' ((conv=>whnf);first|exact zf|refine zm ?_|intro _)
   refine aW (λhkp2=>by rw[hkp']at hkp2;cases hkp2) (λhkp2=>?_)
   repeat' ((conv=>whnf);first|exact zf|refine zm ?_|intro _)
   refine⟨eF t,⟨by simp;omega,by simp[ht],rfl⟩,?_⟩
   repeat' ((conv=>whnf);first|exact zf|refine zm ?_|intro _)
   refine aW (λhb=>absurd hb (by simp;omega)) (λhb=>?_)
   repeat' ((conv=>whnf);first|exact zf|refine zm ?_|intro _)
   refine aW (λhb=>absurd hb (by simp;omega)) (λhb=>?_)
   repeat' ((conv=>whnf);first|exact zf|refine zm ?_|intro _)
   refine aW (λhb=>absurd hb (by simp;omega)) (λhb=>?_)
   repeat' ((conv=>whnf);first|exact zf|refine zm ?_|intro _)
   refine aW (λhb=>absurd hb (by simp;omega)) (λhb=>?_)
   repeat' ((conv=>whnf);first|exact zf|refine zm ?_|refine sK _ (by simp at *;omega) ?_|refine zc (Cz _ _) ?_|intro _)
   refine⟨bS f,hrow,⟨rfl,rfl,rfl⟩,?_⟩
   repeat' ((conv=>whnf);first|exact zf|refine zm ?_|refine zc (vl _ _) ?_|refine⟨_,Jv _ _ _ _ _ _ (by simp;omega),?_⟩|refine(Jv _ _ _ _ _ _ (by simp;omega)).use ?_|refine zc (J6 _ _) ?_|intro _)
   show Out.ret (V.tu [V.ag [V.d (.sl 5 ((gw (c.fr.map bS) t.f).set (t.f-1).toNat (bS {f with pc:=t.a}))),V.d (.sl 5 (gw (c.st.map cE) t.h++[cE (num code)])),V.d (.sl 3 (gw (c.tr.map eF) ((c.tr.map eF).length-1)))],V.d (.bool true)])=_;rw[gX,gX,gX];simp only[gZ,sT,hst,fX,bZ,cG,kC,aH]
def oU(c:Co):Bool:=ez c 1&&decide (0<c.fr.length)
def zeroV:Va:=⟨0,0,[],[],[]⟩
def fw(c:Co):Co:=⟨gw c.fr (c.fr.length-1),gw c.st (base c),keep (c.fr.length-1) c.tr⟩
def rQ(c:Co):Va:=((kf c 1)[0]?).getD zeroV
def Dq(c:Co):V:=bif oU c then .tu [gZ (fw c),j7 (rQ c),.d (.bool true)]else .tu [gZ c,j7 zeroV,.d (.bool false)]
theorem GN(c:Co)(hf:c.fr.length<1000000000)(hs:c.st.length<1000000000)(ht:c.tr.length<1000000000):Z0 223 [gZ c] (Dq c):=by
 refine sh0 Tryz.f223 ?_;cases hp:ez c 1 with
 |false=>
  have hr:A4 c 1=.tu [gZ c,.d (.sl 5 []),.d (.bool false)]:=rz hp;have hpop:=yM c 1 hs;rw[hr]at hpop
  repeat' ((conv=>whnf);first|exact zf|refine zm ?_|refine zc hpop ?_|intro _)
  simp only[Dq,oU,hp,nU,ε];rfl
 |true=>
  have hr:A4 c 1=.tu [gZ (rR c 1),.d (.sl 5 ((kf c 1).map cE)),.d (.bool true)]:=lH hp;have hpop:=yM c 1 hs;rw[hr]at hpop
  repeat' ((conv=>whnf);first|exact zf|refine zm ?_|refine zc hpop ?_|intro _)
  refine aW (λhz=>?_) (λhz=>?_)
  .have hz:c.fr.length=0:=by simpa using hz
   have hy:oU c=false:=by simp[oU,hz]
   repeat' ((conv=>whnf);first|exact zf|refine zm ?_|intro _)
   simp only[Dq,hy,ε];rfl
  .have hz:0<c.fr.length:=by
    have:¬c.fr.length=0:=by simpa using hz
    omega
   have hy:oU c=true:=by simp[oU,hz,hp]
   simp only[Dq,hy,δ];obtain⟨f,hf1⟩:∃f,c.fr[c.fr.length-1]?=some f:=⟨_,aA (by omega)⟩
   have hb:base c=f.ba:=by simp[base,dS,hf1]
   repeat' ((conv=>whnf);first|exact zf|refine zm ?_|intro _)
   refine⟨bS f,⟨by simp;omega,by simp[hf1],rfl⟩,?_⟩
   repeat' ((conv=>whnf);first|exact zf|refine zm ?_|refine zc (vl _ _) ?_|refine zc (Cz _ _) ?_|refine Jg _ (by simp;omega) ?_|refine Eo _ _ ht ?_|intro _)
   obtain⟨v,hv⟩:∃v,(kf c 1)[0]?=some v:=by
    refine⟨_,aA ?_⟩;simp[kf,ez]at *;omega
   refine⟨cE v,⟨by omega,by simp[hv],rfl⟩,?_⟩
   repeat' ((conv=>whnf);first|exact zf|refine zm ?_|intro _)
   refine Eq.trans (show _=Out.ret (V.tu [V.ag [V.d (.sl 5 _),V.d (.sl 5 _),V.d (.sl 3 _)],V.ag [V.d _,V.d _,V.d _,V.d _,V.d _],V.d (.bool true)])from rfl) ?_;show Out.ret (V.tu [V.ag [V.d (.sl 5 (gw (c.fr.map bS) ((c.fr.map bS).length-1))),V.d (.sl 5 (gw (c.st.map cE) f.ba)),V.d (.sl 3 ((keep ((c.fr.map bS).length-1) c.tr).map eF))],j7 v,V.d (.bool true)])=_;rw[gX,gX];simp only[gZ,fw,rQ,hv,hb,aH,bo]
def qp(n:Nat):List Va:=List.replicate n (num 0)
def db(c:Co):Bool:=decide (c.fr.length<16)
def gA(c:Co)(fn vs:Int)(l:List Va)(ma:Int):Co:=⟨c.fr++[⟨fn,0,c.st.length,ma,l++qp (min (max vs 0) 16).toNat⟩],c.st,c.tr⟩
def mC(c:Co)(fn vs:Int)(l:List Va)(ma:Int):V:=bif db c then .tu [gZ (gA c fn vs l ma),.d (.bool true)]else .tu [gZ c,.d (.bool false)]
theorem kV(c:Co)(fn vs:Int)(l:List Va)(ma:Int)(hf:c.fr.length<1000000000)(ha:l.length<1000000000):Z0 20 [gZ c,.d (.int .i64 fn),.d (.int .i64 vs),.d (.sl 5 (l.map cE)),.d (.int .u8 ma)] (mC c fn vs l ma):=by
 refine sh0 Tryz.f20 ?_
 repeat' ((conv=>whnf);first|exact zf|refine zm ?_|intro _)
 refine aW (λhno=>?_) (λhyes=>?_)
 .have hno:16<=(c.fr.length:Int):=by simpa using hno
  repeat' ((conv=>whnf);first|exact zf|refine zm ?_|intro _)
  have hy:db c=false:=by simp[db];omega
  simp only[mC,hy,ε];rfl
 .have hyes:(c.fr.length:Int)<16:=by simpa using hyes
  have hy:db c=true:=by simp[db];omega
  have hr:mC c fn vs l ma=.tu [gZ (gA c fn vs l ma),.d (.bool true)]:=by simp only[mC,hy,δ]
  rw[hr]
  repeat' ((conv=>whnf);first|exact zf|refine zm ?_|refine sL _ (by simp;omega) ?_|intro _)
  conv=>whnf
  refine HK [12,18,19,23,24,25,26,27,28,29] (λp:Nat×List Va=>p.1<=(min (max vs 0) 16).toNat/\p.2=l++qp p.1) (λp=>[(12,.os 2),(23,.d (.int .i64 p.1))]) (λp=>[.cells [.d (.sl 5 (c.fr.map bS)),.d (.sl 5 (c.st.map cE)),.d (.sl 3 (c.tr.map eF))],.cells [.nl 5,.nl 5,.nl 3],.rows 5 (p.2.map cE)]) (λp=>(min (max vs 0) 16).toNat-p.1) (0,l) ⟨ae _,by simp[qp]⟩ ?_ ?_ ?_ (λ⟨i,r⟩ ⟨hi,hr⟩=>?_)
  .exact zzz
  .exact zzz
  .exact rfl
  repeat' ((conv=>whnf);first|exact zf|refine zm ?_|intro _)
  refine aW (λhlt=>?_) (λhge=>?_)
  .have hlt:i<(min (max vs 0) 16).toNat:=by simp at hlt;omega
   have hrl:r.length<1000000100:=by simp at hr;simp[hr,qp];omega
   repeat' ((conv=>whnf);first|exact zf|refine zm ?_|intro _)
   refine⟨(i+1,r++[num 0]),⟨hlt,?_⟩,az hlt (bL i),zzz,?_,rfl⟩
   .simp at hr;simp[hr,qp,List.replicate_succ']
   .refine⟨.inl rfl,.inl rfl,?_,trivial⟩;simp[cE,num];rfl
  .have hge:i=(min (max vs 0) 16).toNat:=by simp at hge hi;omega
   repeat' ((conv=>whnf);first|exact zf|refine zm ?_|intro _)
   conv=>whnf
   refine .inr ?_
   repeat' ((conv=>whnf);first|exact zf|refine zm ?_|refine⟨_,PF _ _ _ _ _ _ (by simp;omega),?_⟩|refine(PF _ _ _ _ _ _ (by simp;omega)).use ?_|intro _)
   show Out.ret (V.tu [V.ag [V.d (.sl 5 (c.fr.map bS++[[.int .i64 fn,.int .i64 0,.int .i64 (c.st.map cE).length,.int .u8 ma,.sl 5 (r.map cE)]])),V.d (.sl 5 (c.st.map cE)),V.d (.sl 3 (c.tr.map eF))],V.d (.bool true)])=_;simp at hr;simp[gZ,gA,bS,hr,hge]
structure Sc where
  nm:List UInt8
  l:Lb
  un:Int
  fr:Int
  he:Int
  tr:Int
  g:Gs
  pa:List UInt8
  ma:Int
  ro:Int
def fM(s:Sc):List D:=[.str s.nm,.str s.l.s,.str s.l.i,.int .i64 s.un,.int .i64 s.fr,.int .i64 s.he,.int .i64 s.tr,.str s.g.cur.s,.str s.g.cur.i,.str s.g.fo.s,.str s.g.fo.i,.str s.pa,.int .i64 s.ma,.int .i64 s.ro]
def Wa(s:Sc):V:=.ag ((fM s).map .d)
structure Th where
  id:List UInt8
  pa:List UInt8
  g:Gs
  c:Co
  sc:List Sc
  ma:Int
  ro:Int
  st:Int
  on:List UInt8
  v:Va
  ex:Bool
def ei(t:Th):List D:=[.str t.id,.str t.pa,.str t.g.cur.s,.str t.g.cur.i,.str t.g.fo.s,.str t.g.fo.i,.sl 5 (t.c.fr.map bS),.sl 5 (t.c.st.map cE),.sl 3 (t.c.tr.map eF),.sl 14 (t.sc.map fM),.int .i64 t.ma,.int .i64 t.ro,.int .i64 t.st,.str t.on,
 .int .i64 t.v.k,.int .i64 t.v.n,.str t.v.nm,.str t.v.ls,.str t.v.li,.bool t.ex]
def ep(t:Th):V:=.ag ((ei t).map .d)
def dT:Va:=⟨0,0,[],[],[]⟩
def oV:Lb:=⟨[],[]⟩
def Ti:Gs:=⟨oV,oV⟩
def Gr:Sc:=⟨[],oV,0,0,0,0,Ti,[],0,0⟩
def yW(id:List UInt8)(g:Gs)(c:Co)(ro:Int):Th:=⟨id,id,g,c,[],0,ro,0,[],dT,false⟩
theorem Gy(id:List UInt8)(g:Gs)(c:Co)(ro:Int):Z0 22 [.d (.str id),FR g,gZ c,.d (.int .i64 ro)] (ep (yW id g c ro)):=by
 refine sh0 Tryz.f22 ?_
 exact zj0
def DU(t:Th):V:=.ag [.d (.sl 14 (t.sc.map fM)),.d (.str t.g.cur.s),.d (.str t.g.cur.i)]
theorem CK(t:Th):Z0 40 [ep t] (DU t):=by
 refine sh0 Tryz.f40 ?_
 exact zj0
def bQ(t:Th):Sc:=t.sc.getLast?.getD Gr
theorem Ha(t:Th):Z0 104 [DU t] (.tu [Wa (bQ t),.d (.bool (!t.sc.isEmpty))]):=by
 have hl:(t.sc.map fM).length=t.sc.length:=aH _;cases hs:t.sc.getLast? with
 |none=>
  have h0:t.sc=[]:=List.getLast?_eq_none_iff.1 hs;unfold bQ DU;rw[hs,h0];refine sh0 Tryz.f104 ?_
  exact zk0
 |some s=>
  have hne:t.sc≠[]:=by intro h;rw[h]at hs;cases hs
  have hpos:0<t.sc.length:=iv.2 hne;have hem:t.sc.isEmpty=false:=by rw[List.isEmpty_eq_false_iff];exact hne
  have hget:(t.sc.map fM)[t.sc.length-1]?=some (fM s):=by
   rw[aB,<-dS,hs];rfl
  unfold bQ;rw[hs,hem];refine sh0 Tryz.f104 ?_;have hn:(((t.sc.map fM).length:Int)-1).toNat=t.sc.length-1:=by omega
  repeat' ((conv=>whnf);first|exact zf|refine zm ?_|refine zi0 ?_|refine⟨fM s,⟨by omega,by rw[hn];exact hget,rfl⟩,?_⟩|refine zt ?_|refine zu ?_|intro _)
theorem xI(t:Th):Z0 70 [ep t] (.tu [.d (.int .i64 (bQ t).fr),.d (.int .i64 (bQ t).tr)]):=by
 have h1:=CK t;have h2:=Ha t;refine sh0 Tryz.f70 ?_
 exact zj2 h1 h2
def jD(now:Int):List Sc->Nat
 |[]=>0
 |s::r=>bif decide (s.un<=now)then 0 else jD now r+1
def Ej(t:Th)(now:Int):Int:=if jD now t.sc<t.sc.length then jD now t.sc else -1
theorem qa{now:Int}:∀{l:List Sc}{i:Nat},(∀s∈l.take i,¬s.un<=now)->i<=l.length->jD now l=i+jD now (l.drop i)
 |l,0,_,_=>by simp
 |[],i+1,_,h=>by simp at h
 |s::l,i+1,h,hi=>by
  rw[jD,τ (h s (by simp)),ε,mM,qa (i:=i) (λx hx=>h x (by rw[dV];exact cM _ hx)) (by simpa using hi)];omega
theorem UO(t:Th)(now:Int):Z0 41 [DU t,.d (.int .i64 now)] (.d (.int .i64 (Ej t now))):=by
 have hl:(t.sc.map fM).length=t.sc.length:=aH _;refine sh0 Tryz.f41 ?_
 repeat' ((conv=>whnf);first|exact zf|refine zm ?_|intro _)
 conv=>whnf
 refine bM [(1,.d (.int .i64 now)),(8,.d (.sl 14 (t.sc.map fM))),(9,.d (.int .i64 (t.sc.map fM).length))] (λi:Nat=>i<=t.sc.length/\∀s∈t.sc.take i,¬s.un<=now) (λi=>[(10,.d (.int .i64 i))]) (λ_=>[]) (λi=>t.sc.length-i) 0 ⟨ae _,λ_ h=>nomatch h⟩ ?_ ?_ ?_ (λi hi=>?_)
 .exact zzz
 .exact zzz
 .exact rfl
 repeat' ((conv=>whnf);first|exact zf|refine zm ?_|intro _)
 refine aW (λhlt=>?_) (λhge=>?_)
 .have hlt:i<t.sc.length:=by rw[<-hl];simpa using hlt
  obtain⟨s,hs⟩:∃s,t.sc[i]?=some s:=⟨_,aA hlt⟩
  have htk:t.sc.take (i+1)=t.sc.take i++[s]:=by rw[bc,hs];rfl
  have hdr:t.sc.drop i=s::t.sc.drop (i+1):=by
   rw[bO hlt];rw[aA hlt]at hs;rw[aq hs]
  have hk:=qa hi.2 hi.1;rw[hdr,jD]at hk
  repeat' ((conv=>whnf);first|exact zf|refine zm ?_|intro _)
  refine⟨fM s,⟨by omega,by simp[hs],rfl⟩,?_⟩
  repeat' ((conv=>whnf);first|exact zf|refine zm ?_|intro _)
  refine aW (λhy=>?_) (λhn=>?_)
  .skip
   repeat' ((conv=>whnf);first|exact zf|refine zm ?_|intro _)
   refine cJ (κ (λx=>V.d (D.int .i64 x)) ?_);rw[show decide (s.un<=now)=true from hy,δ]at hk;unfold Ej;rw[hk,ζ (by omega)];simp
  .skip
   repeat' ((conv=>whnf);first|exact zf|refine zm ?_|intro _)
   refine⟨i+1,⟨hlt,?_⟩,az hlt (bL i),zzz,zzz,rfl⟩;rw[htk];intro x hx;exact(aR.1 hx).elim (hi.2 x) λh=>by rw[aL.1 h];exact ι hn
 .have hge:i=t.sc.length:=by
   have:¬i<t.sc.length:=by rw[<-hl];simpa using hge
   omega
  have hk:=qa hi.2 hi.1;rw[hge,kq]at hk;have:Ej t now = -1:=by unfold Ej;rw[hk,η (by simp[jD])]
  rw[this]
  exact zj0
theorem UP(t:Th)(now:Int):Z0 11 [ep t,.d (.int .i64 now)] (.d (.int .i64 (Ej t now))):=by
 have h1:=CK t;have h2:=UO t now;refine sh0 Tryz.f11 ?_
 exact zj2 h1 h2
def eW(t:Th)(v:Va)(ex:Bool):Th:={t with st:=bif !t.sc.isEmpty then 2 else bif ex then 4 else 3,v:=v,ex:=ex,on:=[]}
theorem q8(t:Th)(v:Va)(ex:Bool):Z0 110 [ep t,j7 v,.d (.bool ex)] (ep (eW t v ex)):=by
 have hl:(t.sc.map fM).length=t.sc.length:=aH _;unfold eW;cases he:t.sc.isEmpty with
 |true=>
  have h0:t.sc=[]:=gD.1 he;cases ex<;>refine sh0 Tryz.f110 ?_
  .exact zk0
  .exact zk0
 |false=>
  have hpos:0<t.sc.length:=iv.2 (by simpa using he);refine sh0 Tryz.f110 ?_
  exact zk0
structure Wt where
  id:List UInt8
  put:Bool
  v:Va
def eL(x:Wt):List D:=[.str x.id,.bool x.put,.int .i64 x.v.k,.int .i64 x.v.n,.str x.v.nm,.str x.v.ls,.str x.v.li]
structure Vr where
  full:Bool
  v:Va
  q:List Wt
structure Ob where
  k:Int
  l:Lb
  v:Va
  ex:Bool
  dn:Bool
  va:Vr
  fu:Int
  ma:Int
def fD(o:Ob):List D:=[.int .i64 o.k,.str o.l.s,.str o.l.i,.int .i64 o.v.k,.int .i64 o.v.n,.str o.v.nm,.str o.v.ls,.str o.v.li,.bool o.ex,.bool o.dn,.bool o.va.full,
 .int .i64 o.va.v.k,.int .i64 o.va.v.n,.str o.va.v.nm,.str o.va.v.ls,.str o.va.v.li,.sl 7 (o.va.q.map eL),.int .i64 o.fu,.int .u8 o.ma]
def gJ(o:Ob):V:=.ag ((fD o).map .d)
def Ag:Vr:=⟨false,dT,[]⟩
def fK:Ob:=⟨0,oV,dT,false,false,Ag,0,0⟩
def jo(t:Th):Th:={t with ma:=t.ma+1,ro:=t.ro-1}
theorem sB(t:Th)(l:List Nat)(n:Nat)(hp:t.pa=bm l)(hm:t.ma=n)(h0:l≠[])(hl:l.length<24)(hs:∀n∈l,n<100)(hn:n<100)(hr:1<=t.ro)(hr2:t.ro<1000000000) :
  Z0 292 [ep t] (.tu [ep (jo t),.d (.str (bm (l++[n]))),.d (.bool true)]):=by
 have h1:=Ji l n h0 hl hs hn;rw[<-hp,<-hm]at h1;refine sh0 Tryz.f292 ?_
 repeat' ((conv=>whnf);first|exact zf|refine zm ?_|refine zc h1 ?_|refine zi0 ?_|refine zt ?_|refine zu ?_|intro _)
theorem y4(t:Th)(hr:t.ro<1):Z0 292 [ep t] (.tu [ep t,.d (.str []),.d (.bool false)]):=by
 refine sh0 Tryz.f292 ?_
 exact zk0
theorem RU(l:List (List D)):Z0 49 [.d (.sl 5 l)] (.cl 5 l):=by
 refine sh0 Tryz.f49 ?_
 repeat' ((conv=>whnf);first|exact zf|refine zm ?_|intro _)
 exact cJ (κ (V.cl 5) (by show List.drop 0 (List.take ((l.length:Int)).toNat l)=l;simp))
theorem Jh(l:List (List D)):Z0 58 [.d (.sl 14 l)] (.cl 14 l):=by
 refine sh0 Tryz.f58 ?_
 repeat' ((conv=>whnf);first|exact zf|refine zm ?_|intro _)
 exact cJ (κ (V.cl 14) (by show List.drop 0 (List.take ((l.length:Int)).toNat l)=l;simp))
def vB(t:Th)(l:List Va):Th:={t with st:=0,on:=[],c:=⟨t.c.fr,t.c.st++l,t.c.tr⟩}
theorem PS(t:Th)(l:List Va)(hl:l.length<1000000000)(hs:t.c.st.length<1000000000):Z0 15 [ep t,.d (.sl 5 (l.map cE))] (ep (vB t l)):=by
 have h1:=RU (t.c.st.map cE);have e1:(t.c.st.map cE).length=t.c.st.length:=aH _;have e2:(l.map cE).length=l.length:=aH _;have e3:(t.c.st++l).map cE=t.c.st.map cE++l.map cE:=bZ;unfold vB ep ei;simp only[e3];refine sh0 Tryz.f15 ?_
 exact zj1 h1
def jF(t:Th)(k:Nat):Va×Bool:=
 bif !(t.st==2)||!((k:Int)==(t.sc.length:Int)-1)then(num (-7),true) else
 bif !bI t.g.cur ((t.sc[k]?).getD Gr).l then(num (-3),true)else(t.v,t.ex)
theorem FC(t:Th)(k:Nat)(hk:k<t.sc.length)(hc:cL t.g.cur)(hl:cL ((t.sc[k]?).getD Gr).l)(hn:t.sc.length<1000000000) :
  Z0 68 [ep t,.d (.int .i64 k)] (.tu [j7 (jF t k).1,.d (.bool (jF t k).2)]):=by
 have e1:(t.sc.map fM).length=t.sc.length:=aH _;obtain⟨s,hs⟩:∃s,t.sc[k]?=some s:=⟨_,aA hk⟩
 rw[hs,bo]at hl;have hf:=jc t.g.cur s.l hc hl;unfold jF;rw[hs,bo];cases h1:t.st==2 with
 |false=>
  refine sh0 Tryz.f68 ?_
  exact zk0
 |true=>
  cases h2:(k:Int)==(t.sc.length:Int)-1 with
  |false=>
   refine sh0 Tryz.f68 ?_
   exact zk0
  |true=>
   cases h3:bI t.g.cur s.l with
   |false=>
    rw[h3]at hf;refine sh0 Tryz.f68 ?_
    repeat' ((conv=>whnf);first|exact zf|refine zm ?_|refine zc hf ?_|refine⟨fM s,⟨by omega,by simp[hs],rfl⟩,?_⟩|refine zt ?_|refine zu ?_|intro _)
   |true=>
    rw[h3]at hf;refine sh0 Tryz.f68 ?_
    repeat' ((conv=>whnf);first|exact zf|refine zm ?_|refine zc hf ?_|refine⟨fM s,⟨by omega,by simp[hs],rfl⟩,?_⟩|refine zt ?_|refine zu ?_|intro _)
theorem UT(c:Co)(f h t:Int):Z0 59 [gZ c,.d (.int .i64 f),.d (.int .i64 h),.d (.int .i64 t)] (gZ (Ez c f h t)):=by
 have h1:=Cz (c.fr.map bS) f;have h2:=vl (c.st.map cE) h;have h3:=J6 (c.tr.map eF) t;have e1:=gX bS c.fr f;have e2:=gX cE c.st h;have e3:=gX eF c.tr t;unfold gZ Ez;simp only[<-e1,<-e2,<-e3];refine sh0 Tryz.f59 ?_
 exact zj3 h1 h2 h3
def qW(t:Th)(k:Nat)(s:Sc):Ob:={fK with k:=3,l:=s.l,v:=(jF t k).1,ex:=(jF t k).2}
def wy(t:Th)(k:Nat)(s:Sc):Th:={t with sc:=t.sc.take k,g:=s.g,pa:=s.pa,ma:=s.ma,ro:=s.ro,c:=jX (Ez t.c s.fr s.he s.tr) ⟨3,0,s.nm,s.l.s,s.l.i⟩,st:=0,on:=[],v:=dT,ex:=false}
theorem Ls(t:Th)(k:Nat)(s:Sc)(hs:t.sc[k]?=some s)(hc:cL t.g.cur)(hl:cL s.l)(hn:t.sc.length<1000000000)(hst:t.c.st.length<1000000000) :
  Z0 33 [ep t,.d (.int .i64 k)] (.tu [ep (wy t k s),.d (.str s.nm),gJ (qW t k s)]):=by
 have hk:=(aC.1 hs).1;have e1:(t.sc.map fM).length=t.sc.length:=aH _;have h1:=FC t k hk hc (by rw[hs];exact hl) hn;have h2:=Jh ((t.sc.map fM).take k);have h3:=UT t.c s.fr s.he s.tr;have h4:=sx (Ez t.c s.fr s.he s.tr) ⟨3,0,s.nm,s.l.s,s.l.i⟩ (by
  unfold Ez gw;rw[bC];omega)
 have e2:(t.sc.take k).map fM=(t.sc.map fM).take k:=e_;generalize hb:jF t k=b at h1;unfold qW wy;rw[hb];unfold ep ei;simp only[e2];refine sh0 Tryz.f33 ?_
 repeat' ((conv=>whnf);first|exact zf|refine zm ?_|refine zc h1 ?_|refine zc h2 ?_|refine zc h3 ?_|refine zc h4 ?_|refine⟨fM s,⟨by omega,by simp[hs],rfl⟩,?_⟩|refine zt ?_|refine zu ?_|intro _)
def q9(t:Th)(l:Lb)(tk ro now:Int)(nm:List UInt8):Sc:=⟨nm,gT l,now+tk,t.c.fr.length,t.c.st.length,t.c.tr.length,t.g,t.pa,t.ma+1,t.ro-1-ro⟩
def B0(t:Th)(fn vs:Int)(a:Va)(mk:Int)(l:Lb)(tk ro now:Int)(nm:List UInt8):Th:=
 {t with sc:=t.sc++[q9 t l tk ro now nm],c:=gA t.c fn vs [a] mk,g:=⟨t.g.cur,gT l⟩,pa:=nm,ma:=0,ro:=ro}
def dB(t:Th)(l:Lb)(tk ro:Int):Int:=
 if tk<1\/1000<tk then -7 else if ro<0\/999<ro then -5 else if bT t.g l≠0 then bT t.g l else if t.ro<=ro then -5 else if db t.c=false then -6 else 0
section
variable(t:Th)(fn vs:Int)(a:Va)(mk:Int)(l:Lb)(tk ro now:Int)
def iR:Prop:=Z0 254 [ep t,.d (.int .i64 fn),.d (.int .i64 vs),j7 a,.d (.int .u8 mk),je l,.d (.int .i64 tk),.d (.int .i64 ro),.d (.int .i64 now)] (.tu [ep t,.d (.int .i64 (dB t l tk ro))])
theorem yz(h:tk<1\/1000<tk):iR t fn vs a mk l tk ro now:=by
 unfold iR dB;rw[ζ h];rcases h with h|h
 .refine sh0 Tryz.f254 ?_
  exact zk0
 .refine sh0 Tryz.f254 ?_
  exact zk0
theorem BZ(h0:¬(tk<1\/1000<tk))(h:ro<0\/999<ro):iR t fn vs a mk l tk ro now:=by
 unfold iR dB;rw[η h0,ζ h];rcases h with h|h
 .refine sh0 Tryz.f254 ?_
  exact zk0
 .refine sh0 Tryz.f254 ?_
  exact zk0
theorem yy(hg:jL t.g)(hl:cL l)(h0:¬(tk<1\/1000<tk))(h1:¬(ro<0\/999<ro))(h:bT t.g l≠0):iR t fn vs a mk l tk ro now:=by
 have hw:=fR t.g l hg hl;unfold iR dB;rw[η h0,η h1,ζ h];refine sh0 Tryz.f254 ?_
 exact zk1 hw
theorem y_(hg:jL t.g)(hl:cL l)(h0:¬(tk<1\/1000<tk))(h1:¬(ro<0\/999<ro))(h:bT t.g l=0)(h2:t.ro<=ro)(p:List Nat)(n:Nat)(hp:t.pa=bm p)(hm:t.ma=n)(hp0:p≠[])(hpl:p.length<24)(hps:∀n∈p,n<100)(hn:n<100):iR t fn vs a mk l tk ro now:=by
 have hw:=fR t.g l hg hl;rw[h]at hw;unfold iR dB;rw[η h0,η h1,η (by simp[h]),ζ h2]
 by_cases hr:t.ro<1
 .have hnm:=y4 t hr;refine sh0 Tryz.f254 ?_
  exact zk2 hw hnm
 .have hnm:=sB t p n hp hm hp0 hpl hps hn (by omega) (by omega);refine sh0 Tryz.f254 ?_
  exact zk2 hw hnm
theorem zA(hg:jL t.g)(hl:cL l)(h0:¬(tk<1\/1000<tk))(h1:¬(ro<0\/999<ro))(h:bT t.g l=0)(h2:¬t.ro<=ro)(hr2:t.ro<1000000000)(p:List Nat)(n:Nat)(hp:t.pa=bm p)(hm:t.ma=n)(hp0:p≠[])(hpl:p.length<24)(hps:∀n∈p,n<100)(hn:n<100)
  (hf:t.c.fr.length<1000000000) (h3:db t.c=false):iR t fn vs a mk l tk ro now:=by
 have hw:=fR t.g l hg hl;rw[h]at hw;have hnm:=sB t p n hp hm hp0 hpl hps hn (by omega) hr2;have he:=kV t.c fn vs [a] mk hf (by simp);unfold mC at he;rw[h3]at he;unfold iR dB;rw[η h0,η h1,η (by simp[h]),η h2,ζ h3];refine sh0 Tryz.f254 ?_
 exact zk3 hw hnm he
theorem uD(hg:jL t.g)(hl:cL l)(h0:¬(tk<1\/1000<tk))(h1:¬(ro<0\/999<ro))(h:bT t.g l=0)(h2:¬t.ro<=ro)(hr2:t.ro<1000000000)(p:List Nat)(n:Nat)(hp:t.pa=bm p)(hm:t.ma=n)(hp0:p≠[])(hpl:p.length<24)(hps:∀n∈p,n<100)(hn:n<100)
  (hf:t.c.fr.length<1000000000) (hsc:t.sc.length<1000000000) (hw0:0<=now/\now<1000000000) (h3:db t.c=true) :
  Z0 254 [ep t,.d (.int .i64 fn),.d (.int .i64 vs),j7 a,.d (.int .u8 mk),je l,.d (.int .i64 tk),.d (.int .i64 ro),.d (.int .i64 now)] (.tu [ep (B0 t fn vs a mk l tk ro now (bm (p++[n]))),.d (.int .i64 0)]):=by
 have hw:=fR t.g l hg hl;rw[h]at hw;have hnm:=sB t p n hp hm hp0 hpl hps hn (by omega) hr2;have he:=kV t.c fn vs [a] mk hf (by simp);unfold mC at he;rw[h3]at he;have hnr:(jo t).ro=t.ro-1:=rfl;have hno:=jn l hl;have jb:=Jh (t.sc.map fM);have e1:(t.sc.map fM).length=t.sc.length:=aH _;have e2:(t.sc++[q9 t l tk ro now (bm (p++[n]))]).map fM=t.sc.map fM++[fM (q9 t l tk ro now (bm (p++[n])))]:=by simp
 have e3:((t.c.fr.map bS).length:Int)=t.c.fr.length:=by simp
 have e4:((t.c.st.map cE).length:Int)=t.c.st.length:=by simp
 have e5:((t.c.tr.map eF).length:Int)=t.c.tr.length:=by simp
 unfold B0 ep ei;simp only[e2];unfold q9;rw[<-e3,<-e4,<-e5];refine sh0 Tryz.f254 ?_
 repeat' ((conv=>whnf);first|exact zf|refine zm ?_|refine zc hw ?_|refine zc hnm ?_|refine zc he ?_|refine zc hno ?_|refine zc jb ?_|refine zi0 ?_|refine zt ?_|refine zu ?_|intro _)
 trace_state
end
end Go.Proofs.YtjpgfgajkjhonaaGreatDoor