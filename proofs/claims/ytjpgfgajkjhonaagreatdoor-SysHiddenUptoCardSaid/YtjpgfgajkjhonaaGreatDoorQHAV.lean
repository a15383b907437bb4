/- Lemmas. Conditions: none. -/
import Derived.Test.YtjpgfgajkjhonaaGreatDoorQHAT
import Derived.Test.YtjpgfgajkjhonaaGreatDoorQHAU
import Derived.Shelf.Strings.Builder1
import Derived.Shelf.Lay
import Derived.Shelf.Strings.Search3
import Derived.Shelf.Spec.SlicesInsertGrow
set_option maxHeartbeats 4000000
set_option maxRecDepth 100000
namespace Go.Proofs.YtjpgfgajkjhonaaGreatDoor
open Go.Vx
set_option maxRecDepth 100000
theorem sV {K:KT} (s:List UInt8) (hk:K (.ret (.fc 134 [.p 0 0])) [.cells [.d (.str s)]]):Z1 92 [.d (.str s)] [] K:=by
 refine sh0 Tryz.f92 ?_
 exact zh0 hk
def zJ (a b:Int):Bool:=jH .andNot .u8 a b==0
theorem Nj (a b:Int):Z0 262 [.d (.int .u8 a),.d (.int .u8 b)] (.d (.bool (zJ a b))):=by
 refine sh0 Tryz.f262 ?_
 exact zj0
def oneOf (s:Int) (l:List Int):Bool:=l.any λx=>zJ x s
def eJ (l:List Int):List (List D):=l.map λx=>[D.int .u8 x]
theorem jA (l:List Int):(eJ l).length=l.length:=by simp [eJ]
theorem QI (s:Int) (l:List Int):Z0 197 [.d (.int .u8 s),.d (.sl 1 (eJ l))] (.d (.bool (oneOf s l))):=by
 have hl:=jA l;refine sh0 Tryz.f197 ?_
 repeat' ((conv=>whnf);first | exact zf | refine zm ?_ | intro _)
 conv=>whnf
 refine bN [(0,.d (.int .u8 s)),(7,.d (.sl 1 (eJ l))),(8,.d (.int .i64 (eJ l).length))] (λi:Nat=>i≤l.length∧oneOf s (l.take i)=false) (λi=>[(9,.d (.int .i64 i))]) (λ_=>[]) (λi=>l.length - i) 0 ⟨ah _,rfl⟩ ?_ ?_ ?_ (λi hi=>?_)
 ·exact zzz
 ·exact zzz
 ·exact rfl
 repeat' ((conv=>whnf);first | exact zf | refine zm ?_ | intro _)
 refine aX (λhlt=>?_) (λhge=>?_)
 ·have hlt:i<l.length:=by simpa [eJ] using hlt
  have hr:=Nj l[i] s;have ht:l.take (i+1)=l.take i ++ [l[i]]:=dJ hlt
  repeat' ((conv=>whnf);first | exact zf | refine zm ?_ | intro _)
  refine ⟨[D.int .u8 l[i]],⟨by omega,by simp [eJ,hlt],rfl⟩,?_⟩;cases hb:zJ l[i] s with
  |true=>
   rw [hb] at hr
   repeat' ((conv=>whnf);first | exact zf | refine zm ?_ | refine zc hr ?_ | intro _)
   refine cS ?_;have:oneOf s l=true:=cw.2 ⟨l[i],cL hlt,hb⟩;rw [this];rfl
  |false=>
   rw [hb] at hr
   repeat' ((conv=>whnf);first | exact zf | refine zm ?_ | refine zc hr ?_ | refine zi0 ?_ | intro _)
   refine ⟨i+1,⟨hlt,?_⟩,bG hlt (bP i),zzz,zzz,rfl⟩;rw [ht];unfold oneOf at hi ⊢;rw [List.any_append,hi.2];simp [hb]
 ·have hge:l.length≤i:=by simpa [eJ] using hge
  repeat' ((conv=>whnf);first | exact zf | refine zm ?_ | intro _)
  refine cS ?_;have h2:=hi.2;rw [dD hge] at h2;rw [h2];rfl
def mY (l:List UInt8) (n:Nat):Bool:=l.any λb=>b.toNat==n
def jB (l:List UInt8) (told:List Int) (n:Nat):List Int:=bif mY l n && !(oneOf n told) then told ++ [(n:Int)] else told
def fE (l:List UInt8) (k:Nat):List Int:=(List.range k).foldl (jB l) []
def least (l:List UInt8):List UInt8:=(fE l 256).map λx=>UInt8.ofNat x.toNat
theorem jO (l:List UInt8) (k:Nat):fE l (k+1)=jB l (fE l k) k:=by simp [fE,List.range_succ]
theorem vl (l:List UInt8) (k:Nat) (hk:k≤256):∀x∈fE l k,0≤x∧x<256:=by
 induction k with
 |zero=>intro x hx;simp [fE] at hx
 |succ k ih=>
  intro x hx;rw [jO] at hx;unfold jB at hx;cases hc:mY l k && !(oneOf k (fE l k))<;>rw [hc] at hx
  ·exact ih (by omega) x hx
  ·simp only [δ,aS,aM] at hx;rcases hx with hx | hx
   ·exact ih (by omega) x hx
   ·omega
theorem tg (l:List UInt8) (k:Nat):(fE l k).length≤k:=by
 induction k with
 |zero=>simp [fE]
 |succ k ih=>
  rw [jO];unfold jB;cases mY l k && !(oneOf k (fE l k))<;>simp<;>omega
theorem BO (l:List UInt8):eJ (fE l 256)=(least l).map λb=>[D.int .u8 b.toNat]:=by
 unfold eJ least;rw [dK];refine aj λx hx=>?_;have:=vl l 256 (aR _) x hx;simp only [mU,gV];rw [cX (by omega),Int.toNat_of_nonneg this.1]
def qF (l:List UInt8) (k:Nat):List (List D):=(List.range 256).map λj=>[D.bool (mY (l.take k) j)]
def uG (l:List UInt8):List D:=(List.range 256).map λj=>D.bool (mY l j)
theorem rm {α:Type} (x:α):∀n,List.replicate n x=(List.range n).map λ_=>x:=by
 intro n;rw [List.map_const',fh]
theorem hereR_0 (l:List UInt8):List.replicate 256 [D.bool false]=qF l 0:=rm _ 256
theorem Et (l:List UInt8) (k:Nat) (b:UInt8):(qF l k)[b.toNat]? = some [D.bool (mY (l.take k) b.toNat)]:=by
 unfold qF;rw [aC,cG (by have:=b.toNat_lt;omega)];rfl
theorem B7 (l:List UInt8) (k:Nat) (hk:k<l.length):(qF l k).set l[k].toNat [D.bool true]=qF l (k+1):=by
 have ht:l.take (k+1)=l.take k ++ [l[k]]:=dJ hk;have hh:∀j,mY (l.take (k+1)) j=(mY (l.take k) j||l[k].toNat==j):=λj=>by
  unfold mY;rw [ht,List.any_append];simp
 unfold qF;refine cj λj=>?_
 by_cases hj:j<256
 ·by_cases e:l[k].toNat=j
  ·subst e;rw [bm (by simpa using hj),aC,cG hj,bA,hh];simp
  ·rw [eE e,aC,aC,cG hj,bA,bA,hh];have:(l[k].toNat==j)=false:=by simpa using e
   rw [this,lK]
 ·rw [eP (by simp;omega),eP (by simp;omega)]
theorem MG (l:List UInt8):qF l l.length=(uG l).map λd=>[d]:=by
 unfold qF uG;rw [cu,dK];rfl
theorem n_ (i:Int) (l:List D) (r:List (List D)):yw 0 [(19,.d (.int .i64 i)),(18,.ag (l.map .d)),(5,.os 1)] [.no,.rows 1 r]=true:=by
 have e:jC (.ag (l.map V.d)) = []:=by simp [jC,kG,ir]
 simp only [yw,lJ,List.all_nil,eR,e,dy,jV];rfl
theorem He (l:List UInt8):Z0 133 [.d (.str l)] (.d (.str (least l))):=by
  refine sh0 Tryz.f133 ?_
  repeat' ((conv=>whnf);first | exact zf | refine zm ?_ | intro _)
  conv=>whnf
  refine bN [(0,.d (.str l)),(3,.q 0 1 0 0),(9,.d (.int .i64 l.length))] (λk:Nat=>k≤l.length) (λk=>[(10,.d (.int .i64 k))]) (λk=>[.rows 1 (qF l k)]) (λk=>l.length - k) 0 (ah _) ?_ ?_ ?_ (λk hk=>?_)
  · exact zzz
  · exact ⟨aU (by rw [hereR_0 l]),trivial⟩
  · exact zx0
  repeat' ((conv=>whnf);first | exact zf | refine zm ?_ | intro _)
  refine aX (λhlt=>?_) (λhge=>?_)
  · have hlt:k<l.length:=by simpa using hlt
    repeat' ((conv=>whnf);first | exact zf | refine zm ?_ | intro _)
    refine ⟨l[k],⟨by omega,by simp [hlt]⟩,?_⟩
    have hb:=l[k].toNat_lt
    repeat' ((conv=>whnf);first | exact zf | refine zm ?_ | intro _)
    conv=>whnf
    refine ⟨[D.bool (mY (l.take k) l[k].toNat)],Et l k l[k],⟨rfl,rfl,rfl⟩,?_⟩
    repeat' ((conv=>whnf);first | exact zf | refine zm ?_ | refine zi0 ?_ | intro _)
    refine ⟨k+1,hlt,bG hlt (bP k),zzz,⟨aU (κ (B.rows 1) (B7 l k hlt)),trivial⟩,rfl⟩
  · have hge:l.length≤k:=by simpa using hge
    obtain rfl:k=l.length:=by omega
    repeat' ((conv=>whnf);first | exact zf | refine zm ?_ | intro _)
    refine ⟨uG l,⟨MG l,by simp [uG]⟩,?_⟩
    repeat' ((conv=>whnf);first | exact zf | refine zm ?_ | intro _)
    conv=>whnf
    refine bN [(18,.ag ((uG l).map .d)),(5,.os 1)] (λk:Nat=>k≤256) (λk=>[(19,.d (.int .i64 k))]) (λk=>[.no,.rows 1 (eJ (fE l k))]) (λk=>256 - k) 0 (ah _) ?_ ?_ (n_ _ _ _) (λk hk=>?_)
    · exact zzz
    · exact zzz
    repeat' ((conv=>whnf);first | exact zf | refine zm ?_ | intro _)
    refine aX (λhlt=>?_) (λhge=>?_)
    · have hlt:k<256:=by have:=θ hlt;omega
      have hlen:=tg l k
      have hrl:=jA (fE l k)
      have hg:∀b,mY l k=b→((uG l).map V.d)[(k:Int).toNat]? = some (.d (.bool b)):=λb hb=>by
        subst hb
        simp [uG,hlt]
      have hsx:=jO l k
      unfold jB at hsx
      have hr:=QI k (fE l k)
      cases h1:mY l k with
      |false=>
        rw [h1,nh,ε] at hsx
        repeat' ((conv=>whnf);first | exact zf | refine zm ?_ | intro _)
        refine ⟨.bool false,⟨by omega,by omega,hg _ h1⟩,?_⟩
        repeat' ((conv=>whnf);first | exact zf | refine zm ?_ | refine zi0 ?_ | intro _)
        refine ⟨k+1,hlt,bG hlt (bP k),zzz,⟨aU (by rw [hsx]),trivial⟩,n_ _ _ _⟩
      |true=>
        cases h2:oneOf k (fE l k) with
        |true=>
          rw [h1,h2] at hsx
          rw [h2] at hr
          simp only [Bool.not_true,Bool.and_false,ε] at hsx
          repeat' ((conv=>whnf);first | exact zf | refine zm ?_ | intro _)
          refine ⟨.bool true,⟨by omega,by omega,hg _ h1⟩,?_⟩
          repeat' ((conv=>whnf);first | exact zf | refine zm ?_ | refine (.inl ⟨_,hr,rfl,?_⟩) | refine zi0 ?_ | intro _)
          refine ⟨k+1,hlt,bG hlt (bP k),zzz,⟨aU (by rw [hsx]),trivial⟩,n_ _ _ _⟩
        |false=>
          rw [h1,h2] at hsx
          rw [h2] at hr
          simp only [n9,Bool.and_self,δ] at hsx
          repeat' ((conv=>whnf);first | exact zf | refine zm ?_ | intro _)
          refine ⟨.bool true,⟨by omega,by omega,hg _ h1⟩,?_⟩
          repeat' ((conv=>whnf);first | exact zf | refine zm ?_ | refine (.inl ⟨_,hr,rfl,?_⟩) | refine zi0 ?_ | intro _)
          refine ⟨k+1,hlt,bG hlt (bP k),zzz,⟨aU (by rw [hsx];simp [eJ]),trivial⟩,n_ _ _ _⟩
    · have hge:k=256:=by have:=ι hge;omega
      subst hge
      repeat' ((conv=>whnf);first | exact zf | refine zm ?_ | intro _)
      refine ⟨least l,BO l,?_⟩
      exact zj0
theorem vM (a:UInt8):BitVec.ofInt 8 (a.toNat:Int)=a.toBitVec:=by
 rw [lj];exact BitVec.eq_of_toNat_eq (by rw [BitVec.toNat_ofNat,cX a.toNat_lt];rfl)
theorem wrap_u8 (b:BitVec 8):IntKind.u8.wrap (b.toNat:Int)=b.toNat:=by
 have:=b.isLt;have e:(IntKind.u8.wrap (b.toNat:Int))=(b.toNat:Int) % 256:=rfl;rw [e];omega
theorem xi (a b:UInt8):jH .and .u8 a.toNat b.toNat=((a &&& b).toNat:Int):=by
 show IntKind.u8.wrap ((BitVec.ofInt 8 (a.toNat:Int) &&& BitVec.ofInt 8 (b.toNat:Int)).toNat:Int)=_;rw [vM,vM,wrap_u8];rfl
theorem S8 (a b:UInt8):jH .or .u8 a.toNat b.toNat=((a ||| b).toNat:Int):=by
 show IntKind.u8.wrap ((BitVec.ofInt 8 (a.toNat:Int) ||| BitVec.ofInt 8 (b.toNat:Int)).toNat:Int)=_;rw [vM,vM,wrap_u8];rfl
theorem F2 (a b:UInt8):jH .andNot .u8 a.toNat b.toNat=((a &&& ~~~b).toNat:Int):=by
 show IntKind.u8.wrap ((BitVec.ofInt 8 (a.toNat:Int) &&& ~~~BitVec.ofInt 8 (b.toNat:Int)).toNat:Int)=_;rw [vM,vM,wrap_u8];rfl
def mQ (l:List UInt8):List UInt8:=l.map (· &&& 63)
def eV (l:List UInt8):List UInt8:=least (mQ l)
def iJ (l:List UInt8):List (List D):=l.map λb=>[D.int .u8 b.toNat]
theorem EK (l:List UInt8):(iJ l).length=l.length:=by simp [iJ]
theorem kg (l:List UInt8) (hm:l.length≤140737488355328):Z0 91 [.d (.str l)] (.d (.str (eV l))):=by
  refine sh0 Tryz.f91 ?_
  repeat' ((conv=>whnf);first | exact zf | refine zm ?_ | refine (sV l ?_) | intro _)
  conv=>whnf
  refine wq 134 [.p 2 0] [2] l (λb=>.int .u8 b.toNat) (λi j=>i=j) (λi=>[.rows 1 (iJ (mQ (l.take i))),.cells [.os 0],.cells [.d (.str l)]]) 0 3 rfl rfl (sU l) (λ_=>trivial) rfl ?_ (λ_=>⟨rfl,rfl,rfl⟩) (λi b j hb hi=>?_) (λi hi=>?_)
  · exact zzz
  · subst hi
    obtain ⟨hlt,rfl⟩:=aA.1 hb
    have hlen:(iJ (mQ (l.take i))).length≤i:=by simp [iJ,mQ];omega
    have hs:iJ (mQ (l.take (i+1)))=iJ (mQ (l.take i)) ++ [[D.int .u8 (jH .and .u8 l[i].toNat 63)]]:=by
      rw [dJ hlt]
      simp only [iJ,mQ,bY,cH,kS]
      rw [show (63:Int)=((63:UInt8).toNat:Int) from rfl,xi]
    repeat' ((conv=>whnf);first | exact zf | refine zm ?_ | intro _)
    exact ⟨i+1,rfl,aU (by rw [hs];rfl),aU rfl,aU rfl,trivial⟩
  · subst hi
    repeat' ((conv=>whnf);first | exact zf | refine zm ?_ | intro _)
    refine ⟨mQ (l.take l.length),rfl,?_⟩
    repeat' ((conv=>whnf);first | exact zf | refine zm ?_ | refine zc (He _) ?_ | intro _)
    refine cS ?_
    rw [cu]
    rfl
def gU (l:List UInt8) (x:UInt8):Bool:=l.all λb=> !(b &&& x==0)
theorem JE (l:List UInt8) (x:UInt8):Z0 127 [.d (.str l),.d (.int .u8 x.toNat)] (.d (.bool (gU l x))):=by
  refine sh0 Tryz.f127 ?_
  repeat' ((conv=>whnf);first | exact zf | refine zm ?_ | refine (sV l ?_) | intro _)
  conv=>whnf
  refine wq 134 [.p 2 0] [2] l (λb=>.int .u8 b.toNat) (λi (_:Unit)=>gU (l.take i) x=true) (λ_=>[.cells [.d (.int .u8 x.toNat)],.cells [.d (.bool false)],.cells [.d (.str l)]]) () 3 rfl rfl (sU l) (λ_=>trivial) rfl ?_ (λ_=>⟨rfl,rfl,rfl⟩) (λi b _ hb hi=>?_) (λ_ hi=>?_)
  · exact zzz
  · obtain ⟨hlt,rfl⟩:=aA.1 hb
    have he:(jH .and .u8 l[i].toNat x.toNat==0)=(l[i] &&& x==0):=by
      rw [xi,eA,ξ,ξ,←UInt8.toNat_inj]
      simp
    cases hc:(l[i] &&& x==0) with
    |true=>
      rw [hc] at he
      repeat' ((conv=>whnf);first | exact zf | refine zm ?_ | refine (ft he ?_) | intro _)
      refine cS ?_
      have:gU l x=false:=by
        unfold gU
        rw [List.all_eq_false]
        exact ⟨l[i],cL hlt,by rw [hc];simp⟩
      rw [this]
      rfl
    |false=>
      rw [hc] at he
      repeat' ((conv=>whnf);first | exact zf | refine zm ?_ | refine (ga he ?_) | intro _)
      refine ⟨(),?_,aU rfl,aU rfl,aU rfl,trivial⟩
      rw [dJ hlt]
      unfold gU at hi ⊢
      rw [List.all_append,hi]
      simp [hc]
  · skip
    repeat' ((conv=>whnf);first | exact zf | refine zm ?_ | intro _)
    refine cS ?_
    rw [cu] at hi
    rw [hi]
    rfl
theorem lQ (l:List UInt8):(eV l).length≤256:=by
 unfold eV least;rw [aI];exact tg _ _
def Ae (l:List UInt8):Prop:=l.length≤140737488355328
theorem gC (l:List UInt8):Ae (eV l):=aZ (lQ l) (by decide)
def pO (a b:List UInt8):List UInt8:=eV (eV a++eV b)
theorem xj (a b:List UInt8) (ha:Ae a) (hb:Ae b):Z0 54 [.d (.str a),.d (.str b)] (.d (.str (pO a b))):=by
 have h1:=kg a ha;have h2:=kg b hb;have la:=lQ a;have lb:=lQ b;have h3:=kg (eV a++eV b) (by rw [aL];omega);refine sh0 Tryz.f54 ?_
 exact zj3 h1 h2 h3
def gT (a b:List UInt8):List UInt8:=a.flatMap λc=>b.map λd=>c ||| d
def KZ (a b:List UInt8):List UInt8:=eV (gT (eV a) (eV b))
theorem sh (a b:List UInt8):(gT a b).length=a.length*b.length:=by
 unfold gT
 induction a with
 |nil=>simp
 |cons c a ih=>rw [o6,aL,ih,aI,aV,bq];omega
theorem yH (a b:List UInt8) (i:Nat) (h:i<a.length):gT (a.take (i+1)) b=gT (a.take i) b++b.map λd=>a[i] ||| d:=by
 unfold gT;rw [dJ h,List.flatMap_append,o6,List.flatMap_nil,cU]
theorem NZ (a b:List UInt8) (ha:Ae a) (hb:Ae b):Z0 55 [.d (.str a),.d (.str b)] (.d (.str (KZ a b))):=by
  have h1:=kg a ha
  have h2:=kg b hb
  have la:=lQ a
  have lb:=lQ b
  unfold KZ
  generalize eV a=na at h1 la ⊢
  generalize eV b=nb at h2 lb ⊢
  have hmul:na.length*nb.length≤65536:=aZ (Nat.mul_le_mul la lb) (by decide)
  have h3:=kg (gT na nb) (by rw [sh];omega)
  refine sh0 Tryz.f55 ?_
  repeat' ((conv=>whnf);first | exact zf | refine zm ?_ | refine zc h1 ?_ | refine zc h2 ?_ | refine zi0 ?_ | refine (sV na ?_) | intro _)
  conv=>whnf
  refine wq 134 [.p 3 0] [3] na (λb=>.int .u8 b.toNat) (λi j=>i=j) (λi=>[.cells [.d (.str nb)],.rows 1 (iJ (gT (na.take i) nb)),.cells [.os 1],.cells [.d (.str na)]]) 0 4 rfl rfl (sU na) (λ_=>trivial) rfl ?_ (λ_=>⟨rfl,rfl,rfl⟩) (λi c j hc hi=>?_) (λi hi=>?_)
  · exact zzz
  · subst hi
    obtain ⟨hlt,rfl⟩:=aA.1 hc
    have hs:=yH na nb i hlt
    have hul:(gT (na.take i) nb).length≤65536:=by
      rw [sh,af]
      exact aZ (bC _ (aZ (Nat.min_le_right ..) (aR _))) hmul
    repeat' ((conv=>whnf);first | exact zf | refine zm ?_ | refine (sV nb ?_) | intro _)
    conv=>whnf
    refine wq 134 [.p 5 0] [5] nb (λb=>.int .u8 b.toNat) (λi j=>i=j) (λj=>[.cells [.d (.str nb)],.rows 1 (iJ (gT (na.take i) nb++(nb.take j).map λd=>na[i] ||| d)),.cells [.os 1],.cells [.d (.str na)],.cells [.d (.int .u8 na[i].toNat)],.cells [.d (.str nb)]]) 0 6 rfl rfl (sU nb) (λ_=>trivial) rfl ?_ (λ_=>⟨rfl,rfl,rfl⟩) (λj d k hd hj=>?_) (λj hj=>?_)
    · exact ⟨aU rfl,aU (by simp),aU rfl,aU rfl,aU rfl,aU rfl,trivial⟩
    · subst hj
      obtain ⟨hlj,rfl⟩:=aA.1 hd
      have hl2:(iJ (gT (na.take i) nb++(nb.take j).map λd=>na[i] ||| d)).length≤65536+256:=by
        rw [EK,aL,aI,af]
        omega
      have hs2:iJ (gT (na.take i) nb++(nb.take (j+1)).map λd=>na[i] ||| d)=iJ (gT (na.take i) nb++(nb.take j).map λd=>na[i] ||| d) ++ [[D.int .u8 (jH .or .u8 na[i].toNat nb[j].toNat)]]:=by
        rw [dJ hlj,S8]
        simp only [iJ,bY,cH,kS,bO]
      repeat' ((conv=>whnf);first | exact zf | refine zm ?_ | intro _)
      exact ⟨j+1,rfl,aU rfl,aU (by rw [hs2];rfl),aU rfl,aU rfl,aU rfl,aU rfl,trivial⟩
    · subst hj
      repeat' ((conv=>whnf);first | exact zf | refine zm ?_ | intro _)
      exact ⟨i+1,rfl,aU rfl,aU (by rw [hs,cu]),aU rfl,aU rfl,trivial⟩
  · subst hi
    repeat' ((conv=>whnf);first | exact zf | refine zm ?_ | intro _)
    refine ⟨gT (na.take na.length) nb,rfl,?_⟩
    rw [cu]
    exact zj1 h3
def kH (l:List UInt8) (n:Nat):Bool:=gU l (UInt8.ofNat n)
theorem Ep (l:List UInt8) (n:Nat) (h:n<256):Z0 127 [.d (.str l),.d (.int .u8 n)] (.d (.bool (kH l n))):=by
 have:=JE l (UInt8.ofNat n);rw [gV,cX h] at this;exact this
def A3 (l:List UInt8) (k:Nat):Int:=(List.range k).foldl (λt x=>bif kH l x then jH .or .u64 t (Af .shl .u64 1 x) else t) 0
theorem vP (l:List UInt8) (k:Nat):A3 l (k+1)=bif kH l k then jH .or .u64 (A3 l k) (Af .shl .u64 1 k) else A3 l k:=by simp [A3,List.range_succ]
def sk (l:List UInt8):Int:=A3 (eV l) 64
theorem yO (a:List UInt8) (ha:Ae a):Z0 83 [.d (.str a)] (.d (.int .u64 (sk a))):=by
  have h1:=kg a ha
  unfold sk
  generalize eV a=l at h1 ⊢
  refine sh0 Tryz.f83 ?_
  repeat' ((conv=>whnf);first | exact zf | refine zm ?_ | refine zc h1 ?_ | intro _)
  conv=>whnf
  refine bN [(0,.d (.str l))] (λk:Nat=>k≤64) (λk=>[(7,.d (.int .u8 k)),(3,.d (.int .u64 (A3 l k)))]) (λ_=>[]) (λk=>64 - k) 0 (ah _) ?_ ?_ ?_ (λk hk=>?_)
  · exact zzz
  · exact zzz
  · exact rfl
  repeat' ((conv=>whnf);first | exact zf | refine zm ?_ | intro _)
  refine aX (λhlt=>?_) (λhge=>?_)
  · have hlt:k<64:=by have:=θ hlt;omega
    have hr:=Ep l k (by omega)
    have hs:=vP l k
    cases hb:kH l k with
    |true=>
      rw [hb] at hr hs
      simp only [δ] at hs
      repeat' ((conv=>whnf);first | exact zf | refine zm ?_ | refine zc hr ?_ | refine zi0 ?_ | intro _)
      refine ⟨k+1,hlt,bG hlt (bP k),⟨iH rfl,iH (by rw [hs];rfl),iH rfl,trivial⟩,zzz,rfl⟩
    |false=>
      rw [hb] at hr hs
      simp only [ε] at hs
      repeat' ((conv=>whnf);first | exact zf | refine zm ?_ | refine zc hr ?_ | refine zi0 ?_ | intro _)
      refine ⟨k+1,hlt,bG hlt (bP k),⟨iH rfl,iH (by rw [hs];rfl),iH rfl,trivial⟩,zzz,rfl⟩
  · have hge:k=64:=by have:=ι hge;omega
    subst hge
    exact zj0
def iU (a b:List UInt8):Bool:=jH .andNot .u64 (sk a) (sk b)==0
theorem mI (a b:List UInt8) (ha:Ae a) (hb:Ae b):Z0 42 [.d (.str a),.d (.str b)] (.d (.bool (iU a b))):=by
 have h1:=yO a ha;have h2:=yO b hb;refine sh0 Tryz.f42 ?_
 exact zj2 h1 h2
structure Lb where
  s:List UInt8
  i:List UInt8
  deriving DecidableEq
def jT (l:Lb):V:=.ag [.d (.str l.s),.d (.str l.i)]
def cI (l:Lb):Prop:=Ae l.s∧Ae l.i
def half (b:Bool) (l:Lb):List UInt8:=bif b then l.s else l.i
theorem MH (b:Bool) (l:Lb):Z0 129 [.d (.bool b),jT l] (.d (.str (half b l))):=by
 cases b with
 |true=>
  refine sh0 Tryz.f129 ?_
  exact zj0
 |false=>
  refine sh0 Tryz.f129 ?_
  exact zj0
theorem JN {b:Bool} {l:Lb} (h:cI l):Ae (half b l):=by cases b<;>first | exact h.1 | exact h.2
theorem Cg (b:Bool) (l:Lb) (hl:cI l):Z1 128 [.d (.bool b),.p 0 0] [.cells [.d (.str l.s),.d (.str l.i)]] λo h=>o = .ret (.d (.str (eV (half b l))))∧h = [.cells [.d (.str l.s),.d (.str l.i)]]:=by
 have h1:=MH b l;have h2:=kg (half b l) (JN hl);refine sh0 Tryz.f128 ?_
 exact zj2 h1 h2
theorem T6 {K:KT} (l:Lb) (a b:List UInt8) (h1:Z1 128 [.d (.bool true),.p 0 0] [.cells [.d (.str l.s),.d (.str l.i)]] λo h=>o = .ret (.d (.str a))∧h = [.cells [.d (.str l.s),.d (.str l.i)]]) (h2:Z1 128 [.d (.bool false),.p 0 0] [.cells [.d (.str l.s),.d (.str l.i)]] λo h=>o = .ret (.d (.str b))∧h = [.cells [.d (.str l.s),.d (.str l.i)]])
  (hk:K (.ret (jT ⟨a,b⟩)) [.cells [.d (.str l.s),.d (.str l.i)]]):Z1 52 [.fc 128 [.p 0 0]] [.cells [.d (.str l.s),.d (.str l.i)]] K:=by
 refine sh0 Tryz.f52 ?_
 repeat' ((conv=>whnf);first | exact zf | refine zm ?_ | refine zr0 ?_ | intro _)
 refine h1.mono λo h' hh=>?_;obtain ⟨rfl,rfl⟩:=hh
 repeat' ((conv=>whnf);first | exact zf | refine zm ?_ | refine zr0 ?_ | intro _)
 refine h2.mono λo h' hh=>?_;obtain ⟨rfl,rfl⟩:=hh
 exact zh0 hk
def fA (l:Lb):Lb:=⟨eV l.s,eV l.i⟩
theorem j_ (l:Lb) (hl:cI l):Z0 84 [jT l] (jT (fA l)):=by
 refine sh0 Tryz.f84 ?_
 repeat' ((conv=>whnf);first | exact zf | refine zm ?_ | refine zr0 ?_ | intro _)
 exact T6 l _ _ (Cg true l hl) (Cg false l hl) zj0
def kf (l:Lb):Bool:=eV l.s==l.s&&eV l.i==l.i
theorem qc (l:Lb) (hl:cI l):Z0 44 [jT l] (.d (.bool (kf l))):=by
 have h1:=j_ l hl;refine s44.go (keep:=false) rfl ?_
 repeat' ((conv=>whnf);first | exact zf | refine zm ?_ | refine zc h1 ?_ | intro _)
 refine cS ?_;show V.d (.bool (eV l.s==l.s&&(eV l.i==l.i&&true)))=_;rw [dy];rfl
theorem T8 {K:KT} (l m:Lb) (a b:List UInt8) (h1:Z1 53 [.d (.bool true),.p 0 0,.p 1 0] [.cells [.d (.str l.s),.d (.str l.i)],.cells [.d (.str m.s),.d (.str m.i)]] λo h=>o = .ret (.d (.str a))∧h = [.cells [.d (.str l.s),.d (.str l.i)],.cells [.d (.str m.s),.d (.str m.i)]]) (h2:Z1 53 [.d (.bool false),.p 0 0,.p 1 0] [.cells [.d (.str l.s),.d (.str l.i)],.cells [.d (.str m.s),.d (.str m.i)]] λo h=>o = .ret (.d (.str b))∧h = [.cells [.d (.str l.s),.d (.str l.i)],.cells [.d (.str m.s),.d (.str m.i)]])
  (hk:K (.ret (jT ⟨a,b⟩)) [.cells [.d (.str l.s),.d (.str l.i)],.cells [.d (.str m.s),.d (.str m.i)]]):Z1 52 [.fc 53 [.p 0 0,.p 1 0]] [.cells [.d (.str l.s),.d (.str l.i)],.cells [.d (.str m.s),.d (.str m.i)]] K:=by
 refine sh0 Tryz.f52 ?_
 repeat' ((conv=>whnf);first | exact zf | refine zm ?_ | refine zr0 ?_ | intro _)
 refine h1.mono λo h' hh=>?_;obtain ⟨rfl,rfl⟩:=hh
 repeat' ((conv=>whnf);first | exact zf | refine zm ?_ | refine zr0 ?_ | intro _)
 refine h2.mono λo h' hh=>?_;obtain ⟨rfl,rfl⟩:=hh
 exact zh0 hk
theorem T7 {K:KT} (l m:Lb) (a b:List UInt8) (h1:Z1 280 [.d (.bool true),.p 0 0,.p 1 0] [.cells [.d (.str l.s),.d (.str l.i)],.cells [.d (.str m.s),.d (.str m.i)]] λo h=>o = .ret (.d (.str a))∧h = [.cells [.d (.str l.s),.d (.str l.i)],.cells [.d (.str m.s),.d (.str m.i)]]) (h2:Z1 280 [.d (.bool false),.p 0 0,.p 1 0] [.cells [.d (.str l.s),.d (.str l.i)],.cells [.d (.str m.s),.d (.str m.i)]] λo h=>o = .ret (.d (.str b))∧h = [.cells [.d (.str l.s),.d (.str l.i)],.cells [.d (.str m.s),.d (.str m.i)]])
  (hk:K (.ret (jT ⟨a,b⟩)) [.cells [.d (.str l.s),.d (.str l.i)],.cells [.d (.str m.s),.d (.str m.i)]]):Z1 52 [.fc 280 [.p 0 0,.p 1 0]] [.cells [.d (.str l.s),.d (.str l.i)],.cells [.d (.str m.s),.d (.str m.i)]] K:=by
 refine sh0 Tryz.f52 ?_
 repeat' ((conv=>whnf);first | exact zf | refine zm ?_ | refine zr0 ?_ | intro _)
 refine h1.mono λo h' hh=>?_;obtain ⟨rfl,rfl⟩:=hh
 repeat' ((conv=>whnf);first | exact zf | refine zm ?_ | refine zr0 ?_ | intro _)
 refine h2.mono λo h' hh=>?_;obtain ⟨rfl,rfl⟩:=hh
 exact zh0 hk
theorem C_ (b:Bool) (l m:Lb) (hl:cI l) (hm:cI m):Z1 53 [.d (.bool b),.p 0 0,.p 1 0] [.cells [.d (.str l.s),.d (.str l.i)],.cells [.d (.str m.s),.d (.str m.i)]] λo h=>o = .ret (.d (.str (bif b then pO l.s m.s else KZ l.i m.i)))∧h = [.cells [.d (.str l.s),.d (.str l.i)],.cells [.d (.str m.s),.d (.str m.i)]]:=by
 have h1:=xj l.s m.s hl.1 hm.1;have h2:=NZ l.i m.i hl.2 hm.2;cases b with
 |true=>
  refine sh0 Tryz.f53 ?_
  exact zj1 h1
 |false=>
  refine sh0 Tryz.f53 ?_
  exact zj1 h2
theorem Cr (b:Bool) (l m:Lb) (hl:cI l) (hm:cI m):Z1 280 [.d (.bool b),.p 0 0,.p 1 0] [.cells [.d (.str l.s),.d (.str l.i)],.cells [.d (.str m.s),.d (.str m.i)]] λo h=>o = .ret (.d (.str (bif b then KZ l.s m.s else pO l.i m.i)))∧h = [.cells [.d (.str l.s),.d (.str l.i)],.cells [.d (.str m.s),.d (.str m.i)]]:=by
 have h1:=NZ l.s m.s hl.1 hm.1;have h2:=xj l.i m.i hl.2 hm.2;cases b with
 |true=>
  refine sh0 Tryz.f280 ?_
  exact zj1 h1
 |false=>
  refine sh0 Tryz.f280 ?_
  exact zj1 h2
def db (l m:Lb):Lb:=⟨pO l.s m.s,KZ l.i m.i⟩
def nL (l m:Lb):Lb:=⟨KZ l.s m.s,pO l.i m.i⟩
theorem t_ (l m:Lb) (hl:cI l) (hm:cI m):Z0 24 [jT l,jT m] (jT (db l m)):=by
 refine sh0 Tryz.f24 ?_
 repeat' ((conv=>whnf);first | exact zf | refine zm ?_ | refine zr0 ?_ | intro _)
 exact T8 l m _ _ (C_ true l m hl hm) (C_ false l m hl hm) zj0
theorem H4 (l m:Lb) (hl:cI l) (hm:cI m):Z0 229 [jT l,jT m] (jT (nL l m)):=by
 refine sh0 Tryz.f229 ?_
 repeat' ((conv=>whnf);first | exact zf | refine zm ?_ | refine zr0 ?_ | intro _)
 exact T7 l m _ _ (Cr true l m hl hm) (Cr false l m hl hm) zj0
def ao (l m:Lb):Bool:=iU m.s l.s&&iU l.i m.i
theorem gQ (l m:Lb) (hl:cI l) (hm:cI m):Z0 13 [jT l,jT m] (.d (.bool (ao l m))):=by
 have h1:=mI m.s l.s hm.1 hl.1;have h2:=mI l.i m.i hl.2 hm.2;refine sh0 Tryz.f13 ?_;unfold ao;cases hb:iU m.s l.s with
 |true=>
  rw [hb] at h1
  exact zj2 h1 h2
 |false=>
  rw [hb] at h1
  exact zj1 h1
structure Gs where
  cur:Lb
  gH:Lb
def Fh (s:Gs):V:=.ag [.d (.str s.cur.s),.d (.str s.cur.i),.d (.str s.gH.s),.d (.str s.gH.i)]
def kz (l:Lb):List D:=[.str l.s,.str l.i]
def ri (s:Gs):List D:=[.str s.cur.s,.str s.cur.i,.str s.gH.s,.str s.gH.i]
def jX (s:Gs):Prop:=cI s.cur∧cI s.gH
theorem mM (s:Gs) (l:Lb):Z0 284 [Fh s,jT l] (.ag [.d (.fc 321 [.pt (kz l) 0,.pt (ri s) 0]),.d (.int .i64 (-4))]):=by
 refine Gn (rows:=[kz l,ri s]) (by decide) ?_;refine sh0 Tryz.f284 ?_
 exact zj0
theorem ub (s:Gs) (l:Lb):Z0 285 [Fh s,jT l] (.ag [.d (.fc 322 [.pt (ri s) 0,.pt (kz l) 0]),.d (.int .i64 (-3))]):=by
 refine Gn (rows:=[ri s,kz l]) (by decide) ?_;refine sh0 Tryz.f285 ?_
 exact zj0
theorem Bu (s:Gs) (l:Lb) (hs:jX s) (hl:cI l):Z0 321 [.e (kz l) 0,.e (ri s) 0] (.d (.bool (ao l s.gH))):=by
 have h:=gQ l s.gH hl hs.2;refine sh0 Tryz.f321 ?_
 exact zj1 h
theorem KQ (s:Gs) (l:Lb) (hs:jX s) (hl:cI l):Z0 322 [.e (ri s) 0,.e (kz l) 0] (.d (.bool (ao s.cur l))):=by
 have h:=gQ s.cur l hs.1 hl;refine sh0 Tryz.f322 ?_
 exact zj1 h
structure Mu where
  F:Nat
  cs:List D
  so:Bool
  ex:Int
def Mu.row (m:Mu):List D:=[.fc m.F m.cs,.int .i64 m.ex]
def firstM:List Mu→Int
 |[]=>0
 |m :: r=>bif m.so then firstM r else m.ex
theorem nT:∀{i:Nat} {l:List Mu},(∀m∈l.take i,m.so=true)→firstM l=firstM (l.drop i)
 |0,_,_=>rfl
 |i+1,[],_=>rfl
 |i+1,m :: l,h=>by
  rw [firstM,h m (by simp),mT,δ];exact nT λx hx=>h x (by simp [hx])
theorem nU (l:List Mu) (hF:∀m∈l,((∃a b,(m.F=321∨m.F=322)∧m.cs = [.pt a 0,.pt b 0])∨∃a b c,(m.F=293∨m.F=295)∧m.cs = [.pt a 0,.pt b 0,.pt c 0])∧Z0 m.F (m.cs.map S3) (.d (.bool m.so))) :
  Z0 283 [.d (.sl 2 (l.map Mu.row))] (.d (.int .i64 (firstM l))):=by
 have hl:(l.map Mu.row).length=l.length:=aI _;refine sh0 Tryz.f283 ?_
 repeat' ((conv=>whnf);first | exact zf | refine zm ?_ | intro _)
 conv=>whnf
 refine bN [(0,.d (.sl 2 (l.map Mu.row))),(5,.d (.sl 2 (l.map Mu.row))),(6,.d (.int .i64 (l.map Mu.row).length))] (λi:Nat=>i≤l.length∧∀m∈l.take i,m.so=true) (λi=>[(7,.d (.int .i64 i))]) (λ_=>[]) (λi=>l.length - i) 0 ⟨ah _,λ_ h=>nomatch h⟩ ?_ ?_ ?_ (λi hi=>?_)
 ·exact zzz
 ·exact zzz
 ·exact rfl
 repeat' ((conv=>whnf);first | exact zf | refine zm ?_ | intro _)
 refine aX (λhlt=>?_) (λhge=>?_)
 ·have hlt:i<l.length:=by rw [←hl];simpa using hlt
  obtain ⟨m,hm⟩:∃m,l[i]? = some m:=⟨_,aB hlt⟩
  obtain ⟨hf,hs⟩:=hF m (aH hm);have hfm:=nT hi.2;have hdr:l.drop i=m :: l.drop (i+1):=by
   rw [bR hlt];rw [aB hlt] at hm;rw [an hm]
  rw [hdr] at hfm;have htk:l.take (i+1)=l.take i ++ [m]:=by rw [bu,hm];rfl
  obtain ⟨F,cs,so,ex⟩:=m
  repeat' ((conv=>whnf);first | exact zf | refine zm ?_ | intro _)
  refine ⟨[.fc F cs,.int .i64 ex],⟨by omega,by simp [hm,Mu.row],rfl⟩,?_⟩;rcases hf with ⟨a,b,hf | hf,hc⟩ | ⟨a,b,c,hf | hf,hc⟩
  ·simp only at hf hc;subst hf hc;dsimp only at hs;cases so with
   |true=>
    repeat' ((conv=>whnf);first | exact zf | refine zm ?_ | refine zc hs ?_ | intro _)
    refine ⟨i+1,⟨hlt,?_⟩,bG hlt (bP i),zzz,zzz,rfl⟩;rw [htk];intro x hx;exact (aS.1 hx).elim (hi.2 x) λh=>by rw [aM.1 h]
   |false=>
    repeat' ((conv=>whnf);first | exact zf | refine zm ?_ | refine zc hs ?_ | intro _)
    exact cS (κ (λx=>V.d (D.int .i64 x)) hfm.symm)
  ·simp only at hf hc;subst hf hc;dsimp only at hs;cases so with
   |true=>
    repeat' ((conv=>whnf);first | exact zf | refine zm ?_ | refine zc hs ?_ | intro _)
    refine ⟨i+1,⟨hlt,?_⟩,bG hlt (bP i),zzz,zzz,rfl⟩;rw [htk];intro x hx;exact (aS.1 hx).elim (hi.2 x) λh=>by rw [aM.1 h]
   |false=>
    repeat' ((conv=>whnf);first | exact zf | refine zm ?_ | refine zc hs ?_ | intro _)
    exact cS (κ (λx=>V.d (D.int .i64 x)) hfm.symm)
  ·simp only at hf hc;subst hf hc;dsimp only at hs;cases so with
   |true=>
    repeat' ((conv=>whnf);first | exact zf | refine zm ?_ | refine zc hs ?_ | intro _)
    refine ⟨i+1,⟨hlt,?_⟩,bG hlt (bP i),zzz,zzz,rfl⟩;rw [htk];intro x hx;exact (aS.1 hx).elim (hi.2 x) λh=>by rw [aM.1 h]
   |false=>
    repeat' ((conv=>whnf);first | exact zf | refine zm ?_ | refine zc hs ?_ | intro _)
    exact cS (κ (λx=>V.d (D.int .i64 x)) hfm.symm)
  ·simp only at hf hc;subst hf hc;dsimp only at hs;cases so with
   |true=>
    repeat' ((conv=>whnf);first | exact zf | refine zm ?_ | refine zc hs ?_ | intro _)
    refine ⟨i+1,⟨hlt,?_⟩,bG hlt (bP i),zzz,zzz,rfl⟩;rw [htk];intro x hx;exact (aS.1 hx).elim (hi.2 x) λh=>by rw [aM.1 h]
   |false=>
    repeat' ((conv=>whnf);first | exact zf | refine zm ?_ | refine zc hs ?_ | intro _)
    exact cS (κ (λx=>V.d (D.int .i64 x)) hfm.symm)
 ·have hge:i=l.length:=by
   have:¬i<l.length:=by rw [←hl];simpa using hge
   omega
  have hfm:=nT hi.2;rw [hge,lH] at hfm;rw [hfm]
  exact zj0
def vd (s:Gs) (l:Lb):Mu:=⟨321,[.pt (kz l) 0,.pt (ri s) 0],ao l s.gH,-4⟩
def yp (s:Gs) (l:Lb):Mu:=⟨322,[.pt (ri s) 0,.pt (kz l) 0],ao s.cur l,-3⟩
theorem xD (s:Gs) (l:Lb) (hs:jX s) (hl:cI l):((∃a b,((vd s l).F=321∨(vd s l).F=322)∧(vd s l).cs = [.pt a 0,.pt b 0])∨∃a b c,((vd s l).F=293∨(vd s l).F=295)∧(vd s l).cs = [.pt a 0,.pt b 0,.pt c 0])∧Z0 (vd s l).F ((vd s l).cs.map S3) (.d (.bool (vd s l).so)):=
 ⟨.inl ⟨_,_,.inl rfl,rfl⟩,Bu s l hs hl⟩
theorem BI (s:Gs) (l:Lb) (hs:jX s) (hl:cI l):((∃a b,((yp s l).F=321∨(yp s l).F=322)∧(yp s l).cs = [.pt a 0,.pt b 0])∨∃a b c,((yp s l).F=293∨(yp s l).F=295)∧(yp s l).cs = [.pt a 0,.pt b 0,.pt c 0])∧Z0 (yp s l).F ((yp s l).cs.map S3) (.d (.bool (yp s l).so)):=
 ⟨.inl ⟨_,_,.inr rfl,rfl⟩,KQ s l hs hl⟩
def bV (s:Gs) (l:Lb):Int:=firstM [yp s l,vd s l]
theorem fY (s:Gs) (l:Lb) (hs:jX s) (hl:cI l):Z0 242 [Fh s,jT l] (.d (.int .i64 (bV s l))):=by
 have h1:=ub s l;have h2:=mM s l;have h3:=nU [yp s l,vd s l] (by
  intro m hm;simp only [a8,cY,or_false] at hm;rcases hm with rfl | rfl
  ·exact BI s l hs hl
  ·exact xD s l hs hl)
 refine sh0 Tryz.f242 ?_
 exact zj3 h1 h2 h3
def dY (s:Gs) (l:Lb):Int:=firstM [vd s (db s.cur l)]
def dE (s:Gs) (l:Lb):Gs:=bif dY s l==0 then ⟨db s.cur l,s.gH⟩ else s
def V4 (s:Gs) (e:Int):V:=.tu [Fh s,.d (.int .i64 e)]
theorem yN (s:Gs) (l:Lb) (hs:jX s) (hl:cI l) (hj:cI (db s.cur l)):Z0 282 [Fh s,jT l] (V4 (dE s l) (dY s l)):=by
 have h1:=t_ s.cur l hs.1 hl;have h2:=mM s (db s.cur l);have h3:=nU [vd s (db s.cur l)] (by
  intro m hm;rw [aM.1 hm];exact xD s _ hs hj)
 have he:firstM [vd s (db s.cur l)]=dY s l:=rfl;rw [he] at h3;unfold dE;cases hb:dY s l==0 with
 |true=>
  rw [eq_of_beq hb] at h3 ⊢;refine sh0 Tryz.f282 ?_
  exact zj3 h1 h2 h3
 |false=>
  refine sh0 Tryz.f282 ?_
  exact zk3 h1 h2 h3
def uZ (s:Gs) (l:Lb):Gs:=bif bV s l==0 then ⟨fA l,s.gH⟩ else s
theorem D2 (s:Gs) (l:Lb) (hs:jX s) (hl:cI l):Z0 286 [Fh s,jT l] (V4 (uZ s l) (bV s l)):=by
 have h1:=fY s l hs hl;have h2:=j_ l hl;unfold uZ;cases hb:bV s l==0 with
 |true=>
  rw [eq_of_beq hb] at h1 ⊢;refine sh0 Tryz.f286 ?_
  exact zj2 h1 h2
 |false=>
  refine sh0 Tryz.f286 ?_
  exact zk2 h1 h2
def jZ (s:Gs) (l:Lb):Int:=firstM [vd s l,yp s l]
def tZ (s:Gs) (l:Lb):Gs:=bif jZ s l==0 then ⟨s.cur,fA l⟩ else s
theorem H5 (s:Gs) (l:Lb) (hs:jX s) (hl:cI l):Z0 235 [Fh s,jT l] (V4 (tZ s l) (jZ s l)):=by
 have h1:=ub s l;have h2:=mM s l;have h3:=nU [vd s l,yp s l] (by
  intro m hm;simp only [a8,cY,or_false] at hm;rcases hm with rfl | rfl
  ·exact xD s l hs hl
  ·exact BI s l hs hl)
 have h4:=j_ l hl;have he:firstM [vd s l,yp s l]=jZ s l:=rfl;rw [he] at h3;unfold tZ;cases hb:jZ s l==0 with
 |true=>
  rw [eq_of_beq hb] at h3 ⊢;refine sh0 Tryz.f235 ?_
  repeat' ((conv=>whnf);first | exact zf | refine zm ?_ | refine zc h1 ?_ | refine zc h2 ?_ | refine zc h3 ?_ | refine zc h4 ?_ | intro _)
 |false=>
  refine sh0 Tryz.f235 ?_
  repeat' ((conv=>whnf);first | exact zf | refine zm ?_ | refine zc h1 ?_ | refine zc h2 ?_ | refine zc h3 ?_ | refine zc h4 ?_ | refine zt ?_ | refine zu ?_ | intro _)
def Cc (p:Int) (i:Nat):List UInt8:=((List.range i).filter λk=>zJ (2 ^ k) p).map λk=>UInt8.ofNat (2 ^ k)
def HM (p:Int):List UInt8:=Cc p 6
theorem yg (p:Int) (i:Nat):Cc p (i+1)=bif zJ (2 ^ i) p then Cc p i ++ [UInt8.ofNat (2 ^ i)] else Cc p i:=by
 unfold Cc;rw [List.range_succ,List.filter_append];cases h:zJ (2 ^ i) p<;>simp [h]
theorem wz (p:Int):∀i,(Cc p i).length≤i
 |0=>by simp [Cc]
 |i+1=>by
  have:=wz p i;rw [yg];cases zJ (2 ^ i) p<;>simp<;>omega
theorem LC:∀i:Nat,i<6→Af .shl .u8 1 (i:Int)=2 ^ i∧((UInt8.ofNat (2 ^ i)).toNat:Int)=2 ^ i:=by decide
theorem TU (p:Int):Z0 325 [.d (.int .u8 p)] (.d (.str (HM p))):=by
 refine sh0 Tryz.f325 ?_
 repeat' ((conv=>whnf);first | exact zf | refine zm ?_ | intro _)
 conv=>whnf
 refine bN [(0,.d (.int .u8 p)),(3,.os 0)] (λi:Nat=>i≤6) (λi=>[(6,.d (.int .i64 i))]) (λi=>[.rows 1 (iJ (Cc p i))]) (λi=>6 - i) 0 (ah _) ?_ ?_ ?_ (λi hi=>?_)
 ·exact zzz
 ·exact ⟨aU rfl,trivial⟩
 ·exact zx0
 repeat' ((conv=>whnf);first | exact zf | refine zm ?_ | intro _)
 refine aX (λhlt=>?_) (λhge=>?_)
 ·have hlt:i<6:=by have:=θ hlt;omega
  have hs:=yg p i;have hlen:=wz p i;have hrl:(iJ (Cc p i)).length=(Cc p i).length:=aI _;obtain ⟨e1,e2⟩:=LC i hlt;have hp:Z0 262 [.d (.int .u8 (Af .shl .u8 1 (i:Int))),.d (.int .u8 p)] (.d (.bool (zJ (2 ^ i) p))):=by
   have:=Nj (Af .shl .u8 1 (i:Int)) p;rwa [show zJ (Af .shl .u8 1 (i:Int)) p=zJ (2 ^ i) p by rw [e1]] at this
  have hr:iJ (Cc p i ++ [UInt8.ofNat (2 ^ i)])=iJ (Cc p i) ++ [[D.int .u8 (Af .shl .u8 1 (i:Int))]]:=by
   rw [e1,←e2];simp [iJ]
  cases hb:zJ (2 ^ i) p with
  |true=>
   rw [hb] at hp hs
   repeat' ((conv=>whnf);first | exact zf | refine zm ?_ | refine zc hp ?_ | refine zi0 ?_ | refine (And.intro ⟨rfl,rfl,by simp only [aV,ak];omega,by simp only [aV,ak];omega⟩ ?_) | intro _)
   exact ⟨i+1,hlt,bG hlt (bP i),zzz,⟨aU (by rw [hs,δ,hr];rfl),trivial⟩,rfl⟩
  |false=>
   rw [hb] at hp hs
   repeat' ((conv=>whnf);first | exact zf | refine zm ?_ | refine zc hp ?_ | refine zi0 ?_ | intro _)
   exact ⟨i+1,hlt,bG hlt (bP i),zzz,⟨aU (by rw [hs];rfl),trivial⟩,rfl⟩
 ·have hge:i=6:=by have:=ι hge;omega
  subst hge
  conv=>whnf
  refine ⟨Cc p 6,rfl,?_⟩
  exact zj0
theorem EX (p:Int):∀i,i≤6→Ae (Cc p i):=λi hi=>aZ (wz p i) (by omega)
def fL (a b:Lb) (p:Int):Bool:=iU (pO b.s (HM p)) a.s&&iU (pO a.i (HM p)) b.i
theorem CS (a b:List UInt8):Ae (pO a b):=gC _
theorem vY (a b:Lb) (p:Int) (ha:cI a) (hb:cI b):Z0 294 [jT a,jT b,.d (.int .u8 p)] (.d (.bool (fL a b p))):=by
 have h0:=TU p;have hp:Ae (HM p):=EX p 6 (aR _);have h1:=xj b.s (HM p) hb.1 hp;have h2:=mI (pO b.s (HM p)) a.s (CS _ _) ha.1;have h3:=xj a.i (HM p) ha.2 hp;have h4:=mI (pO a.i (HM p)) b.i (CS _ _) hb.2;unfold fL;cases hb:iU (pO b.s (HM p)) a.s with
 |true=>
  rw [hb] at h2;refine sh0 Tryz.f294 ?_
  repeat' ((conv=>whnf);first | exact zf | refine zm ?_ | refine zc h0 ?_ | refine zc h1 ?_ | refine zc h2 ?_ | refine zc h3 ?_ | refine zc h4 ?_ | intro _)
 |false=>
  rw [hb] at h2;refine sh0 Tryz.f294 ?_
  exact zj3 h0 h1 h2
end Go.Proofs.YtjpgfgajkjhonaaGreatDoor
namespace Go.Proofs.YtjpgfgajkjhonaaGreatDoor
open Go.RowKit Go.Shelf Go.Proofs
def eH:Go.Shelf.Ren:=⟨λ| 240=>341 | 276=>342 | 166=>339 | 169=>340 | 167=>338 | n=>n,λ| 37=>188 | 70=>401 | 72=>403 | 164=>409 | 127=>391 | 75=>262 | 80=>324 | n=>n,λ| n=>n⟩
theorem writeString:Lays.n166 Tryz.prog eH where
 mixed:=zx0
 f166:=Tryz.func339.trans (κ some zx0)
 f240:=Tryz.func341.trans (κ some zx0)
 f276:=Tryz.func342.trans (κ some zx0)
 t0:=Tryz.underlying0
 a0:=Tryz.isAgg0
 z0:=Tryz.sizeOf0
 v0:=Tryz.zeroValue0
 t3:=Tryz.underlying3
 a3:=Tryz.isAgg3
 z3:=Tryz.sizeOf3
 v3:=Tryz.zeroValue3
 t4:=Tryz.underlying4
 a4:=Tryz.isAgg4
 z4:=Tryz.sizeOf4
 v4:=Tryz.zeroValue4
 t9:=Tryz.underlying9
 a9:=Tryz.isAgg9
 z9:=Tryz.sizeOf9
 v9:=Tryz.zeroValue9
 t20:=Tryz.underlying20
 a20:=Tryz.isAgg20
 z20:=Tryz.sizeOf20
 v20:=Tryz.zeroValue20
 t37:=Tryz.underlying188
 a37:=Tryz.isAgg188
 z37:=Tryz.sizeOf188
 v37:=Tryz.zeroValue188
 t70:=Tryz.underlying401
 a70:=Tryz.isAgg401
 z70:=Tryz.sizeOf401
 v70:=Tryz.zeroValue401
 t72:=Tryz.underlying403
 a72:=Tryz.isAgg403
 z72:=Tryz.sizeOf403
 v72:=Tryz.zeroValue403
 t75:=Tryz.underlying262
 a75:=Tryz.isAgg262
 z75:=Tryz.sizeOf262
 v75:=Tryz.zeroValue262
 t164:=Tryz.underlying409
 a164:=Tryz.isAgg409
 z164:=Tryz.sizeOf409
 v164:=Tryz.zeroValue409
def sZ:Go.Shelf.Ren:=⟨λ| 240=>341 | 276=>342 | 166=>339 | 169=>340 | 167=>338 | n=>n,λ| 37=>188 | 70=>401 | 72=>403 | 164=>409 | 127=>391 | 75=>262 | 80=>324 | n=>n,λ| n=>n⟩
theorem Dq:Lays.n167 Tryz.prog sZ where
 mixed:=zx0
 f167:=Tryz.func338.trans (κ some zx0)
 f240:=Tryz.func341.trans (κ some zx0)
 f276:=Tryz.func342.trans (κ some zx0)
 t0:=Tryz.underlying0
 a0:=Tryz.isAgg0
 z0:=Tryz.sizeOf0
 v0:=Tryz.zeroValue0
 t4:=Tryz.underlying4
 a4:=Tryz.isAgg4
 z4:=Tryz.sizeOf4
 v4:=Tryz.zeroValue4
 t5:=Tryz.underlying5
 a5:=Tryz.isAgg5
 z5:=Tryz.sizeOf5
 v5:=Tryz.zeroValue5
 t9:=Tryz.underlying9
 a9:=Tryz.isAgg9
 z9:=Tryz.sizeOf9
 v9:=Tryz.zeroValue9
 t20:=Tryz.underlying20
 a20:=Tryz.isAgg20
 z20:=Tryz.sizeOf20
 v20:=Tryz.zeroValue20
 t37:=Tryz.underlying188
 a37:=Tryz.isAgg188
 z37:=Tryz.sizeOf188
 v37:=Tryz.zeroValue188
 t70:=Tryz.underlying401
 a70:=Tryz.isAgg401
 z70:=Tryz.sizeOf401
 v70:=Tryz.zeroValue401
 t72:=Tryz.underlying403
 a72:=Tryz.isAgg403
 z72:=Tryz.sizeOf403
 v72:=Tryz.zeroValue403
 t75:=Tryz.underlying262
 a75:=Tryz.isAgg262
 z75:=Tryz.sizeOf262
 v75:=Tryz.zeroValue262
 t164:=Tryz.underlying409
 a164:=Tryz.isAgg409
 z164:=Tryz.sizeOf409
 v164:=Tryz.zeroValue409
def zi:Go.Shelf.Ren:=⟨λ| 240=>341 | 276=>342 | 166=>339 | 169=>340 | 167=>338 | n=>n,λ| 37=>188 | 70=>401 | 72=>403 | 164=>409 | 127=>391 | 75=>262 | 80=>324 | n=>n,λ| n=>n⟩
theorem Mo:Lays.n169 Tryz.prog zi where
 mixed:=zx0
 f169:=Tryz.func340.trans (κ some zx0)
 t0:=Tryz.underlying0
 a0:=Tryz.isAgg0
 z0:=Tryz.sizeOf0
 v0:=Tryz.zeroValue0
 t3:=Tryz.underlying3
 a3:=Tryz.isAgg3
 z3:=Tryz.sizeOf3
 v3:=Tryz.zeroValue3
 t9:=Tryz.underlying9
 a9:=Tryz.isAgg9
 z9:=Tryz.sizeOf9
 v9:=Tryz.zeroValue9
 t37:=Tryz.underlying188
 a37:=Tryz.isAgg188
 z37:=Tryz.sizeOf188
 v37:=Tryz.zeroValue188
 t70:=Tryz.underlying401
 a70:=Tryz.isAgg401
 z70:=Tryz.sizeOf401
 v70:=Tryz.zeroValue401
 t72:=Tryz.underlying403
 a72:=Tryz.isAgg403
 z72:=Tryz.sizeOf403
 v72:=Tryz.zeroValue403
 t127:=Tryz.underlying391
 a127:=Tryz.isAgg391
 z127:=Tryz.sizeOf391
 v127:=Tryz.zeroValue391
def Qf:Go.Shelf.Ren:=⟨λ| 143=>213 | 219=>275 | 217=>308 | 225=>309 | 224=>310 | 267=>311 | 266=>333 | 314=>334 | n=>n,λ| 9=>9 | 3=>3 | 4=>4 | 5=>5 | 46=>198 | 146=>398 | 51=>293 | n=>n,λ| 1=>1 | n=>n⟩
theorem index:Lays.n143 Tryz.prog Qf where
 mixed:=zx0
 f143:=Tryz.func213.trans (κ some zx0)
 f217:=Tryz.func308.trans (κ some zx0)
 f219:=Tryz.func275.trans (κ some zx0)
 f224:=Tryz.func310.trans (κ some zx0)
 f225:=Tryz.func309.trans (κ some zx0)
 f266:=Tryz.func333.trans (κ some zx0)
 f267:=Tryz.func311.trans (κ some zx0)
 f314:=Tryz.func334.trans (κ some zx0)
 t3:=Tryz.underlying3
 a3:=Tryz.isAgg3
 z3:=Tryz.sizeOf3
 v3:=Tryz.zeroValue3
 t4:=Tryz.underlying4
 a4:=Tryz.isAgg4
 z4:=Tryz.sizeOf4
 v4:=Tryz.zeroValue4
 t5:=Tryz.underlying5
 a5:=Tryz.isAgg5
 z5:=Tryz.sizeOf5
 v5:=Tryz.zeroValue5
 t9:=Tryz.underlying9
 a9:=Tryz.isAgg9
 z9:=Tryz.sizeOf9
 v9:=Tryz.zeroValue9
 t46:=Tryz.underlying198
 a46:=Tryz.isAgg198
 z46:=Tryz.sizeOf198
 v46:=Tryz.zeroValue198
 t51:=Tryz.underlying293
 a51:=Tryz.isAgg293
 z51:=Tryz.sizeOf293
 v51:=Tryz.zeroValue293
 t146:=Tryz.underlying398
 a146:=Tryz.isAgg398
 z146:=Tryz.sizeOf398
 v146:=Tryz.zeroValue398
 g1:=zx0
def iT:Go.Shelf.Ren:=⟨λ| 22=>48 | 29=>88 | 30=>89 | 36=>132 | 17=>196 | n=>n,λ| 24=>93 | 9=>9 | 3=>3 | 4=>4 | 0=>0 | n=>n,λ| n=>n⟩
theorem insert:Lays2.n22 Tryz.prog iT where
 mixed:=zx0
 f17:=Tryz.func196.trans (κ some zx0)
 f22:=Tryz.func48.trans (κ some zx0)
 f29:=Tryz.func88.trans (κ some zx0)
 f30:=Tryz.func89.trans (κ some zx0)
 f36:=Tryz.func132.trans (κ some zx0)
 t0:=Tryz.underlying0
 a0:=Tryz.isAgg0
 z0:=Tryz.sizeOf0
 v0:=Tryz.zeroValue0
 t3:=Tryz.underlying3
 a3:=Tryz.isAgg3
 z3:=Tryz.sizeOf3
 v3:=Tryz.zeroValue3
 t4:=Tryz.underlying4
 a4:=Tryz.isAgg4
 z4:=Tryz.sizeOf4
 v4:=Tryz.zeroValue4
 t9:=Tryz.underlying9
 a9:=Tryz.isAgg9
 z9:=Tryz.sizeOf9
 v9:=Tryz.zeroValue9
 t24:=Tryz.underlying93
 a24:=Tryz.isAgg93
 z24:=Tryz.sizeOf93
 v24:=Tryz.zeroValue93
 i9:=zx0
end Go.Proofs.YtjpgfgajkjhonaaGreatDoor