/- Formulas and labels: what their functions tell. Conditions: none. -/
import Derived.Test.YtjpgfgajkjhonaaGreatDoorQEAT
import Derived.Test.YtjpgfgajkjhonaaGreatDoorQEAU
import Derived.Shelf.Strings.Builder1
import Derived.Test.YtjpgfgajkjhonaaGreatDoorChecked
import Derived.KernelRfl
import Derived.Shelf.Lay
import Derived.Shelf.Strings.Search3
import Derived.Shelf.Spec.SlicesInsert
import Derived.Shelf.Spec.SlicesInsertGrow
set_option maxRecDepth 100000
namespace Go.Proofs.YtjpgfgajkjhonaaGreatDoor
open Go.Vx
set_option maxRecDepth 100000
theorem qp {K:Out→H→Prop} (s:List UInt8) (hk:K (.ret (.fc 134 [.p 0 0])) [.cells [.d (.str s)]]):Sat Tryz.prog 92 [.d (.str s)] [] K:=by
 refine s92.go (keep:=false) rfl ?_
 repeat' ((conv=>whnf);first | exact zf | refine zm ?_ | intro _)
 exact hk
def Fb (a b:Int):Bool:=jS .andNot .u8 a b==0
theorem LG (a b:Int):bJ Tryz.prog 262 [.d (.int .u8 a),.d (.int .u8 b)] (.d (.bool (Fb a b))):=by
 refine s262.go (keep:=false) rfl ?_
 repeat' ((conv=>whnf);first | exact zf | refine zm ?_ | intro _)
def oneOf (s:Int) (l:List Int):Bool:=l.any λx=>Fb x s
def dz (l:List Int):List (List D):=l.map λx=>[D.int .u8 x]
theorem iP (l:List Int):(dz l).length=l.length:=by simp [dz]
theorem M3 (s:Int) (l:List Int):bJ Tryz.prog 197 [.d (.int .u8 s),.d (.sl 1 (dz l))] (.d (.bool (oneOf s l))):=by
 have hl:=iP l;refine s197.go (keep:=false) rfl ?_
 repeat' ((conv=>whnf);first | exact zf | refine zm ?_ | intro _)
 conv=>whnf
 refine bV [(0,.d (.int .u8 s)),(7,.d (.sl 1 (dz l))),(8,.d (.int .i64 (dz l).length))] (λi:Nat=>i≤l.length∧oneOf s (l.take i)=false) (λi=>[(9,.d (.int .i64 i))]) (λ_=>[]) (λi=>l.length - i) 0 ⟨ak _,rfl⟩ ?_ ?_ ?_ (λi hi=>?_)
 ·exact zzz
 ·exact zzz
 ·exact rfl
 repeat' ((conv=>whnf);first | exact zf | refine zm ?_ | intro _)
 refine aW (λhlt=>?_) (λhge=>?_)
 ·have hlt:i<l.length:=by simpa [dz] using hlt
  have hr:=LG l[i] s;have ht:l.take (i+1)=l.take i ++ [l[i]]:=dB hlt
  repeat' ((conv=>whnf);first | exact zf | refine zm ?_ | intro _)
  refine ⟨[D.int .u8 l[i]],⟨by omega,by simp [dz,hlt],rfl⟩,?_⟩;cases hb:Fb l[i] s with
  |true=>
   rw [hb] at hr
   repeat' ((conv=>whnf);first | exact zf | refine zm ?_ | refine zc hr ?_ | intro _)
   refine cQ ?_;have:oneOf s l=true:=List.any_eq_true.2 ⟨l[i],cZ hlt,hb⟩;rw [this];rfl
  |false=>
   rw [hb] at hr
   repeat' ((conv=>whnf);first | exact zf | refine zm ?_ | refine zc hr ?_ | refine (.inl ⟨by unfold eN;omega,?_⟩) | intro _)
   refine ⟨i+1,⟨hlt,?_⟩,bC hlt (bL i),zzz,zzz,rfl⟩;rw [ht];unfold oneOf at hi ⊢;rw [List.any_append,hi.2];simp [hb]
 ·have hge:l.length≤i:=by simpa [dz] using hge
  repeat' ((conv=>whnf);first | exact zf | refine zm ?_ | intro _)
  refine cQ ?_;have h2:=hi.2;rw [cq hge] at h2;rw [h2];rfl
def qT (l:List UInt8) (n:Nat):Bool:=l.any λb=>b.toNat==n
def kY (l:List UInt8) (told:List Int) (n:Nat):List Int:=bif qT l n && !(oneOf n told) then told ++ [(n:Int)] else told
def gU (l:List UInt8) (k:Nat):List Int:=(List.range k).foldl (kY l) []
def least (l:List UInt8):List UInt8:=(gU l 256).map λx=>UInt8.ofNat x.toNat
theorem mI (l:List UInt8) (k:Nat):gU l (k+1)=kY l (gU l k) k:=by simp [gU,List.range_succ]
theorem Ch (l:List UInt8) (k:Nat) (hk:k≤256):∀x∈gU l k,0≤x∧x<256:=by
 induction k with
 |zero=>intro x hx;simp [gU] at hx
 |succ k ih=>
  intro x hx;rw [mI] at hx;unfold kY at hx;cases hc:qT l k && !(oneOf k (gU l k))<;>rw [hc] at hx
  ·exact ih (by omega) x hx
  ·simp only [cond_true,aT,aO] at hx;rcases hx with hx | hx
   ·exact ih (by omega) x hx
   ·omega
theorem rj (l:List UInt8) (k:Nat):(gU l k).length≤k:=by
 induction k with
 |zero=>simp [gU]
 |succ k ih=>
  rw [mI];unfold kY;cases qT l k && !(oneOf k (gU l k))<;>simp<;>omega
theorem zR (l:List UInt8):dz (gU l 256)=(least l).map λb=>[D.int .u8 b.toNat]:=by
 unfold dz least;rw [ek];refine aq λx hx=>?_;have:=Ch l 256 (aQ _) x hx;simp only [Function.comp_apply,mV];rw [dq (by omega),Int.toNat_of_nonneg this.1]
def o8 (l:List UInt8) (k:Nat):List (List D):=(List.range 256).map λj=>[D.bool (qT (l.take k) j)]
def sD (l:List UInt8):List D:=(List.range 256).map λj=>D.bool (qT l j)
theorem qQ {α:Type} (x:α):∀n,List.replicate n x=(List.range n).map λ_=>x:=by
 intro n;rw [List.map_const',fR]
theorem hereR_0 (l:List UInt8):List.replicate 256 [D.bool false]=o8 l 0:=qQ _ 256
theorem Cv (l:List UInt8) (k:Nat) (b:UInt8):(o8 l k)[b.toNat]? = some [D.bool (qT (l.take k) b.toNat)]:=by
 unfold o8;rw [aC,cC (by have:=b.toNat_lt;omega)];rfl
theorem zj (l:List UInt8) (k:Nat) (hk:k<l.length):(o8 l k).set l[k].toNat [D.bool true]=o8 l (k+1):=by
 have ht:l.take (k+1)=l.take k ++ [l[k]]:=dB hk;have hh:∀j,qT (l.take (k+1)) j=(qT (l.take k) j||l[k].toNat==j):=λj=>by
  unfold qT;rw [ht,List.any_append];simp
 unfold o8;refine dC λj=>?_
 by_cases hj:j<256
 ·by_cases e:l[k].toNat=j
  ·subst e;rw [bc (by simpa using hj),aC,cC hj,bF,hh];simp
  ·rw [eU e,aC,aC,cC hj,bF,bF,hh];have:(l[k].toNat==j)=false:=by simpa using e
   rw [this,Bool.or_false]
 ·rw [eD (by simp;omega),eD (by simp;omega)]
theorem Ja (l:List UInt8):o8 l l.length=(sD l).map λd=>[d]:=by
 unfold o8 sD;rw [dP,ek];rfl
theorem mq (i:Int) (l:List D) (r:List (List D)):xS 0 [(19,.d (.int .i64 i)),(18,.ag (l.map .d)),(5,.os 1)] [.no,.rows 1 r]=true:=by
 have e:ir (.ag (l.map V.d)) = []:=by simp [ir,jo,iQ]
 simp only [xS,kO,List.all_nil,eF,e,dc,Bool.true_and];rfl
set_option maxHeartbeats 4000000 in
theorem FP (l:List UInt8):bJ Tryz.prog 133 [.d (.str l)] (.d (.str (least l))):=by
  refine s133.go (keep:=false) rfl ?_
  repeat' ((conv=>whnf);first | exact zf | refine zm ?_ | intro _)
  conv=>whnf
  refine bV [(0,.d (.str l)),(3,.q 0 1 0 0),(9,.d (.int .i64 l.length))] (λk:Nat=>k≤l.length) (λk=>[(10,.d (.int .i64 k))]) (λk=>[.rows 1 (o8 l k)]) (λk=>l.length - k) 0 (ak _) ?_ ?_ ?_ (λk hk=>?_)
  · exact zzz
  · exact ⟨aZ (by rw [hereR_0 l]),trivial⟩
  · exact (by kernel_rfl)
  repeat' ((conv=>whnf);first | exact zf | refine zm ?_ | intro _)
  refine aW (λhlt=>?_) (λhge=>?_)
  · have hlt:k<l.length:=by simpa using hlt
    repeat' ((conv=>whnf);first | exact zf | refine zm ?_ | intro _)
    refine ⟨l[k],⟨by omega,by simp [hlt]⟩,?_⟩
    have hb:=l[k].toNat_lt
    repeat' ((conv=>whnf);first | exact zf | refine zm ?_ | intro _)
    conv=>whnf
    refine ⟨[D.bool (qT (l.take k) l[k].toNat)],Cv l k l[k],⟨rfl,rfl,rfl⟩,?_⟩
    repeat' ((conv=>whnf);first | exact zf | refine zm ?_ | refine (.inl ⟨by unfold eN;omega,?_⟩) | intro _)
    refine ⟨k+1,hlt,bC hlt (bL k),zzz,⟨aZ (congrArg (B.rows 1) (zj l k hlt)),trivial⟩,rfl⟩
  · have hge:l.length≤k:=by simpa using hge
    obtain rfl:k=l.length:=by omega
    repeat' ((conv=>whnf);first | exact zf | refine zm ?_ | intro _)
    refine ⟨sD l,⟨Ja l,by simp [sD]⟩,?_⟩
    repeat' ((conv=>whnf);first | exact zf | refine zm ?_ | intro _)
    conv=>whnf
    refine bV [(18,.ag ((sD l).map .d)),(5,.os 1)] (λk:Nat=>k≤256) (λk=>[(19,.d (.int .i64 k))]) (λk=>[.no,.rows 1 (dz (gU l k))]) (λk=>256 - k) 0 (ak _) ?_ ?_ (mq _ _ _) (λk hk=>?_)
    · exact zzz
    · exact zzz
    repeat' ((conv=>whnf);first | exact zf | refine zm ?_ | intro _)
    refine aW (λhlt=>?_) (λhge=>?_)
    · have hlt:k<256:=by have:=of_decide_eq_true hlt;omega
      have hlen:=rj l k
      have hrl:=iP (gU l k)
      have hg:∀b,qT l k=b→((sD l).map V.d)[(k:Int).toNat]? = some (.d (.bool b)):=λb hb=>by
        subst hb
        simp [sD,hlt]
      have hsx:=mI l k
      unfold kY at hsx
      have hr:=M3 k (gU l k)
      cases h1:qT l k with
      |false=>
        rw [h1,mY,cond_false] at hsx
        repeat' ((conv=>whnf);first | exact zf | refine zm ?_ | intro _)
        refine ⟨.bool false,⟨by omega,by omega,hg _ h1⟩,?_⟩
        repeat' ((conv=>whnf);first | exact zf | refine zm ?_ | refine (.inl ⟨by unfold eN;omega,?_⟩) | intro _)
        refine ⟨k+1,hlt,bC hlt (bL k),zzz,⟨aZ (by rw [hsx]),trivial⟩,mq _ _ _⟩
      |true=>
        cases h2:oneOf k (gU l k) with
        |true=>
          rw [h1,h2] at hsx
          rw [h2] at hr
          simp only [Bool.not_true,Bool.and_false,cond_false] at hsx
          repeat' ((conv=>whnf);first | exact zf | refine zm ?_ | intro _)
          refine ⟨.bool true,⟨by omega,by omega,hg _ h1⟩,?_⟩
          repeat' ((conv=>whnf);first | exact zf | refine zm ?_ | refine (.inl ⟨_,hr,rfl,?_⟩) | refine (.inl ⟨by unfold eN;omega,?_⟩) | intro _)
          refine ⟨k+1,hlt,bC hlt (bL k),zzz,⟨aZ (by rw [hsx]),trivial⟩,mq _ _ _⟩
        |false=>
          rw [h1,h2] at hsx
          rw [h2] at hr
          simp only [Bool.not_false,Bool.and_self,cond_true] at hsx
          repeat' ((conv=>whnf);first | exact zf | refine zm ?_ | intro _)
          refine ⟨.bool true,⟨by omega,by omega,hg _ h1⟩,?_⟩
          repeat' ((conv=>whnf);first | exact zf | refine zm ?_ | refine (.inl ⟨_,hr,rfl,?_⟩) | refine (.inl ⟨by unfold eN;omega,?_⟩) | intro _)
          refine ⟨k+1,hlt,bC hlt (bL k),zzz,⟨aZ (by rw [hsx];simp [dz]),trivial⟩,mq _ _ _⟩
    · have hge:k=256:=by have:=of_decide_eq_false hge;omega
      subst hge
      repeat' ((conv=>whnf);first | exact zf | refine zm ?_ | intro _)
      refine ⟨least l,zR l,?_⟩
      repeat' ((conv=>whnf);first | exact zf | refine zm ?_ | intro _)
theorem A1 (a:UInt8):BitVec.ofInt 8 (a.toNat:Int)=a.toBitVec:=by
 rw [BitVec.ofInt_natCast];exact BitVec.eq_of_toNat_eq (by rw [BitVec.toNat_ofNat,dq a.toNat_lt];rfl)
theorem wrap_u8 (b:BitVec 8):IntKind.u8.wrap (b.toNat:Int)=b.toNat:=by
 have:=b.isLt;have e:(IntKind.u8.wrap (b.toNat:Int))=(b.toNat:Int) % 256:=rfl;rw [e];omega
theorem wD (a b:UInt8):jS .and .u8 a.toNat b.toNat=((a &&& b).toNat:Int):=by
 show IntKind.u8.wrap ((BitVec.ofInt 8 (a.toNat:Int) &&& BitVec.ofInt 8 (b.toNat:Int)).toNat:Int)=_;rw [A1,A1,wrap_u8];rfl
theorem Pp (a b:UInt8):jS .or .u8 a.toNat b.toNat=((a ||| b).toNat:Int):=by
 show IntKind.u8.wrap ((BitVec.ofInt 8 (a.toNat:Int) ||| BitVec.ofInt 8 (b.toNat:Int)).toNat:Int)=_;rw [A1,A1,wrap_u8];rfl
def qD (l:List UInt8):List UInt8:=l.map (· &&& 63)
def fo (l:List UInt8):List UInt8:=least (qD l)
def gk (l:List UInt8):List (List D):=l.map λb=>[D.int .u8 b.toNat]
theorem CR (l:List UInt8):(gk l).length=l.length:=by simp [gk]
set_option maxHeartbeats 4000000 in
theorem j_ (l:List UInt8) (hm:l.length≤140737488355328):bJ Tryz.prog 91 [.d (.str l)] (.d (.str (fo l))):=by
  refine s91.go (keep:=false) rfl ?_
  repeat' ((conv=>whnf);first | exact zf | refine zm ?_ | refine (qp l ?_) | intro _)
  conv=>whnf
  refine vH 134 [.p 2 0] [2] l (λb=>.int .u8 b.toNat) (λi j=>i=j) (λi=>[.rows 1 (gk (qD (l.take i))),.cells [.os 0],.cells [.d (.str l)]]) 0 3 rfl rfl (qo l) (λ_=>trivial) rfl ?_ (λ_=>⟨rfl,rfl,rfl⟩) (λi b j hb hi=>?_) (λi hi=>?_)
  · exact zzz
  · subst hi
    obtain ⟨hlt,rfl⟩:=aA.1 hb
    have hlen:(gk (qD (l.take i))).length≤i:=by simp [gk,qD];omega
    have hs:gk (qD (l.take (i+1)))=gk (qD (l.take i)) ++ [[D.int .u8 (jS .and .u8 l[i].toNat 63)]]:=by
      rw [dB hlt]
      simp only [gk,qD,bn,cS,ji]
      rw [show (63:Int)=((63:UInt8).toNat:Int) from rfl,wD]
    repeat' ((conv=>whnf);first | exact zf | refine zm ?_ | intro _)
    exact ⟨i+1,rfl,aZ (by rw [hs];rfl),aZ rfl,aZ rfl,trivial⟩
  · subst hi
    repeat' ((conv=>whnf);first | exact zf | refine zm ?_ | intro _)
    refine ⟨qD (l.take l.length),rfl,?_⟩
    repeat' ((conv=>whnf);first | exact zf | refine zm ?_ | refine zc (FP _) ?_ | intro _)
    refine cQ ?_
    rw [dP]
    rfl
def pX (l:List UInt8) (x:UInt8):Bool:=l.all λb=> !(b &&& x==0)
set_option maxHeartbeats 4000000 in
theorem Ff (l:List UInt8) (x:UInt8):bJ Tryz.prog 127 [.d (.str l),.d (.int .u8 x.toNat)] (.d (.bool (pX l x))):=by
  refine s127.go (keep:=false) rfl ?_
  repeat' ((conv=>whnf);first | exact zf | refine zm ?_ | refine (qp l ?_) | intro _)
  conv=>whnf
  refine vH 134 [.p 2 0] [2] l (λb=>.int .u8 b.toNat) (λi (_:Unit)=>pX (l.take i) x=true) (λ_=>[.cells [.d (.int .u8 x.toNat)],.cells [.d (.bool false)],.cells [.d (.str l)]]) () 3 rfl rfl (qo l) (λ_=>trivial) rfl ?_ (λ_=>⟨rfl,rfl,rfl⟩) (λi b _ hb hi=>?_) (λ_ hi=>?_)
  · exact zzz
  · obtain ⟨hlt,rfl⟩:=aA.1 hb
    have he:(jS .and .u8 l[i].toNat x.toNat==0)=(l[i] &&& x==0):=by
      rw [wD,Bool.eq_iff_iff,beq_iff_eq,beq_iff_eq,←UInt8.toNat_inj]
      simp
    cases hc:(l[i] &&& x==0) with
    |true=>
      rw [hc] at he
      repeat' ((conv=>whnf);first | exact zf | refine zm ?_ | refine (gG he ?_) | intro _)
      refine cQ ?_
      have:pX l x=false:=by
        unfold pX
        rw [List.all_eq_false]
        exact ⟨l[i],cZ hlt,by rw [hc];simp⟩
      rw [this]
      rfl
    |false=>
      rw [hc] at he
      repeat' ((conv=>whnf);first | exact zf | refine zm ?_ | refine (gY he ?_) | intro _)
      refine ⟨(),?_,aZ rfl,aZ rfl,aZ rfl,trivial⟩
      rw [dB hlt]
      unfold pX at hi ⊢
      rw [List.all_append,hi]
      simp [hc]
  · skip
    repeat' ((conv=>whnf);first | exact zf | refine zm ?_ | intro _)
    refine cQ ?_
    rw [dP] at hi
    rw [hi]
    rfl
end Go.Proofs.YtjpgfgajkjhonaaGreatDoor
namespace Go.Proofs.YtjpgfgajkjhonaaGreatDoor
open Go.Vx
set_option maxRecDepth 100000
theorem kU (l:List UInt8):(fo l).length≤256:=by
 unfold fo least;rw [aL];exact rj _ _
def yg (l:List UInt8):Prop:=l.length≤140737488355328
theorem fk (l:List UInt8):yg (fo l):=aY (kU l) (by decide)
def pb (a b:List UInt8):List UInt8:=fo (fo a++fo b)
theorem wE (a b:List UInt8) (ha:yg a) (hb:yg b):bJ Tryz.prog 54 [.d (.str a),.d (.str b)] (.d (.str (pb a b))):=by
 have h1:=j_ a ha;have h2:=j_ b hb;have la:=kU a;have lb:=kU b;have h3:=j_ (fo a++fo b) (by rw [aK];omega);refine s54.go (keep:=false) rfl ?_
 repeat' ((conv=>whnf);first | exact zf | refine zm ?_ | refine zc h1 ?_ | refine zc h2 ?_ | refine zc h3 ?_ | intro _)
def gi (a b:List UInt8):List UInt8:=a.flatMap λc=>b.map λd=>c ||| d
def Kn (a b:List UInt8):List UInt8:=fo (gi (fo a) (fo b))
theorem rA (a b:List UInt8):(gi a b).length=a.length*b.length:=by
 unfold gi
 induction a with
 |nil=>simp
 |cons c a ih=>rw [nU,aK,ih,aL,aU,bm];omega
theorem wV (a b:List UInt8) (i:Nat) (h:i<a.length):gi (a.take (i+1)) b=gi (a.take i) b++b.map λd=>a[i] ||| d:=by
 unfold gi;rw [dB h,List.flatMap_append,nU,List.flatMap_nil,cO]
set_option maxHeartbeats 4000000 in
theorem Ko (a b:List UInt8) (ha:yg a) (hb:yg b):bJ Tryz.prog 55 [.d (.str a),.d (.str b)] (.d (.str (Kn a b))):=by
  have h1:=j_ a ha
  have h2:=j_ b hb
  have la:=kU a
  have lb:=kU b
  unfold Kn
  generalize fo a=na at h1 la ⊢
  generalize fo b=nb at h2 lb ⊢
  have hmul:na.length*nb.length≤65536:=aY (Nat.mul_le_mul la lb) (by decide)
  have h3:=j_ (gi na nb) (by rw [rA];omega)
  refine s55.go (keep:=false) rfl ?_
  repeat' ((conv=>whnf);first | exact zf | refine zm ?_ | refine zc h1 ?_ | refine zc h2 ?_ | refine (.inl ⟨by unfold eN;omega,?_⟩) | refine (qp na ?_) | intro _)
  conv=>whnf
  refine vH 134 [.p 3 0] [3] na (λb=>.int .u8 b.toNat) (λi j=>i=j) (λi=>[.cells [.d (.str nb)],.rows 1 (gk (gi (na.take i) nb)),.cells [.os 1],.cells [.d (.str na)]]) 0 4 rfl rfl (qo na) (λ_=>trivial) rfl ?_ (λ_=>⟨rfl,rfl,rfl⟩) (λi c j hc hi=>?_) (λi hi=>?_)
  · exact zzz
  · subst hi
    obtain ⟨hlt,rfl⟩:=aA.1 hc
    have hs:=wV na nb i hlt
    have hul:(gi (na.take i) nb).length≤65536:=by
      rw [rA,ah]
      exact aY (bA _ (aY (Nat.min_le_right ..) (aQ _))) hmul
    repeat' ((conv=>whnf);first | exact zf | refine zm ?_ | refine (qp nb ?_) | intro _)
    conv=>whnf
    refine vH 134 [.p 5 0] [5] nb (λb=>.int .u8 b.toNat) (λi j=>i=j) (λj=>[.cells [.d (.str nb)],.rows 1 (gk (gi (na.take i) nb++(nb.take j).map λd=>na[i] ||| d)),.cells [.os 1],.cells [.d (.str na)],.cells [.d (.int .u8 na[i].toNat)],.cells [.d (.str nb)]]) 0 6 rfl rfl (qo nb) (λ_=>trivial) rfl ?_ (λ_=>⟨rfl,rfl,rfl⟩) (λj d k hd hj=>?_) (λj hj=>?_)
    · exact ⟨aZ rfl,aZ (by simp),aZ rfl,aZ rfl,aZ rfl,aZ rfl,trivial⟩
    · subst hj
      obtain ⟨hlj,rfl⟩:=aA.1 hd
      have hl2:(gk (gi (na.take i) nb++(nb.take j).map λd=>na[i] ||| d)).length≤65536+256:=by
        rw [CR,aK,aL,ah]
        omega
      have hs2:gk (gi (na.take i) nb++(nb.take (j+1)).map λd=>na[i] ||| d)=gk (gi (na.take i) nb++(nb.take j).map λd=>na[i] ||| d) ++ [[D.int .u8 (jS .or .u8 na[i].toNat nb[j].toNat)]]:=by
        rw [dB hlj,Pp]
        simp only [gk,bn,cS,ji,bK]
      repeat' ((conv=>whnf);first | exact zf | refine zm ?_ | intro _)
      exact ⟨j+1,rfl,aZ rfl,aZ (by rw [hs2];rfl),aZ rfl,aZ rfl,aZ rfl,aZ rfl,trivial⟩
    · subst hj
      repeat' ((conv=>whnf);first | exact zf | refine zm ?_ | intro _)
      exact ⟨i+1,rfl,aZ rfl,aZ (by rw [hs,dP]),aZ rfl,aZ rfl,trivial⟩
  · subst hi
    repeat' ((conv=>whnf);first | exact zf | refine zm ?_ | intro _)
    refine ⟨gi (na.take na.length) nb,rfl,?_⟩
    rw [dP]
    repeat' ((conv=>whnf);first | exact zf | refine zm ?_ | refine zc h3 ?_ | intro _)
def vd (l:List UInt8) (n:Nat):Bool:=pX l (UInt8.ofNat n)
theorem Cu (l:List UInt8) (n:Nat) (h:n<256):bJ Tryz.prog 127 [.d (.str l),.d (.int .u8 n)] (.d (.bool (vd l n))):=by
 have:=Ff l (UInt8.ofNat n);rw [mV,dq h] at this;exact this
def CF (l:List UInt8) (k:Nat):Int:=(List.range k).foldl (λt x=>bif vd l x then jS .or .u64 t (Aa .shl .u64 1 x) else t) 0
theorem CE (l:List UInt8) (k:Nat):CF l (k+1)=bif vd l k then jS .or .u64 (CF l k) (Aa .shl .u64 1 k) else CF l k:=by simp [CF,List.range_succ]
def ui (l:List UInt8):Int:=CF (fo l) 64
set_option maxHeartbeats 4000000 in
theorem w9 (a:List UInt8) (ha:yg a):bJ Tryz.prog 83 [.d (.str a)] (.d (.int .u64 (ui a))):=by
  have h1:=j_ a ha
  unfold ui
  generalize fo a=l at h1 ⊢
  refine s83.go (keep:=false) rfl ?_
  repeat' ((conv=>whnf);first | exact zf | refine zm ?_ | refine zc h1 ?_ | intro _)
  conv=>whnf
  refine bV [(0,.d (.str l))] (λk:Nat=>k≤64) (λk=>[(7,.d (.int .u8 k)),(3,.d (.int .u64 (CF l k)))]) (λ_=>[]) (λk=>64 - k) 0 (ak _) ?_ ?_ ?_ (λk hk=>?_)
  · exact zzz
  · exact zzz
  · exact rfl
  repeat' ((conv=>whnf);first | exact zf | refine zm ?_ | intro _)
  refine aW (λhlt=>?_) (λhge=>?_)
  · have hlt:k<64:=by have:=of_decide_eq_true hlt;omega
    have hr:=Cu l k (by omega)
    have hs:=CE l k
    cases hb:vd l k with
    |true=>
      rw [hb] at hr hs
      simp only [cond_true] at hs
      repeat' ((conv=>whnf);first | exact zf | refine zm ?_ | refine zc hr ?_ | refine (.inl ⟨by unfold eN;omega,?_⟩) | intro _)
      refine ⟨k+1,hlt,bC hlt (bL k),⟨gg rfl,gg (by rw [hs];rfl),gg rfl,trivial⟩,zzz,rfl⟩
    |false=>
      rw [hb] at hr hs
      simp only [cond_false] at hs
      repeat' ((conv=>whnf);first | exact zf | refine zm ?_ | refine zc hr ?_ | refine (.inl ⟨by unfold eN;omega,?_⟩) | intro _)
      refine ⟨k+1,hlt,bC hlt (bL k),⟨gg rfl,gg (by rw [hs];rfl),gg rfl,trivial⟩,zzz,rfl⟩
  · have hge:k=64:=by have:=of_decide_eq_false hge;omega
    subst hge
    repeat' ((conv=>whnf);first | exact zf | refine zm ?_ | intro _)
def j9 (a b:List UInt8):Bool:=jS .andNot .u64 (ui a) (ui b)==0
theorem lN (a b:List UInt8) (ha:yg a) (hb:yg b):bJ Tryz.prog 42 [.d (.str a),.d (.str b)] (.d (.bool (j9 a b))):=by
 have h1:=w9 a ha;have h2:=w9 b hb;refine s42.go (keep:=false) rfl ?_
 repeat' ((conv=>whnf);first | exact zf | refine zm ?_ | refine zc h1 ?_ | refine zc h2 ?_ | intro _)
structure Lb where
  s:List UInt8
  i:List UInt8
  deriving DecidableEq
def jr (l:Lb):V:=.ag [.d (.str l.s),.d (.str l.i)]
def cL (l:Lb):Prop:=yg l.s∧yg l.i
def half (b:Bool) (l:Lb):List UInt8:=bif b then l.s else l.i
theorem Jb (b:Bool) (l:Lb):bJ Tryz.prog 129 [.d (.bool b),jr l] (.d (.str (half b l))):=by
 cases b with
 |true=>
  refine s129.go (keep:=false) rfl ?_
  repeat' ((conv=>whnf);first | exact zf | refine zm ?_ | intro _)
 |false=>
  refine s129.go (keep:=false) rfl ?_
  repeat' ((conv=>whnf);first | exact zf | refine zm ?_ | intro _)
theorem Fg {b:Bool} {l:Lb} (h:cL l):yg (half b l):=by cases b<;>first | exact h.1 | exact h.2
theorem Av (b:Bool) (l:Lb) (hl:cL l):Sat Tryz.prog 128 [.d (.bool b),.p 0 0] [.cells [.d (.str l.s),.d (.str l.i)]] λo h=>o = .ret (.d (.str (fo (half b l))))∧h = [.cells [.d (.str l.s),.d (.str l.i)]]:=by
 have h1:=Jb b l;have h2:=j_ (half b l) (Fg hl);refine s128.go (keep:=false) rfl ?_
 repeat' ((conv=>whnf);first | exact zf | refine zm ?_ | refine zc h1 ?_ | refine zc h2 ?_ | intro _)
theorem Qm {K:Out→H→Prop} (l:Lb) (a b:List UInt8) (h1:Sat Tryz.prog 128 [.d (.bool true),.p 0 0] [.cells [.d (.str l.s),.d (.str l.i)]] λo h=>o = .ret (.d (.str a))∧h = [.cells [.d (.str l.s),.d (.str l.i)]]) (h2:Sat Tryz.prog 128 [.d (.bool false),.p 0 0] [.cells [.d (.str l.s),.d (.str l.i)]] λo h=>o = .ret (.d (.str b))∧h = [.cells [.d (.str l.s),.d (.str l.i)]])
  (hk:K (.ret (jr ⟨a,b⟩)) [.cells [.d (.str l.s),.d (.str l.i)]]):Sat Tryz.prog 52 [.fc 128 [.p 0 0]] [.cells [.d (.str l.s),.d (.str l.i)]] K:=by
 refine s52.go (keep:=false) rfl ?_
 repeat' ((conv=>whnf);first | exact zf | refine zm ?_ | refine (.inr ?_:(∃_,_)∨_) | intro _)
 refine h1.mono λo h' hh=>?_;obtain ⟨rfl,rfl⟩:=hh
 repeat' ((conv=>whnf);first | exact zf | refine zm ?_ | refine (.inr ?_:(∃_,_)∨_) | intro _)
 refine h2.mono λo h' hh=>?_;obtain ⟨rfl,rfl⟩:=hh
 repeat' ((conv=>whnf);first | exact zf | refine zm ?_ | intro _)
 exact hk
def gI (l:Lb):Lb:=⟨fo l.s,fo l.i⟩
theorem j3 (l:Lb) (hl:cL l):bJ Tryz.prog 84 [jr l] (jr (gI l)):=by
 refine s84.go (keep:=false) rfl ?_
 repeat' ((conv=>whnf);first | exact zf | refine zm ?_ | refine (.inr ?_:(∃_,_)∨_) | intro _)
 refine Qm l _ _ (Av true l hl) (Av false l hl) ?_
 repeat' ((conv=>whnf);first | exact zf | refine zm ?_ | intro _)
def jv (l:Lb):Bool:=fo l.s==l.s&&fo l.i==l.i
theorem pO (l:Lb) (hl:cL l):bJ Tryz.prog 44 [jr l] (.d (.bool (jv l))):=by
 have h1:=j3 l hl;refine s44.go (keep:=false) rfl ?_
 repeat' ((conv=>whnf);first | exact zf | refine zm ?_ | refine zc h1 ?_ | intro _)
 refine cQ ?_;show V.d (.bool (fo l.s==l.s&&(fo l.i==l.i&&true)))=_;rw [dc];rfl
theorem Qo {K:Out→H→Prop} (l m:Lb) (a b:List UInt8) (h1:Sat Tryz.prog 53 [.d (.bool true),.p 0 0,.p 1 0] [.cells [.d (.str l.s),.d (.str l.i)],.cells [.d (.str m.s),.d (.str m.i)]] λo h=>o = .ret (.d (.str a))∧h = [.cells [.d (.str l.s),.d (.str l.i)],.cells [.d (.str m.s),.d (.str m.i)]]) (h2:Sat Tryz.prog 53 [.d (.bool false),.p 0 0,.p 1 0] [.cells [.d (.str l.s),.d (.str l.i)],.cells [.d (.str m.s),.d (.str m.i)]] λo h=>o = .ret (.d (.str b))∧h = [.cells [.d (.str l.s),.d (.str l.i)],.cells [.d (.str m.s),.d (.str m.i)]])
  (hk:K (.ret (jr ⟨a,b⟩)) [.cells [.d (.str l.s),.d (.str l.i)],.cells [.d (.str m.s),.d (.str m.i)]]):Sat Tryz.prog 52 [.fc 53 [.p 0 0,.p 1 0]] [.cells [.d (.str l.s),.d (.str l.i)],.cells [.d (.str m.s),.d (.str m.i)]] K:=by
 refine s52.go (keep:=false) rfl ?_
 repeat' ((conv=>whnf);first | exact zf | refine zm ?_ | refine (.inr ?_:(∃_,_)∨_) | intro _)
 refine h1.mono λo h' hh=>?_;obtain ⟨rfl,rfl⟩:=hh
 repeat' ((conv=>whnf);first | exact zf | refine zm ?_ | refine (.inr ?_:(∃_,_)∨_) | intro _)
 refine h2.mono λo h' hh=>?_;obtain ⟨rfl,rfl⟩:=hh
 repeat' ((conv=>whnf);first | exact zf | refine zm ?_ | intro _)
 exact hk
theorem Qn {K:Out→H→Prop} (l m:Lb) (a b:List UInt8) (h1:Sat Tryz.prog 280 [.d (.bool true),.p 0 0,.p 1 0] [.cells [.d (.str l.s),.d (.str l.i)],.cells [.d (.str m.s),.d (.str m.i)]] λo h=>o = .ret (.d (.str a))∧h = [.cells [.d (.str l.s),.d (.str l.i)],.cells [.d (.str m.s),.d (.str m.i)]]) (h2:Sat Tryz.prog 280 [.d (.bool false),.p 0 0,.p 1 0] [.cells [.d (.str l.s),.d (.str l.i)],.cells [.d (.str m.s),.d (.str m.i)]] λo h=>o = .ret (.d (.str b))∧h = [.cells [.d (.str l.s),.d (.str l.i)],.cells [.d (.str m.s),.d (.str m.i)]])
  (hk:K (.ret (jr ⟨a,b⟩)) [.cells [.d (.str l.s),.d (.str l.i)],.cells [.d (.str m.s),.d (.str m.i)]]):Sat Tryz.prog 52 [.fc 280 [.p 0 0,.p 1 0]] [.cells [.d (.str l.s),.d (.str l.i)],.cells [.d (.str m.s),.d (.str m.i)]] K:=by
 refine s52.go (keep:=false) rfl ?_
 repeat' ((conv=>whnf);first | exact zf | refine zm ?_ | refine (.inr ?_:(∃_,_)∨_) | intro _)
 refine h1.mono λo h' hh=>?_;obtain ⟨rfl,rfl⟩:=hh
 repeat' ((conv=>whnf);first | exact zf | refine zm ?_ | refine (.inr ?_:(∃_,_)∨_) | intro _)
 refine h2.mono λo h' hh=>?_;obtain ⟨rfl,rfl⟩:=hh
 repeat' ((conv=>whnf);first | exact zf | refine zm ?_ | intro _)
 exact hk
theorem BL (b:Bool) (l m:Lb) (hl:cL l) (hm:cL m):Sat Tryz.prog 53 [.d (.bool b),.p 0 0,.p 1 0] [.cells [.d (.str l.s),.d (.str l.i)],.cells [.d (.str m.s),.d (.str m.i)]] λo h=>o = .ret (.d (.str (bif b then pb l.s m.s else Kn l.i m.i)))∧h = [.cells [.d (.str l.s),.d (.str l.i)],.cells [.d (.str m.s),.d (.str m.i)]]:=by
 have h1:=wE l.s m.s hl.1 hm.1;have h2:=Ko l.i m.i hl.2 hm.2;cases b with
 |true=>
  refine s53.go (keep:=false) rfl ?_
  repeat' ((conv=>whnf);first | exact zf | refine zm ?_ | refine zc h1 ?_ | intro _)
 |false=>
  refine s53.go (keep:=false) rfl ?_
  repeat' ((conv=>whnf);first | exact zf | refine zm ?_ | refine zc h2 ?_ | intro _)
theorem BE (b:Bool) (l m:Lb) (hl:cL l) (hm:cL m):Sat Tryz.prog 280 [.d (.bool b),.p 0 0,.p 1 0] [.cells [.d (.str l.s),.d (.str l.i)],.cells [.d (.str m.s),.d (.str m.i)]] λo h=>o = .ret (.d (.str (bif b then Kn l.s m.s else pb l.i m.i)))∧h = [.cells [.d (.str l.s),.d (.str l.i)],.cells [.d (.str m.s),.d (.str m.i)]]:=by
 have h1:=Ko l.s m.s hl.1 hm.1;have h2:=wE l.i m.i hl.2 hm.2;cases b with
 |true=>
  refine s280.go (keep:=false) rfl ?_
  repeat' ((conv=>whnf);first | exact zf | refine zm ?_ | refine zc h1 ?_ | intro _)
 |false=>
  refine s280.go (keep:=false) rfl ?_
  repeat' ((conv=>whnf);first | exact zf | refine zm ?_ | refine zc h2 ?_ | intro _)
def dU (l m:Lb):Lb:=⟨pb l.s m.s,Kn l.i m.i⟩
def mH (l m:Lb):Lb:=⟨Kn l.s m.s,pb l.i m.i⟩
theorem rz (l m:Lb) (hl:cL l) (hm:cL m):bJ Tryz.prog 24 [jr l,jr m] (jr (dU l m)):=by
 refine s24.go (keep:=false) rfl ?_
 repeat' ((conv=>whnf);first | exact zf | refine zm ?_ | refine (.inr ?_:(∃_,_)∨_) | intro _)
 refine Qo l m _ _ (BL true l m hl hm) (BL false l m hl hm) ?_
 repeat' ((conv=>whnf);first | exact zf | refine zm ?_ | intro _)
theorem FG (l m:Lb) (hl:cL l) (hm:cL m):bJ Tryz.prog 229 [jr l,jr m] (jr (mH l m)):=by
 refine s229.go (keep:=false) rfl ?_
 repeat' ((conv=>whnf);first | exact zf | refine zm ?_ | refine (.inr ?_:(∃_,_)∨_) | intro _)
 refine Qn l m _ _ (BE true l m hl hm) (BE false l m hl hm) ?_
 repeat' ((conv=>whnf);first | exact zf | refine zm ?_ | intro _)
def b7 (l m:Lb):Bool:=j9 m.s l.s&&j9 l.i m.i
theorem kh (l m:Lb) (hl:cL l) (hm:cL m):bJ Tryz.prog 13 [jr l,jr m] (.d (.bool (b7 l m))):=by
 have h1:=lN m.s l.s hm.1 hl.1;have h2:=lN l.i m.i hl.2 hm.2;refine s13.go (keep:=false) rfl ?_;unfold b7;cases hb:j9 m.s l.s with
 |true=>
  rw [hb] at h1
  repeat' ((conv=>whnf);first | exact zf | refine zm ?_ | refine zc h1 ?_ | refine zc h2 ?_ | intro _)
 |false=>
  rw [hb] at h1
  repeat' ((conv=>whnf);first | exact zf | refine zm ?_ | refine zc h1 ?_ | intro _)
end Go.Proofs.YtjpgfgajkjhonaaGreatDoor
namespace Go.Proofs.YtjpgfgajkjhonaaGreatDoor
open Go.Vx
set_option maxRecDepth 100000
structure Gs where
  cur:Lb
  fU:Lb
def D8 (s:Gs):V:=.ag [.d (.str s.cur.s),.d (.str s.cur.i),.d (.str s.fU.s),.d (.str s.fU.i)]
def lE (l:Lb):List D:=[.str l.s,.str l.i]
def qN (s:Gs):List D:=[.str s.cur.s,.str s.cur.i,.str s.fU.s,.str s.fU.i]
def iv (s:Gs):Prop:=cL s.cur∧cL s.fU
theorem lR (s:Gs) (l:Lb):bJ Tryz.prog 284 [D8 s,jr l] (.ag [.d (.fc 321 [.pt (lE l) 0,.pt (qN s) 0]),.d (.int .i64 (-4))]):=by
 refine Ea (rows:=[lE l,qN s]) (by decide) ?_;refine s284.go (keep:=false) rfl ?_
 repeat' ((conv=>whnf);first | exact zf | refine zm ?_ | intro _)
theorem sk (s:Gs) (l:Lb):bJ Tryz.prog 285 [D8 s,jr l] (.ag [.d (.fc 322 [.pt (qN s) 0,.pt (lE l) 0]),.d (.int .i64 (-3))]):=by
 refine Ea (rows:=[qN s,lE l]) (by decide) ?_;refine s285.go (keep:=false) rfl ?_
 repeat' ((conv=>whnf);first | exact zf | refine zm ?_ | intro _)
theorem AJ (s:Gs) (l:Lb) (hs:iv s) (hl:cL l):bJ Tryz.prog 321 [.e (lE l) 0,.e (qN s) 0] (.d (.bool (b7 l s.fU))):=by
 have h:=kh l s.fU hl hs.2;refine s321.go (keep:=false) rfl ?_
 repeat' ((conv=>whnf);first | exact zf | refine zm ?_ | refine zc h ?_ | intro _)
theorem Gj (s:Gs) (l:Lb) (hs:iv s) (hl:cL l):bJ Tryz.prog 322 [.e (qN s) 0,.e (lE l) 0] (.d (.bool (b7 s.cur l))):=by
 have h:=kh s.cur l hs.1 hl;refine s322.go (keep:=false) rfl ?_
 repeat' ((conv=>whnf);first | exact zf | refine zm ?_ | refine zc h ?_ | intro _)
structure Mu where
  F:Nat
  cs:List D
  so:Bool
  ex:Int
def Mu.row (m:Mu):List D:=[.fc m.F m.cs,.int .i64 m.ex]
def firstM:List Mu→Int
 |[]=>0
 |m :: r=>bif m.so then firstM r else m.ex
theorem mP:∀{i:Nat} {l:List Mu},(∀m∈l.take i,m.so=true)→firstM l=firstM (l.drop i)
 |0,_,_=>rfl
 |i+1,[],_=>rfl
 |i+1,m :: l,h=>by
  rw [firstM,h m (by simp),lY,cond_true];exact mP λx hx=>h x (by simp [hx])
theorem mQ (l:List Mu) (hF:∀m∈l,((∃a b,(m.F=321∨m.F=322)∧m.cs = [.pt a 0,.pt b 0])∨∃a b c,(m.F=293∨m.F=295)∧m.cs = [.pt a 0,.pt b 0,.pt c 0])∧bJ Tryz.prog m.F (m.cs.map Pk) (.d (.bool m.so))) :
  bJ Tryz.prog 283 [.d (.sl 2 (l.map Mu.row))] (.d (.int .i64 (firstM l))):=by
 have hl:(l.map Mu.row).length=l.length:=aL _;refine s283.go (keep:=false) rfl ?_
 repeat' ((conv=>whnf);first | exact zf | refine zm ?_ | intro _)
 conv=>whnf
 refine bV [(0,.d (.sl 2 (l.map Mu.row))),(5,.d (.sl 2 (l.map Mu.row))),(6,.d (.int .i64 (l.map Mu.row).length))] (λi:Nat=>i≤l.length∧∀m∈l.take i,m.so=true) (λi=>[(7,.d (.int .i64 i))]) (λ_=>[]) (λi=>l.length - i) 0 ⟨ak _,λ_ h=>nomatch h⟩ ?_ ?_ ?_ (λi hi=>?_)
 ·exact zzz
 ·exact zzz
 ·exact rfl
 repeat' ((conv=>whnf);first | exact zf | refine zm ?_ | intro _)
 refine aW (λhlt=>?_) (λhge=>?_)
 ·have hlt:i<l.length:=by rw [←hl];simpa using hlt
  obtain ⟨m,hm⟩:∃m,l[i]? = some m:=⟨_,aB hlt⟩
  obtain ⟨hf,hs⟩:=hF m (aH hm);have hfm:=mP hi.2;have hdr:l.drop i=m :: l.drop (i+1):=by
   rw [bO hlt];rw [aB hlt] at hm;rw [aj hm]
  rw [hdr] at hfm;have htk:l.take (i+1)=l.take i ++ [m]:=by rw [cF,hm];rfl
  obtain ⟨F,cs,so,ex⟩:=m
  repeat' ((conv=>whnf);first | exact zf | refine zm ?_ | intro _)
  refine ⟨[.fc F cs,.int .i64 ex],⟨by omega,by simp [hm,Mu.row],rfl⟩,?_⟩;rcases hf with ⟨a,b,hf | hf,hc⟩ | ⟨a,b,c,hf | hf,hc⟩
  ·simp only at hf hc;subst hf hc;dsimp only at hs;cases so with
   |true=>
    repeat' ((conv=>whnf);first | exact zf | refine zm ?_ | refine zc hs ?_ | intro _)
    refine ⟨i+1,⟨hlt,?_⟩,bC hlt (bL i),zzz,zzz,rfl⟩;rw [htk];intro x hx;exact (aT.1 hx).elim (hi.2 x) λh=>by rw [aO.1 h]
   |false=>
    repeat' ((conv=>whnf);first | exact zf | refine zm ?_ | refine zc hs ?_ | intro _)
    exact cQ (congrArg (λx=>V.d (D.int .i64 x)) hfm.symm)
  ·simp only at hf hc;subst hf hc;dsimp only at hs;cases so with
   |true=>
    repeat' ((conv=>whnf);first | exact zf | refine zm ?_ | refine zc hs ?_ | intro _)
    refine ⟨i+1,⟨hlt,?_⟩,bC hlt (bL i),zzz,zzz,rfl⟩;rw [htk];intro x hx;exact (aT.1 hx).elim (hi.2 x) λh=>by rw [aO.1 h]
   |false=>
    repeat' ((conv=>whnf);first | exact zf | refine zm ?_ | refine zc hs ?_ | intro _)
    exact cQ (congrArg (λx=>V.d (D.int .i64 x)) hfm.symm)
  ·simp only at hf hc;subst hf hc;dsimp only at hs;cases so with
   |true=>
    repeat' ((conv=>whnf);first | exact zf | refine zm ?_ | refine zc hs ?_ | intro _)
    refine ⟨i+1,⟨hlt,?_⟩,bC hlt (bL i),zzz,zzz,rfl⟩;rw [htk];intro x hx;exact (aT.1 hx).elim (hi.2 x) λh=>by rw [aO.1 h]
   |false=>
    repeat' ((conv=>whnf);first | exact zf | refine zm ?_ | refine zc hs ?_ | intro _)
    exact cQ (congrArg (λx=>V.d (D.int .i64 x)) hfm.symm)
  ·simp only at hf hc;subst hf hc;dsimp only at hs;cases so with
   |true=>
    repeat' ((conv=>whnf);first | exact zf | refine zm ?_ | refine zc hs ?_ | intro _)
    refine ⟨i+1,⟨hlt,?_⟩,bC hlt (bL i),zzz,zzz,rfl⟩;rw [htk];intro x hx;exact (aT.1 hx).elim (hi.2 x) λh=>by rw [aO.1 h]
   |false=>
    repeat' ((conv=>whnf);first | exact zf | refine zm ?_ | refine zc hs ?_ | intro _)
    exact cQ (congrArg (λx=>V.d (D.int .i64 x)) hfm.symm)
 ·have hge:i=l.length:=by
   have:¬i<l.length:=by rw [←hl];simpa using hge
   omega
  have hfm:=mP hi.2;rw [hge,kN] at hfm;rw [hfm]
  repeat' ((conv=>whnf);first | exact zf | refine zm ?_ | intro _)
def uJ (s:Gs) (l:Lb):Mu:=⟨321,[.pt (lE l) 0,.pt (qN s) 0],b7 l s.fU,-4⟩
def xO (s:Gs) (l:Lb):Mu:=⟨322,[.pt (qN s) 0,.pt (lE l) 0],b7 s.cur l,-3⟩
theorem vR (s:Gs) (l:Lb) (hs:iv s) (hl:cL l):((∃a b,((uJ s l).F=321∨(uJ s l).F=322)∧(uJ s l).cs = [.pt a 0,.pt b 0])∨∃a b c,((uJ s l).F=293∨(uJ s l).F=295)∧(uJ s l).cs = [.pt a 0,.pt b 0,.pt c 0])∧bJ Tryz.prog (uJ s l).F ((uJ s l).cs.map Pk) (.d (.bool (uJ s l).so)):=
 ⟨.inl ⟨_,_,.inl rfl,rfl⟩,AJ s l hs hl⟩
theorem zN (s:Gs) (l:Lb) (hs:iv s) (hl:cL l):((∃a b,((xO s l).F=321∨(xO s l).F=322)∧(xO s l).cs = [.pt a 0,.pt b 0])∨∃a b c,((xO s l).F=293∨(xO s l).F=295)∧(xO s l).cs = [.pt a 0,.pt b 0,.pt c 0])∧bJ Tryz.prog (xO s l).F ((xO s l).cs.map Pk) (.d (.bool (xO s l).so)):=
 ⟨.inl ⟨_,_,.inr rfl,rfl⟩,Gj s l hs hl⟩
def bR (s:Gs) (l:Lb):Int:=firstM [xO s l,uJ s l]
theorem fL (s:Gs) (l:Lb) (hs:iv s) (hl:cL l):bJ Tryz.prog 242 [D8 s,jr l] (.d (.int .i64 (bR s l))):=by
 have h1:=sk s l;have h2:=lR s l;have h3:=mQ [xO s l,uJ s l] (by
  intro m hm;simp only [ae,cT,or_false] at hm;rcases hm with rfl | rfl
  ·exact zN s l hs hl
  ·exact vR s l hs hl)
 refine s242.go (keep:=false) rfl ?_
 repeat' ((conv=>whnf);first | exact zf | refine zm ?_ | refine zc h1 ?_ | refine zc h2 ?_ | refine zc h3 ?_ | intro _)
def dM (s:Gs) (l:Lb):Int:=firstM [uJ s (dU s.cur l)]
def cu (s:Gs) (l:Lb):Gs:=bif dM s l==0 then ⟨dU s.cur l,s.fU⟩ else s
def Su (s:Gs) (e:Int):V:=.tu [D8 s,.d (.int .i64 e)]
theorem w8 (s:Gs) (l:Lb) (hs:iv s) (hl:cL l) (hj:cL (dU s.cur l)):bJ Tryz.prog 282 [D8 s,jr l] (Su (cu s l) (dM s l)):=by
 have h1:=rz s.cur l hs.1 hl;have h2:=lR s (dU s.cur l);have h3:=mQ [uJ s (dU s.cur l)] (by
  intro m hm;rw [aO.1 hm];exact vR s _ hs hj)
 have he:firstM [uJ s (dU s.cur l)]=dM s l:=rfl;rw [he] at h3;unfold cu;cases hb:dM s l==0 with
 |true=>
  rw [eq_of_beq hb] at h3 ⊢;refine s282.go (keep:=false) rfl ?_
  repeat' ((conv=>whnf);first | exact zf | refine zm ?_ | refine zc h1 ?_ | refine zc h2 ?_ | refine zc h3 ?_ | intro _)
 |false=>
  refine s282.go (keep:=false) rfl ?_
  repeat' ((conv=>whnf);first | exact zf | refine zm ?_ | refine zc h1 ?_ | refine zc h2 ?_ | refine zc h3 ?_ | refine zt ?_ | refine zu ?_ | intro _)
def sX (s:Gs) (l:Lb):Gs:=bif bR s l==0 then ⟨gI l,s.fU⟩ else s
theorem Bb (s:Gs) (l:Lb) (hs:iv s) (hl:cL l):bJ Tryz.prog 286 [D8 s,jr l] (Su (sX s l) (bR s l)):=by
 have h1:=fL s l hs hl;have h2:=j3 l hl;unfold sX;cases hb:bR s l==0 with
 |true=>
  rw [eq_of_beq hb] at h1 ⊢;refine s286.go (keep:=false) rfl ?_
  repeat' ((conv=>whnf);first | exact zf | refine zm ?_ | refine zc h1 ?_ | refine zc h2 ?_ | intro _)
 |false=>
  refine s286.go (keep:=false) rfl ?_
  repeat' ((conv=>whnf);first | exact zf | refine zm ?_ | refine zc h1 ?_ | refine zc h2 ?_ | refine zt ?_ | refine zu ?_ | intro _)
def i_ (s:Gs) (l:Lb):Int:=firstM [uJ s l,xO s l]
def rZ (s:Gs) (l:Lb):Gs:=bif i_ s l==0 then ⟨s.cur,gI l⟩ else s
theorem FH (s:Gs) (l:Lb) (hs:iv s) (hl:cL l):bJ Tryz.prog 235 [D8 s,jr l] (Su (rZ s l) (i_ s l)):=by
 have h1:=sk s l;have h2:=lR s l;have h3:=mQ [uJ s l,xO s l] (by
  intro m hm;simp only [ae,cT,or_false] at hm;rcases hm with rfl | rfl
  ·exact vR s l hs hl
  ·exact zN s l hs hl)
 have h4:=j3 l hl;have he:firstM [uJ s l,xO s l]=i_ s l:=rfl;rw [he] at h3;unfold rZ;cases hb:i_ s l==0 with
 |true=>
  rw [eq_of_beq hb] at h3 ⊢;refine s235.go (keep:=false) rfl ?_
  repeat' ((conv=>whnf);first | exact zf | refine zm ?_ | refine zc h1 ?_ | refine zc h2 ?_ | refine zc h3 ?_ | refine zc h4 ?_ | intro _)
 |false=>
  refine s235.go (keep:=false) rfl ?_
  repeat' ((conv=>whnf);first | exact zf | refine zm ?_ | refine zc h1 ?_ | refine zc h2 ?_ | refine zc h3 ?_ | refine zc h4 ?_ | refine zt ?_ | refine zu ?_ | intro _)
def As (p:Int) (i:Nat):List UInt8:=((List.range i).filter λk=>Fb (2 ^ k) p).map λk=>UInt8.ofNat (2 ^ k)
def JJ (p:Int):List UInt8:=As p 6
theorem xI (p:Int) (i:Nat):As p (i+1)=bif Fb (2 ^ i) p then As p i ++ [UInt8.ofNat (2 ^ i)] else As p i:=by
 unfold As;rw [List.range_succ,List.filter_append];cases h:Fb (2 ^ i) p<;>simp [h]
theorem vM (p:Int):∀i,(As p i).length≤i
 |0=>by simp [As]
 |i+1=>by
  have:=vM p i;rw [xI];cases Fb (2 ^ i) p<;>simp<;>omega
theorem Hh:∀i:Nat,i<6→Aa .shl .u8 1 (i:Int)=2 ^ i∧((UInt8.ofNat (2 ^ i)).toNat:Int)=2 ^ i:=by decide
theorem Qa (p:Int):bJ Tryz.prog 325 [.d (.int .u8 p)] (.d (.str (JJ p))):=by
 refine s325.go (keep:=false) rfl ?_
 repeat' ((conv=>whnf);first | exact zf | refine zm ?_ | intro _)
 conv=>whnf
 refine bV [(0,.d (.int .u8 p)),(3,.os 0)] (λi:Nat=>i≤6) (λi=>[(6,.d (.int .i64 i))]) (λi=>[.rows 1 (gk (As p i))]) (λi=>6 - i) 0 (ak _) ?_ ?_ ?_ (λi hi=>?_)
 ·exact zzz
 ·exact ⟨aZ rfl,trivial⟩
 ·exact (by kernel_rfl)
 repeat' ((conv=>whnf);first | exact zf | refine zm ?_ | intro _)
 refine aW (λhlt=>?_) (λhge=>?_)
 ·have hlt:i<6:=by have:=of_decide_eq_true hlt;omega
  have hs:=xI p i;have hlen:=vM p i;have hrl:(gk (As p i)).length=(As p i).length:=aL _;obtain ⟨e1,e2⟩:=Hh i hlt;have hp:bJ Tryz.prog 262 [.d (.int .u8 (Aa .shl .u8 1 (i:Int))),.d (.int .u8 p)] (.d (.bool (Fb (2 ^ i) p))):=by
   have:=LG (Aa .shl .u8 1 (i:Int)) p;rwa [show Fb (Aa .shl .u8 1 (i:Int)) p=Fb (2 ^ i) p by rw [e1]] at this
  have hr:gk (As p i ++ [UInt8.ofNat (2 ^ i)])=gk (As p i) ++ [[D.int .u8 (Aa .shl .u8 1 (i:Int))]]:=by
   rw [e1,←e2];simp [gk]
  cases hb:Fb (2 ^ i) p with
  |true=>
   rw [hb] at hp hs
   repeat' ((conv=>whnf);first | exact zf | refine zm ?_ | refine zc hp ?_ | refine (.inl ⟨by unfold eN;omega,?_⟩) | refine (And.intro ⟨rfl,rfl,by simp only [aU,af];omega,by simp only [aU,af];omega⟩ ?_) | intro _)
   exact ⟨i+1,hlt,bC hlt (bL i),zzz,⟨aZ (by rw [hs,cond_true,hr];rfl),trivial⟩,rfl⟩
  |false=>
   rw [hb] at hp hs
   repeat' ((conv=>whnf);first | exact zf | refine zm ?_ | refine zc hp ?_ | refine (.inl ⟨by unfold eN;omega,?_⟩) | intro _)
   exact ⟨i+1,hlt,bC hlt (bL i),zzz,⟨aZ (by rw [hs];rfl),trivial⟩,rfl⟩
 ·have hge:i=6:=by have:=of_decide_eq_false hge;omega
  subst hge
  conv=>whnf
  refine ⟨As p 6,rfl,?_⟩
  repeat' ((conv=>whnf);first | exact zf | refine zm ?_ | intro _)
theorem C4 (p:Int):∀i,i≤6→yg (As p i):=λi hi=>aY (vM p i) (by omega)
def fY (a b:Lb) (p:Int):Bool:=j9 (pb b.s (JJ p)) a.s&&j9 (pb a.i (JJ p)) b.i
theorem A9 (a b:List UInt8):yg (pb a b):=fk _
theorem uE (a b:Lb) (p:Int) (ha:cL a) (hb:cL b):bJ Tryz.prog 294 [jr a,jr b,.d (.int .u8 p)] (.d (.bool (fY a b p))):=by
 have h0:=Qa p;have hp:yg (JJ p):=C4 p 6 (aQ _);have h1:=wE b.s (JJ p) hb.1 hp;have h2:=lN (pb b.s (JJ p)) a.s (A9 _ _) ha.1;have h3:=wE a.i (JJ p) ha.2 hp;have h4:=lN (pb a.i (JJ p)) b.i (A9 _ _) hb.2;unfold fY;cases hb:j9 (pb b.s (JJ p)) a.s with
 |true=>
  rw [hb] at h2;refine s294.go (keep:=false) rfl ?_
  repeat' ((conv=>whnf);first | exact zf | refine zm ?_ | refine zc h0 ?_ | refine zc h1 ?_ | refine zc h2 ?_ | refine zc h3 ?_ | refine zc h4 ?_ | intro _)
 |false=>
  rw [hb] at h2;refine s294.go (keep:=false) rfl ?_
  repeat' ((conv=>whnf);first | exact zf | refine zm ?_ | refine zc h0 ?_ | refine zc h1 ?_ | refine zc h2 ?_ | intro _)
end Go.Proofs.YtjpgfgajkjhonaaGreatDoor
namespace Go.Proofs.YtjpgfgajkjhonaaGreatDoor
open Go.RowKit Go.Shelf Go.Proofs
def dx:Go.Shelf.Ren:=⟨λ| 240=>341 | 276=>342 | 166=>339 | 169=>340 | 167=>338 | n=>n,λ| 37=>188 | 70=>401 | 72=>403 | 164=>409 | 127=>391 | 75=>262 | 80=>324 | n=>n,λ| n=>n⟩
theorem writeString:Lays.n166 Tryz.prog dx where
 mixed:=by kernel_rfl
 f166:=Tryz.func339.trans (congrArg some (by kernel_rfl))
 f240:=Tryz.func341.trans (congrArg some (by kernel_rfl))
 f276:=Tryz.func342.trans (congrArg some (by kernel_rfl))
 t0:=Tryz.underlying0
 a0:=Tryz.isAgg0
 z0:=Tryz.sizeOf0
 v0:=Tryz.zeroValue0
 t3:=Tryz.underlying3
 a3:=Tryz.isAgg3
 z3:=Tryz.sizeOf3
 v3:=Tryz.zeroValue3
 t4:=Tryz.underlying4
 a4:=Tryz.isAgg4
 z4:=Tryz.sizeOf4
 v4:=Tryz.zeroValue4
 t9:=Tryz.underlying9
 a9:=Tryz.isAgg9
 z9:=Tryz.sizeOf9
 v9:=Tryz.zeroValue9
 t20:=Tryz.underlying20
 a20:=Tryz.isAgg20
 z20:=Tryz.sizeOf20
 v20:=Tryz.zeroValue20
 t37:=Tryz.underlying188
 a37:=Tryz.isAgg188
 z37:=Tryz.sizeOf188
 v37:=Tryz.zeroValue188
 t70:=Tryz.underlying401
 a70:=Tryz.isAgg401
 z70:=Tryz.sizeOf401
 v70:=Tryz.zeroValue401
 t72:=Tryz.underlying403
 a72:=Tryz.isAgg403
 z72:=Tryz.sizeOf403
 v72:=Tryz.zeroValue403
 t75:=Tryz.underlying262
 a75:=Tryz.isAgg262
 z75:=Tryz.sizeOf262
 v75:=Tryz.zeroValue262
 t164:=Tryz.underlying409
 a164:=Tryz.isAgg409
 z164:=Tryz.sizeOf409
 v164:=Tryz.zeroValue409
def qv:Go.Shelf.Ren:=⟨λ| 240=>341 | 276=>342 | 166=>339 | 169=>340 | 167=>338 | n=>n,λ| 37=>188 | 70=>401 | 72=>403 | 164=>409 | 127=>391 | 75=>262 | 80=>324 | n=>n,λ| n=>n⟩
theorem By:Lays.n167 Tryz.prog qv where
 mixed:=by kernel_rfl
 f167:=Tryz.func338.trans (congrArg some (by kernel_rfl))
 f240:=Tryz.func341.trans (congrArg some (by kernel_rfl))
 f276:=Tryz.func342.trans (congrArg some (by kernel_rfl))
 t0:=Tryz.underlying0
 a0:=Tryz.isAgg0
 z0:=Tryz.sizeOf0
 v0:=Tryz.zeroValue0
 t4:=Tryz.underlying4
 a4:=Tryz.isAgg4
 z4:=Tryz.sizeOf4
 v4:=Tryz.zeroValue4
 t5:=Tryz.underlying5
 a5:=Tryz.isAgg5
 z5:=Tryz.sizeOf5
 v5:=Tryz.zeroValue5
 t9:=Tryz.underlying9
 a9:=Tryz.isAgg9
 z9:=Tryz.sizeOf9
 v9:=Tryz.zeroValue9
 t20:=Tryz.underlying20
 a20:=Tryz.isAgg20
 z20:=Tryz.sizeOf20
 v20:=Tryz.zeroValue20
 t37:=Tryz.underlying188
 a37:=Tryz.isAgg188
 z37:=Tryz.sizeOf188
 v37:=Tryz.zeroValue188
 t70:=Tryz.underlying401
 a70:=Tryz.isAgg401
 z70:=Tryz.sizeOf401
 v70:=Tryz.zeroValue401
 t72:=Tryz.underlying403
 a72:=Tryz.isAgg403
 z72:=Tryz.sizeOf403
 v72:=Tryz.zeroValue403
 t75:=Tryz.underlying262
 a75:=Tryz.isAgg262
 z75:=Tryz.sizeOf262
 v75:=Tryz.zeroValue262
 t164:=Tryz.underlying409
 a164:=Tryz.isAgg409
 z164:=Tryz.sizeOf409
 v164:=Tryz.zeroValue409
def xq:Go.Shelf.Ren:=⟨λ| 240=>341 | 276=>342 | 166=>339 | 169=>340 | 167=>338 | n=>n,λ| 37=>188 | 70=>401 | 72=>403 | 164=>409 | 127=>391 | 75=>262 | 80=>324 | n=>n,λ| n=>n⟩
theorem KO:Lays.n169 Tryz.prog xq where
 mixed:=by kernel_rfl
 f169:=Tryz.func340.trans (congrArg some (by kernel_rfl))
 t0:=Tryz.underlying0
 a0:=Tryz.isAgg0
 z0:=Tryz.sizeOf0
 v0:=Tryz.zeroValue0
 t3:=Tryz.underlying3
 a3:=Tryz.isAgg3
 z3:=Tryz.sizeOf3
 v3:=Tryz.zeroValue3
 t9:=Tryz.underlying9
 a9:=Tryz.isAgg9
 z9:=Tryz.sizeOf9
 v9:=Tryz.zeroValue9
 t37:=Tryz.underlying188
 a37:=Tryz.isAgg188
 z37:=Tryz.sizeOf188
 v37:=Tryz.zeroValue188
 t70:=Tryz.underlying401
 a70:=Tryz.isAgg401
 z70:=Tryz.sizeOf401
 v70:=Tryz.zeroValue401
 t72:=Tryz.underlying403
 a72:=Tryz.isAgg403
 z72:=Tryz.sizeOf403
 v72:=Tryz.zeroValue403
 t127:=Tryz.underlying391
 a127:=Tryz.isAgg391
 z127:=Tryz.sizeOf391
 v127:=Tryz.zeroValue391
end Go.Proofs.YtjpgfgajkjhonaaGreatDoor
namespace Go.Proofs.YtjpgfgajkjhonaaGreatDoor
open Go.RowKit Go.Shelf Go.Proofs
def My:Go.Shelf.Ren:=⟨λ| 143=>213 | 219=>275 | 217=>308 | 225=>309 | 224=>310 | 267=>311 | 266=>333 | 314=>334 | n=>n,λ| 9=>9 | 3=>3 | 4=>4 | 5=>5 | 46=>198 | 146=>398 | 51=>293 | n=>n,λ| 1=>1 | n=>n⟩
theorem index:Lays.n143 Tryz.prog My where
 mixed:=by kernel_rfl
 f143:=Tryz.func213.trans (congrArg some (by kernel_rfl))
 f217:=Tryz.func308.trans (congrArg some (by kernel_rfl))
 f219:=Tryz.func275.trans (congrArg some (by kernel_rfl))
 f224:=Tryz.func310.trans (congrArg some (by kernel_rfl))
 f225:=Tryz.func309.trans (congrArg some (by kernel_rfl))
 f266:=Tryz.func333.trans (congrArg some (by kernel_rfl))
 f267:=Tryz.func311.trans (congrArg some (by kernel_rfl))
 f314:=Tryz.func334.trans (congrArg some (by kernel_rfl))
 t3:=Tryz.underlying3
 a3:=Tryz.isAgg3
 z3:=Tryz.sizeOf3
 v3:=Tryz.zeroValue3
 t4:=Tryz.underlying4
 a4:=Tryz.isAgg4
 z4:=Tryz.sizeOf4
 v4:=Tryz.zeroValue4
 t5:=Tryz.underlying5
 a5:=Tryz.isAgg5
 z5:=Tryz.sizeOf5
 v5:=Tryz.zeroValue5
 t9:=Tryz.underlying9
 a9:=Tryz.isAgg9
 z9:=Tryz.sizeOf9
 v9:=Tryz.zeroValue9
 t46:=Tryz.underlying198
 a46:=Tryz.isAgg198
 z46:=Tryz.sizeOf198
 v46:=Tryz.zeroValue198
 t51:=Tryz.underlying293
 a51:=Tryz.isAgg293
 z51:=Tryz.sizeOf293
 v51:=Tryz.zeroValue293
 t146:=Tryz.underlying398
 a146:=Tryz.isAgg398
 z146:=Tryz.sizeOf398
 v146:=Tryz.zeroValue398
 g1:=by kernel_rfl
def hN:Go.Shelf.Ren:=⟨λ| 22=>48 | 29=>88 | 30=>89 | 36=>132 | 17=>196 | n=>n,λ| 24=>93 | 9=>9 | 3=>3 | 4=>4 | 0=>0 | n=>n,λ| n=>n⟩
theorem insert:Lays2.n22 Tryz.prog hN where
 mixed:=by kernel_rfl
 f17:=Tryz.func196.trans (congrArg some (by kernel_rfl))
 f22:=Tryz.func48.trans (congrArg some (by kernel_rfl))
 f29:=Tryz.func88.trans (congrArg some (by kernel_rfl))
 f30:=Tryz.func89.trans (congrArg some (by kernel_rfl))
 f36:=Tryz.func132.trans (congrArg some (by kernel_rfl))
 t0:=Tryz.underlying0
 a0:=Tryz.isAgg0
 z0:=Tryz.sizeOf0
 v0:=Tryz.zeroValue0
 t3:=Tryz.underlying3
 a3:=Tryz.isAgg3
 z3:=Tryz.sizeOf3
 v3:=Tryz.zeroValue3
 t4:=Tryz.underlying4
 a4:=Tryz.isAgg4
 z4:=Tryz.sizeOf4
 v4:=Tryz.zeroValue4
 t9:=Tryz.underlying9
 a9:=Tryz.isAgg9
 z9:=Tryz.sizeOf9
 v9:=Tryz.zeroValue9
 t24:=Tryz.underlying93
 a24:=Tryz.isAgg93
 z24:=Tryz.sizeOf93
 v24:=Tryz.zeroValue93
 i9:=by kernel_rfl
end Go.Proofs.YtjpgfgajkjhonaaGreatDoor
