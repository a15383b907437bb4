/- Lemmas. Conditions: none. -/
import Derived.Test.YtjpgfgajkjhonaaGreatDoorQRAR
import Derived.Test.YtjpgfgajkjhonaaGreatDoorQRAS
import Derived.Shelf.Strings.Builder1
import Derived.Shelf.Lay
import Derived.Shelf.Strings.Search3
import Derived.Shelf.Spec.SlicesInsertGrow
set_option maxHeartbeats 4000000
set_option maxRecDepth 100000
namespace Go.Proofs.YtjpgfgajkjhonaaGreatDoor
open Go.Vx
set_option maxRecDepth 100000
theorem sJ{K:KT}(s:List UInt8)(hk:K (.ret (.fc 134 [.p 0 0])) [.cells [.d (.str s)]]):Z1 92 [.d (.str s)] [] K:=by
 refine sh0 Tryz.f92 ?_
 exact zh0 hk
def Hg(a b:Int):Bool:=jG .andNot .u8 a b==0
theorem No(a b:Int):Z0 262 [.d (.int .u8 a),.d (.int .u8 b)] (.d (.bool (Hg a b))):=by
 refine sh0 Tryz.f262 ?_
 exact zj0
def oneOf(s:Int)(l:List Int):Bool:=l.any λx=>Hg x s
def d_(l:List Int):List (List D):=l.map λx=>[D.int .u8 x]
theorem ic(l:List Int):(d_ l).length=l.length:=by simp[d_]
theorem QQ(s:Int)(l:List Int):Z0 197 [.d (.int .u8 s),.d (.sl 1 (d_ l))] (.d (.bool (oneOf s l))):=by
 have hl:=ic l;refine sh0 Tryz.f197 ?_
 repeat' ((conv=>whnf);first|exact zf|refine zm ?_|intro _)
 conv=>whnf
 refine bM [(0,.d (.int .u8 s)),(7,.d (.sl 1 (d_ l))),(8,.d (.int .i64 (d_ l).length))] (λi:Nat=>i<=l.length/\oneOf s (l.take i)=false) (λi=>[(9,.d (.int .i64 i))]) (λ_=>[]) (λi=>l.length-i) 0 ⟨ae _,rfl⟩ ?_ ?_ ?_ (λi hi=>?_)
 .exact zzz
 .exact zzz
 .exact rfl
 repeat' ((conv=>whnf);first|exact zf|refine zm ?_|intro _)
 refine aW (λhlt=>?_) (λhge=>?_)
 .have hlt:i<l.length:=by simpa[d_]using hlt
  have hr:=No l[i] s;have ht:l.take (i+1)=l.take i++[l[i]]:=dD hlt
  repeat' ((conv=>whnf);first|exact zf|refine zm ?_|intro _)
  refine⟨[D.int .u8 l[i]],⟨by omega,by simp[d_,hlt],rfl⟩,?_⟩;cases hb:Hg l[i] s with
  |true=>
   rw[hb]at hr
   repeat' ((conv=>whnf);first|exact zf|refine zm ?_|refine zc hr ?_|intro _)
   refine cJ ?_;have:oneOf s l=true:=dR.2 ⟨l[i],cP hlt,hb⟩;rw[this];rfl
  |false=>
   rw[hb]at hr
   repeat' ((conv=>whnf);first|exact zf|refine zm ?_|refine zc hr ?_|refine zi0 ?_|intro _)
   refine⟨i+1,⟨hlt,?_⟩,az hlt (bL i),zzz,zzz,rfl⟩;rw[ht];unfold oneOf at hi⊢;rw[List.any_append,hi.2];simp[hb]
 .have hge:l.length<=i:=by simpa[d_]using hge
  repeat' ((conv=>whnf);first|exact zf|refine zm ?_|intro _)
  refine cJ ?_;have h2:=hi.2;rw[cu hge]at h2;rw[h2];rfl
def rV(l:List UInt8)(n:Nat):Bool:=l.any λb=>b.toNat==n
def lM(l:List UInt8)(told:List Int)(n:Nat):List Int:=bif rV l n&&!(oneOf n told)then told++[(n:Int)]else told
def gj(l:List UInt8)(k:Nat):List Int:=(List.range k).foldl (lM l) []
def least(l:List UInt8):List UInt8:=(gj l 256).map λx=>UInt8.ofNat x.toNat
theorem nB(l:List UInt8)(k:Nat):gj l (k+1)=lM l (gj l k) k:=by simp[gj,List.range_succ]
theorem EP(l:List UInt8)(k:Nat)(hk:k<=256):∀x∈gj l k,0<=x/\x<256:=by
 induction k with
 |zero=>intro x hx;simp[gj]at hx
 |succ k ih=>
  intro x hx;rw[nB]at hx;unfold lM at hx;cases hc:rV l k&&!(oneOf k (gj l k))<;>rw[hc]at hx
  .exact ih (by omega) x hx
  .simp only[δ,aR,aL]at hx;rcases hx with hx|hx
   .exact ih (by omega) x hx
   .omega
theorem tQ(l:List UInt8)(k:Nat):(gj l k).length<=k:=by
 induction k with
 |zero=>simp[gj]
 |succ k ih=>
  rw[nB];unfold lM;cases rV l k&&!(oneOf k (gj l k))<;>simp<;>omega
theorem Aq(l:List UInt8):d_ (gj l 256)=(least l).map λb=>[D.int .u8 b.toNat]:=by
 unfold d_ least;rw[bn];refine aZ λx hx=>?_;have:=EP l 256 (aM _) x hx;simp only[mN,nR];rw[dQ (by omega),Int.toNat_of_nonneg this.1]
def ph(l:List UInt8)(k:Nat):List (List D):=(List.range 256).map λj=>[D.bool (rV (l.take k) j)]
def tn(l:List UInt8):List D:=(List.range 256).map λj=>D.bool (rV l j)
theorem rS{α:Type}(x:α):∀n,List.replicate n x=(List.range n).map λ_=>x:=by
 intro n;rw[List.map_const',kD]
theorem hereR_0(l:List UInt8):List.replicate 256 [D.bool false]=ph l 0:=rS _ 256
theorem E6(l:List UInt8)(k:Nat)(b:UInt8):(ph l k)[b.toNat]?=some [D.bool (rV (l.take k) b.toNat)]:=by
 unfold ph;rw[aB,ck (by have:=b.toNat_lt;omega)];rfl
theorem BG(l:List UInt8)(k:Nat)(hk:k<l.length):(ph l k).set l[k].toNat [D.bool true]=ph l (k+1):=by
 have ht:l.take (k+1)=l.take k++[l[k]]:=dD hk;have hh:∀j,rV (l.take (k+1)) j=(rV (l.take k) j||l[k].toNat==j):=λj=>by
  unfold rV;rw[ht,List.any_append];simp
 unfold ph;refine cR λj=>?_
 by_cases hj:j<256
 .by_cases e:l[k].toNat=j
  .subst e;rw[b_ (by simpa using hj),aB,ck hj,bE,hh];simp
  .rw[dt e,aB,aB,ck hj,bE,bE,hh];have:(l[k].toNat==j)=false:=by simpa using e
   rw[this,lB]
 .rw[gp (by simp;omega),gp (by simp;omega)]
theorem MF(l:List UInt8):ph l l.length=(tn l).map λd=>[d]:=by
 unfold ph tn;rw[cO,bn];rfl
theorem nj(i:Int)(l:List D)(r:List (List D)):yb 0 [(19,.d (.int .i64 i)),(18,.ag (l.map .d)),(5,.os 1)] [.no,.rows 1 r]=true:=by
 have e:jJ (.ag (l.map V.d))=[]:=by simp[jJ,kI,ij]
 simp only[yb,lA,List.all_nil,eT,e,dz,pJ];rfl
theorem HO(l:List UInt8):Z0 133 [.d (.str l)] (.d (.str (least l))):=by
  refine sh0 Tryz.f133 ?_
  repeat' ((conv=>whnf);first|exact zf|refine zm ?_|intro _)
  conv=>whnf
  refine bM [(0,.d (.str l)),(3,.q 0 1 0 0),(9,.d (.int .i64 l.length))] (λk:Nat=>k<=l.length) (λk=>[(10,.d (.int .i64 k))]) (λk=>[.rows 1 (ph l k)]) (λk=>l.length-k) 0 (ae _) ?_ ?_ ?_ (λk hk=>?_)
  · exact zzz
  · exact⟨aU (by rw[hereR_0 l]),trivial⟩
  · exact zx0
  repeat' ((conv=>whnf);first|exact zf|refine zm ?_|intro _)
  refine aW (λhlt=>?_) (λhge=>?_)
  · have hlt:k<l.length:=by simpa using hlt
    repeat' ((conv=>whnf);first|exact zf|refine zm ?_|intro _)
    refine⟨l[k],⟨by omega,by simp[hlt]⟩,?_⟩
    have hb:=l[k].toNat_lt
    repeat' ((conv=>whnf);first|exact zf|refine zm ?_|intro _)
    conv=>whnf
    refine⟨[D.bool (rV (l.take k) l[k].toNat)],E6 l k l[k],⟨rfl,rfl,rfl⟩,?_⟩
    repeat' ((conv=>whnf);first|exact zf|refine zm ?_|refine zi0 ?_|intro _)
    refine⟨k+1,hlt,az hlt (bL k),zzz,⟨aU (κ (B.rows 1) (BG l k hlt)),trivial⟩,rfl⟩
  · have hge:l.length<=k:=by simpa using hge
    obtain rfl:k=l.length:=by omega
    repeat' ((conv=>whnf);first|exact zf|refine zm ?_|intro _)
    refine⟨tn l,⟨MF l,by simp[tn]⟩,?_⟩
    repeat' ((conv=>whnf);first|exact zf|refine zm ?_|intro _)
    conv=>whnf
    refine bM [(18,.ag ((tn l).map .d)),(5,.os 1)] (λk:Nat=>k<=256) (λk=>[(19,.d (.int .i64 k))]) (λk=>[.no,.rows 1 (d_ (gj l k))]) (λk=>256-k) 0 (ae _) ?_ ?_ (nj _ _ _) (λk hk=>?_)
    · exact zzz
    · exact zzz
    repeat' ((conv=>whnf);first|exact zf|refine zm ?_|intro _)
    refine aW (λhlt=>?_) (λhge=>?_)
    · have hlt:k<256:=by have:=θ hlt;omega
      have hlen:=tQ l k
      have hrl:=ic (gj l k)
      have hg:∀b,rV l k=b->((tn l).map V.d)[(k:Int).toNat]?=some (.d (.bool b)):=λb hb=>by
        subst hb
        simp[tn,hlt]
      have hsx:=nB l k
      unfold lM at hsx
      have hr:=QQ k (gj l k)
      cases h1:rV l k with
      |false=>
        rw[h1,nU,ε]at hsx
        repeat' ((conv=>whnf);first|exact zf|refine zm ?_|intro _)
        refine⟨.bool false,⟨by omega,by omega,hg _ h1⟩,?_⟩
        repeat' ((conv=>whnf);first|exact zf|refine zm ?_|refine zi0 ?_|intro _)
        refine⟨k+1,hlt,az hlt (bL k),zzz,⟨aU (by rw[hsx]),trivial⟩,nj _ _ _⟩
      |true=>
        cases h2:oneOf k (gj l k) with
        |true=>
          rw[h1,h2]at hsx
          rw[h2]at hr
          simp only[Bool.not_true,Bool.and_false,ε]at hsx
          repeat' ((conv=>whnf);first|exact zf|refine zm ?_|intro _)
          refine⟨.bool true,⟨by omega,by omega,hg _ h1⟩,?_⟩
          repeat' ((conv=>whnf);first|exact zf|refine zm ?_|refine(.inl ⟨_,hr,rfl,?_⟩)|refine zi0 ?_|intro _)
          refine⟨k+1,hlt,az hlt (bL k),zzz,⟨aU (by rw[hsx]),trivial⟩,nj _ _ _⟩
        |false=>
          rw[h1,h2]at hsx
          rw[h2]at hr
          simp only[Bool.not_false,Bool.and_self,δ]at hsx
          repeat' ((conv=>whnf);first|exact zf|refine zm ?_|intro _)
          refine⟨.bool true,⟨by omega,by omega,hg _ h1⟩,?_⟩
          repeat' ((conv=>whnf);first|exact zf|refine zm ?_|refine(.inl ⟨_,hr,rfl,?_⟩)|refine zi0 ?_|intro _)
          refine⟨k+1,hlt,az hlt (bL k),zzz,⟨aU (by rw[hsx];simp[d_]),trivial⟩,nj _ _ _⟩
    · have hge:k=256:=by have:=ι hge;omega
      subst hge
      repeat' ((conv=>whnf);first|exact zf|refine zm ?_|intro _)
      refine⟨least l,Aq l,?_⟩
      exact zj0
theorem Bp(a:UInt8):BitVec.ofInt 8 (a.toNat:Int)=a.toBitVec:=by
 rw[lY];exact BitVec.eq_of_toNat_eq (by rw[BitVec.toNat_ofNat,dQ a.toNat_lt];rfl)
theorem wrap_u8(b:BitVec 8):IntKind.u8.wrap (b.toNat:Int)=b.toNat:=by
 have:=b.isLt;have e:(IntKind.u8.wrap (b.toNat:Int))=(b.toNat:Int) % 256:=rfl;rw[e];omega
theorem xY(a b:UInt8):jG .and .u8 a.toNat b.toNat=((a &&& b).toNat:Int):=by
 show IntKind.u8.wrap ((BitVec.ofInt 8 (a.toNat:Int) &&& BitVec.ofInt 8 (b.toNat:Int)).toNat:Int)=_;rw[Bp,Bp,wrap_u8];rfl
theorem Ss(a b:UInt8):jG .or .u8 a.toNat b.toNat=((a ||| b).toNat:Int):=by
 show IntKind.u8.wrap ((BitVec.ofInt 8 (a.toNat:Int) ||| BitVec.ofInt 8 (b.toNat:Int)).toNat:Int)=_;rw[Bp,Bp,wrap_u8];rfl
def rC(l:List UInt8):List UInt8:=l.map (· &&& 63)
def eb(l:List UInt8):List UInt8:=least (rC l)
def hZ(l:List UInt8):List (List D):=l.map λb=>[D.int .u8 b.toNat]
theorem Dp(l:List UInt8):(hZ l).length=l.length:=by simp[hZ]
theorem kT(l:List UInt8)(hm:l.length<=140737488355328):Z0 91 [.d (.str l)] (.d (.str (eb l))):=by
  refine sh0 Tryz.f91 ?_
  repeat' ((conv=>whnf);first|exact zf|refine zm ?_|refine(sJ l ?_)|intro _)
  conv=>whnf
  refine wZ 134 [.p 2 0] [2] l (λb=>.int .u8 b.toNat) (λi j=>i=j) (λi=>[.rows 1 (hZ (rC (l.take i))),.cells [.os 0],.cells [.d (.str l)]]) 0 3 rfl rfl (sI l) (λ_=>trivial) rfl ?_ (λ_=>⟨rfl,rfl,rfl⟩) (λi b j hb hi=>?_) (λi hi=>?_)
  · exact zzz
  · subst hi
    obtain⟨hlt,rfl⟩:=aC.1 hb
    have hlen:(hZ (rC (l.take i))).length<=i:=by simp[hZ,rC];omega
    have hs:hZ (rC (l.take (i+1)))=hZ (rC (l.take i))++[[D.int .u8 (jG .and .u8 l[i].toNat 63)]]:=by
      rw[dD hlt]
      simp only[hZ,rC,bZ,cG,kC]
      rw[show(63:Int)=((63:UInt8).toNat:Int)from rfl,xY]
    repeat' ((conv=>whnf);first|exact zf|refine zm ?_|intro _)
    exact⟨i+1,rfl,aU (by rw[hs];rfl),aU rfl,aU rfl,trivial⟩
  · subst hi
    repeat' ((conv=>whnf);first|exact zf|refine zm ?_|intro _)
    refine⟨rC (l.take l.length),rfl,?_⟩
    repeat' ((conv=>whnf);first|exact zf|refine zm ?_|refine zc (HO _) ?_|intro _)
    refine cJ ?_
    rw[cO]
    rfl
def qZ(l:List UInt8)(x:UInt8):Bool:=l.all λb=> !(b &&& x==0)
theorem Hk(l:List UInt8)(x:UInt8):Z0 127 [.d (.str l),.d (.int .u8 x.toNat)] (.d (.bool (qZ l x))):=by
  refine sh0 Tryz.f127 ?_
  repeat' ((conv=>whnf);first|exact zf|refine zm ?_|refine(sJ l ?_)|intro _)
  conv=>whnf
  refine wZ 134 [.p 2 0] [2] l (λb=>.int .u8 b.toNat) (λi(_:Unit)=>qZ (l.take i) x=true) (λ_=>[.cells [.d (.int .u8 x.toNat)],.cells [.d (.bool false)],.cells [.d (.str l)]]) () 3 rfl rfl (sI l) (λ_=>trivial) rfl ?_ (λ_=>⟨rfl,rfl,rfl⟩) (λi b _ hb hi=>?_) (λ_ hi=>?_)
  · exact zzz
  · obtain⟨hlt,rfl⟩:=aC.1 hb
    have he:(jG .and .u8 l[i].toNat x.toNat==0)=(l[i] &&& x==0):=by
      rw[xY,Bool.eq_iff_iff,ξ,ξ,<-UInt8.toNat_inj]
      simp
    cases hc:(l[i] &&& x==0) with
    |true=>
      rw[hc]at he
      repeat' ((conv=>whnf);first|exact zf|refine zm ?_|refine(gM he ?_)|intro _)
      refine cJ ?_
      have:qZ l x=false:=by
        unfold qZ
        rw[List.all_eq_false]
        exact⟨l[i],cP hlt,by rw[hc];simp⟩
      rw[this]
      rfl
    |false=>
      rw[hc]at he
      repeat' ((conv=>whnf);first|exact zf|refine zm ?_|refine(gG he ?_)|intro _)
      refine⟨(),?_,aU rfl,aU rfl,aU rfl,trivial⟩
      rw[dD hlt]
      unfold qZ at hi⊢
      rw[List.all_append,hi]
      simp[hc]
  · skip
    repeat' ((conv=>whnf);first|exact zf|refine zm ?_|intro _)
    refine cJ ?_
    rw[cO]at hi
    rw[hi]
    rfl
theorem lI(l:List UInt8):(eb l).length<=256:=by
 unfold eb least;rw[aH];exact tQ _ _
def AR(l:List UInt8):Prop:=l.length<=140737488355328
theorem ft(l:List UInt8):AR (eb l):=aV (lI l) (by decide)
def qg(a b:List UInt8):List UInt8:=eb (eb a++eb b)
theorem xZ(a b:List UInt8)(ha:AR a)(hb:AR b):Z0 54 [.d (.str a),.d (.str b)] (.d (.str (qg a b))):=by
 have h1:=kT a ha;have h2:=kT b hb;have la:=lI a;have lb:=lI b;have h3:=kT (eb a++eb b) (by rw[aK];omega);refine sh0 Tryz.f54 ?_
 exact zj3 h1 h2 h3
def g_(a b:List UInt8):List UInt8:=a.flatMap λc=>b.map λd=>c ||| d
def N4(a b:List UInt8):List UInt8:=eb (g_ (eb a) (eb b))
theorem sR(a b:List UInt8):(g_ a b).length=a.length*b.length:=by
 unfold g_
 induction a with
 |nil=>simp
 |cons c a ih=>rw[o4,aK,ih,aH,aX,iT];omega
theorem xn(a b:List UInt8)(i:Nat)(h:i<a.length):g_ (a.take (i+1)) b=g_ (a.take i) b++b.map λd=>a[i] ||| d:=by
 unfold g_;rw[dD h,List.flatMap_append,o4,List.flatMap_nil,cV]
theorem N5(a b:List UInt8)(ha:AR a)(hb:AR b):Z0 55 [.d (.str a),.d (.str b)] (.d (.str (N4 a b))):=by
  have h1:=kT a ha
  have h2:=kT b hb
  have la:=lI a
  have lb:=lI b
  unfold N4
  generalize eb a=na at h1 la⊢
  generalize eb b=nb at h2 lb⊢
  have hmul:na.length*nb.length<=65536:=aV (Nat.mul_le_mul la lb) (by decide)
  have h3:=kT (g_ na nb) (by rw[sR];omega)
  refine sh0 Tryz.f55 ?_
  repeat' ((conv=>whnf);first|exact zf|refine zm ?_|refine zc h1 ?_|refine zc h2 ?_|refine zi0 ?_|refine(sJ na ?_)|intro _)
  conv=>whnf
  refine wZ 134 [.p 3 0] [3] na (λb=>.int .u8 b.toNat) (λi j=>i=j) (λi=>[.cells [.d (.str nb)],.rows 1 (hZ (g_ (na.take i) nb)),.cells [.os 1],.cells [.d (.str na)]]) 0 4 rfl rfl (sI na) (λ_=>trivial) rfl ?_ (λ_=>⟨rfl,rfl,rfl⟩) (λi c j hc hi=>?_) (λi hi=>?_)
  · exact zzz
  · subst hi
    obtain⟨hlt,rfl⟩:=aC.1 hc
    have hs:=xn na nb i hlt
    have hul:(g_ (na.take i) nb).length<=65536:=by
      rw[sR,bC]
      exact aV (bB _ (aV (Nat.min_le_right ..) (aM _))) hmul
    repeat' ((conv=>whnf);first|exact zf|refine zm ?_|refine(sJ nb ?_)|intro _)
    conv=>whnf
    refine wZ 134 [.p 5 0] [5] nb (λb=>.int .u8 b.toNat) (λi j=>i=j) (λj=>[.cells [.d (.str nb)],.rows 1 (hZ (g_ (na.take i) nb++(nb.take j).map λd=>na[i] ||| d)),.cells [.os 1],.cells [.d (.str na)],.cells [.d (.int .u8 na[i].toNat)],.cells [.d (.str nb)]]) 0 6 rfl rfl (sI nb) (λ_=>trivial) rfl ?_ (λ_=>⟨rfl,rfl,rfl⟩) (λj d k hd hj=>?_) (λj hj=>?_)
    · exact⟨aU rfl,aU (by simp),aU rfl,aU rfl,aU rfl,aU rfl,trivial⟩
    · subst hj
      obtain⟨hlj,rfl⟩:=aC.1 hd
      have hl2:(hZ (g_ (na.take i) nb++(nb.take j).map λd=>na[i] ||| d)).length<=65536+256:=by
        rw[Dp,aK,aH,bC]
        omega
      have hs2:hZ (g_ (na.take i) nb++(nb.take (j+1)).map λd=>na[i] ||| d)=hZ (g_ (na.take i) nb++(nb.take j).map λd=>na[i] ||| d)++[[D.int .u8 (jG .or .u8 na[i].toNat nb[j].toNat)]]:=by
        rw[dD hlj,Ss]
        simp only[hZ,bZ,cG,kC,bN]
      repeat' ((conv=>whnf);first|exact zf|refine zm ?_|intro _)
      exact⟨j+1,rfl,aU rfl,aU (by rw[hs2];rfl),aU rfl,aU rfl,aU rfl,aU rfl,trivial⟩
    · subst hj
      repeat' ((conv=>whnf);first|exact zf|refine zm ?_|intro _)
      exact⟨i+1,rfl,aU rfl,aU (by rw[hs,cO]),aU rfl,aU rfl,trivial⟩
  · subst hi
    repeat' ((conv=>whnf);first|exact zf|refine zm ?_|intro _)
    refine⟨g_ (na.take na.length) nb,rfl,?_⟩
    rw[cO]
    exact zj1 h3
def kg(l:List UInt8)(n:Nat):Bool:=qZ l (UInt8.ofNat n)
theorem E4(l:List UInt8)(n:Nat)(h:n<256):Z0 127 [.d (.str l),.d (.int .u8 n)] (.d (.bool (kg l n))):=by
 have:=Hk l (UInt8.ofNat n);rw[nR,dQ h]at this;exact this
def AG(l:List UInt8)(k:Nat):Int:=(List.range k).foldl (λt x=>bif kg l x then jG .or .u64 t (AS .shl .u64 1 x)else t) 0
theorem vE(l:List UInt8)(k:Nat):AG l (k+1)=bif kg l k then jG .or .u64 (AG l k) (AS .shl .u64 1 k)else AG l k:=by simp[AG,List.range_succ]
def sU(l:List UInt8):Int:=AG (eb l) 64
theorem xx(a:List UInt8)(ha:AR a):Z0 83 [.d (.str a)] (.d (.int .u64 (sU a))):=by
  have h1:=kT a ha
  unfold sU
  generalize eb a=l at h1⊢
  refine sh0 Tryz.f83 ?_
  repeat' ((conv=>whnf);first|exact zf|refine zm ?_|refine zc h1 ?_|intro _)
  conv=>whnf
  refine bM [(0,.d (.str l))] (λk:Nat=>k<=64) (λk=>[(7,.d (.int .u8 k)),(3,.d (.int .u64 (AG l k)))]) (λ_=>[]) (λk=>64-k) 0 (ae _) ?_ ?_ ?_ (λk hk=>?_)
  · exact zzz
  · exact zzz
  · exact rfl
  repeat' ((conv=>whnf);first|exact zf|refine zm ?_|intro _)
  refine aW (λhlt=>?_) (λhge=>?_)
  · have hlt:k<64:=by have:=θ hlt;omega
    have hr:=E4 l k (by omega)
    have hs:=vE l k
    cases hb:kg l k with
    |true=>
      rw[hb]at hr hs
      simp only[δ]at hs
      repeat' ((conv=>whnf);first|exact zf|refine zm ?_|refine zc hr ?_|refine zi0 ?_|intro _)
      refine⟨k+1,hlt,az hlt (bL k),⟨fN rfl,fN (by rw[hs];rfl),fN rfl,trivial⟩,zzz,rfl⟩
    |false=>
      rw[hb]at hr hs
      simp only[ε]at hs
      repeat' ((conv=>whnf);first|exact zf|refine zm ?_|refine zc hr ?_|refine zi0 ?_|intro _)
      refine⟨k+1,hlt,az hlt (bL k),⟨fN rfl,fN (by rw[hs];rfl),fN rfl,trivial⟩,zzz,rfl⟩
  · have hge:k=64:=by have:=ι hge;omega
    subst hge
    exact zj0
def iO(a b:List UInt8):Bool:=jG .andNot .u64 (sU a) (sU b)==0
theorem mA(a b:List UInt8)(ha:AR a)(hb:AR b):Z0 42 [.d (.str a),.d (.str b)] (.d (.bool (iO a b))):=by
 have h1:=xx a ha;have h2:=xx b hb;refine sh0 Tryz.f42 ?_
 exact zj2 h1 h2
structure Lb where
  s:List UInt8
  i:List UInt8
  deriving DecidableEq
def je(l:Lb):V:=.ag [.d (.str l.s),.d (.str l.i)]
def cL(l:Lb):Prop:=AR l.s/\AR l.i
def half(b:Bool)(l:Lb):List UInt8:=bif b then l.s else l.i
theorem MH(b:Bool)(l:Lb):Z0 129 [.d (.bool b),je l] (.d (.str (half b l))):=by
 cases b with
 |true=>
  refine sh0 Tryz.f129 ?_
  exact zj0
 |false=>
  refine sh0 Tryz.f129 ?_
  exact zj0
theorem Hv{b:Bool}{l:Lb}(h:cL l):AR (half b l):=by cases b<;>first|exact h.1|exact h.2
theorem CT(b:Bool)(l:Lb)(hl:cL l):Z1 128 [.d (.bool b),.p 0 0] [.cells [.d (.str l.s),.d (.str l.i)]] λo h=>o=.ret (.d (.str (eb (half b l))))/\h=[.cells [.d (.str l.s),.d (.str l.i)]]:=by
 have h1:=MH b l;have h2:=kT (half b l) (Hv hl);refine sh0 Tryz.f128 ?_
 exact zj2 h1 h2
theorem Tq{K:KT}(l:Lb)(a b:List UInt8)(h1:Z1 128 [.d (.bool true),.p 0 0] [.cells [.d (.str l.s),.d (.str l.i)]] λo h=>o=.ret (.d (.str a))/\h=[.cells [.d (.str l.s),.d (.str l.i)]])(h2:Z1 128 [.d (.bool false),.p 0 0] [.cells [.d (.str l.s),.d (.str l.i)]] λo h=>o=.ret (.d (.str b))/\h=[.cells [.d (.str l.s),.d (.str l.i)]])
  (hk:K (.ret (je ⟨a,b⟩)) [.cells [.d (.str l.s),.d (.str l.i)]]):Z1 52 [.fc 128 [.p 0 0]] [.cells [.d (.str l.s),.d (.str l.i)]] K:=by
 refine sh0 Tryz.f52 ?_
 repeat' ((conv=>whnf);first|exact zf|refine zm ?_|refine zr0 ?_|intro _)
 refine h1.mono λo h' hh=>?_;obtain⟨rfl,rfl⟩:=hh
 repeat' ((conv=>whnf);first|exact zf|refine zm ?_|refine zr0 ?_|intro _)
 refine h2.mono λo h' hh=>?_;obtain⟨rfl,rfl⟩:=hh
 exact zh0 hk
def gT(l:Lb):Lb:=⟨eb l.s,eb l.i⟩
theorem jn(l:Lb)(hl:cL l):Z0 84 [je l] (je (gT l)):=by
 refine sh0 Tryz.f84 ?_
 repeat' ((conv=>whnf);first|exact zf|refine zm ?_|refine zr0 ?_|intro _)
 exact Tq l _ _ (CT true l hl) (CT false l hl) zj0
def ky(l:Lb):Bool:=eb l.s==l.s&&eb l.i==l.i
theorem qP(l:Lb)(hl:cL l):Z0 44 [je l] (.d (.bool (ky l))):=by
 have h1:=jn l hl;refine s44.go (keep:=false) rfl ?_
 repeat' ((conv=>whnf);first|exact zf|refine zm ?_|refine zc h1 ?_|intro _)
 refine cJ ?_;show V.d (.bool (eb l.s==l.s&&(eb l.i==l.i&&true)))=_;rw[dz];rfl
theorem Tt{K:KT}(l m:Lb)(a b:List UInt8)(h1:Z1 53 [.d (.bool true),.p 0 0,.p 1 0] [.cells [.d (.str l.s),.d (.str l.i)],.cells [.d (.str m.s),.d (.str m.i)]] λo h=>o=.ret (.d (.str a))/\h=[.cells [.d (.str l.s),.d (.str l.i)],.cells [.d (.str m.s),.d (.str m.i)]])(h2:Z1 53 [.d (.bool false),.p 0 0,.p 1 0] [.cells [.d (.str l.s),.d (.str l.i)],.cells [.d (.str m.s),.d (.str m.i)]] λo h=>o=.ret (.d (.str b))/\h=[.cells [.d (.str l.s),.d (.str l.i)],.cells [.d (.str m.s),.d (.str m.i)]])
  (hk:K (.ret (je ⟨a,b⟩)) [.cells [.d (.str l.s),.d (.str l.i)],.cells [.d (.str m.s),.d (.str m.i)]]):Z1 52 [.fc 53 [.p 0 0,.p 1 0]] [.cells [.d (.str l.s),.d (.str l.i)],.cells [.d (.str m.s),.d (.str m.i)]] K:=by
 refine sh0 Tryz.f52 ?_
 repeat' ((conv=>whnf);first|exact zf|refine zm ?_|refine zr0 ?_|intro _)
 refine h1.mono λo h' hh=>?_;obtain⟨rfl,rfl⟩:=hh
 repeat' ((conv=>whnf);first|exact zf|refine zm ?_|refine zr0 ?_|intro _)
 refine h2.mono λo h' hh=>?_;obtain⟨rfl,rfl⟩:=hh
 exact zh0 hk
theorem Ts{K:KT}(l m:Lb)(a b:List UInt8)(h1:Z1 280 [.d (.bool true),.p 0 0,.p 1 0] [.cells [.d (.str l.s),.d (.str l.i)],.cells [.d (.str m.s),.d (.str m.i)]] λo h=>o=.ret (.d (.str a))/\h=[.cells [.d (.str l.s),.d (.str l.i)],.cells [.d (.str m.s),.d (.str m.i)]])(h2:Z1 280 [.d (.bool false),.p 0 0,.p 1 0] [.cells [.d (.str l.s),.d (.str l.i)],.cells [.d (.str m.s),.d (.str m.i)]] λo h=>o=.ret (.d (.str b))/\h=[.cells [.d (.str l.s),.d (.str l.i)],.cells [.d (.str m.s),.d (.str m.i)]])
  (hk:K (.ret (je ⟨a,b⟩)) [.cells [.d (.str l.s),.d (.str l.i)],.cells [.d (.str m.s),.d (.str m.i)]]):Z1 52 [.fc 280 [.p 0 0,.p 1 0]] [.cells [.d (.str l.s),.d (.str l.i)],.cells [.d (.str m.s),.d (.str m.i)]] K:=by
 refine sh0 Tryz.f52 ?_
 repeat' ((conv=>whnf);first|exact zf|refine zm ?_|refine zr0 ?_|intro _)
 refine h1.mono λo h' hh=>?_;obtain⟨rfl,rfl⟩:=hh
 repeat' ((conv=>whnf);first|exact zf|refine zm ?_|refine zr0 ?_|intro _)
 refine h2.mono λo h' hh=>?_;obtain⟨rfl,rfl⟩:=hh
 exact zh0 hk
theorem Cd(b:Bool)(l m:Lb)(hl:cL l)(hm:cL m):Z1 53 [.d (.bool b),.p 0 0,.p 1 0] [.cells [.d (.str l.s),.d (.str l.i)],.cells [.d (.str m.s),.d (.str m.i)]] λo h=>o=.ret (.d (.str (bif b then qg l.s m.s else N4 l.i m.i)))/\h=[.cells [.d (.str l.s),.d (.str l.i)],.cells [.d (.str m.s),.d (.str m.i)]]:=by
 have h1:=xZ l.s m.s hl.1 hm.1;have h2:=N5 l.i m.i hl.2 hm.2;cases b with
 |true=>
  refine sh0 Tryz.f53 ?_
  exact zj1 h1
 |false=>
  refine sh0 Tryz.f53 ?_
  exact zj1 h2
theorem C3(b:Bool)(l m:Lb)(hl:cL l)(hm:cL m):Z1 280 [.d (.bool b),.p 0 0,.p 1 0] [.cells [.d (.str l.s),.d (.str l.i)],.cells [.d (.str m.s),.d (.str m.i)]] λo h=>o=.ret (.d (.str (bif b then N4 l.s m.s else qg l.i m.i)))/\h=[.cells [.d (.str l.s),.d (.str l.i)],.cells [.d (.str m.s),.d (.str m.i)]]:=by
 have h1:=N5 l.s m.s hl.1 hm.1;have h2:=xZ l.i m.i hl.2 hm.2;cases b with
 |true=>
  refine sh0 Tryz.f280 ?_
  exact zj1 h1
 |false=>
  refine sh0 Tryz.f280 ?_
  exact zj1 h2
def da(l m:Lb):Lb:=⟨qg l.s m.s,N4 l.i m.i⟩
def nA(l m:Lb):Lb:=⟨N4 l.s m.s,qg l.i m.i⟩
theorem tZ(l m:Lb)(hl:cL l)(hm:cL m):Z0 24 [je l,je m] (je (da l m)):=by
 refine sh0 Tryz.f24 ?_
 repeat' ((conv=>whnf);first|exact zf|refine zm ?_|refine zr0 ?_|intro _)
 exact Tt l m _ _ (Cd true l m hl hm) (Cd false l m hl hm) zj0
theorem HD(l m:Lb)(hl:cL l)(hm:cL m):Z0 229 [je l,je m] (je (nA l m)):=by
 refine sh0 Tryz.f229 ?_
 repeat' ((conv=>whnf);first|exact zf|refine zm ?_|refine zr0 ?_|intro _)
 exact Ts l m _ _ (C3 true l m hl hm) (C3 false l m hl hm) zj0
def bI(l m:Lb):Bool:=iO m.s l.s&&iO l.i m.i
theorem jc(l m:Lb)(hl:cL l)(hm:cL m):Z0 13 [je l,je m] (.d (.bool (bI l m))):=by
 have h1:=mA m.s l.s hm.1 hl.1;have h2:=mA l.i m.i hl.2 hm.2;refine sh0 Tryz.f13 ?_;unfold bI;cases hb:iO m.s l.s with
 |true=>
  rw[hb]at h1
  exact zj2 h1 h2
 |false=>
  rw[hb]at h1
  exact zj1 h1
structure Gs where
  cur:Lb
  fo:Lb
def FR(s:Gs):V:=.ag [.d (.str s.cur.s),.d (.str s.cur.i),.d (.str s.fo.s),.d (.str s.fo.i)]
def lj(l:Lb):List D:=[.str l.s,.str l.i]
def rP(s:Gs):List D:=[.str s.cur.s,.str s.cur.i,.str s.fo.s,.str s.fo.i]
def jL(s:Gs):Prop:=cL s.cur/\cL s.fo
theorem mE(s:Gs)(l:Lb):Z0 284 [FR s,je l] (.ag [.d (.fc 321 [.pt (lj l) 0,.pt (rP s) 0]),.d (.int .i64 (-4))]):=by
 refine G5 (rows:=[lj l,rP s]) (by decide) ?_;refine sh0 Tryz.f284 ?_
 exact zj0
theorem uV(s:Gs)(l:Lb):Z0 285 [FR s,je l] (.ag [.d (.fc 322 [.pt (rP s) 0,.pt (lj l) 0]),.d (.int .i64 (-3))]):=by
 refine G5 (rows:=[rP s,lj l]) (by decide) ?_;refine sh0 Tryz.f285 ?_
 exact zj0
theorem B7(s:Gs)(l:Lb)(hs:jL s)(hl:cL l):Z0 321 [.e (lj l) 0,.e (rP s) 0] (.d (.bool (bI l s.fo))):=by
 have h:=jc l s.fo hl hs.2;refine sh0 Tryz.f321 ?_
 exact zj1 h
theorem Jw(s:Gs)(l:Lb)(hs:jL s)(hl:cL l):Z0 322 [.e (rP s) 0,.e (lj l) 0] (.d (.bool (bI s.cur l))):=by
 have h:=jc s.cur l hs.1 hl;refine sh0 Tryz.f322 ?_
 exact zj1 h
structure Mu where
  F:Nat
  cs:List D
  so:Bool
  ex:Int
def Mu.row(m:Mu):List D:=[.fc m.F m.cs,.int .i64 m.ex]
def firstM:List Mu->Int
 |[]=>0
 |m::r=>bif m.so then firstM r else m.ex
theorem nJ:∀{i:Nat}{l:List Mu},(∀m∈l.take i,m.so=true)->firstM l=firstM (l.drop i)
 |0,_,_=>rfl
 |i+1,[],_=>rfl
 |i+1,m::l,h=>by
  rw[firstM,h m (by simp),mM,δ];exact nJ λx hx=>h x (by simp[hx])
theorem nK(l:List Mu)(hF:∀m∈l,((∃a b,(m.F=321\/m.F=322)/\m.cs=[.pt a 0,.pt b 0])\/∃a b c,(m.F=293\/m.F=295)/\m.cs=[.pt a 0,.pt b 0,.pt c 0])/\Z0 m.F (m.cs.map Sm) (.d (.bool m.so))) :
  Z0 283 [.d (.sl 2 (l.map Mu.row))] (.d (.int .i64 (firstM l))):=by
 have hl:(l.map Mu.row).length=l.length:=aH _;refine sh0 Tryz.f283 ?_
 repeat' ((conv=>whnf);first|exact zf|refine zm ?_|intro _)
 conv=>whnf
 refine bM [(0,.d (.sl 2 (l.map Mu.row))),(5,.d (.sl 2 (l.map Mu.row))),(6,.d (.int .i64 (l.map Mu.row).length))] (λi:Nat=>i<=l.length/\∀m∈l.take i,m.so=true) (λi=>[(7,.d (.int .i64 i))]) (λ_=>[]) (λi=>l.length-i) 0 ⟨ae _,λ_ h=>nomatch h⟩ ?_ ?_ ?_ (λi hi=>?_)
 .exact zzz
 .exact zzz
 .exact rfl
 repeat' ((conv=>whnf);first|exact zf|refine zm ?_|intro _)
 refine aW (λhlt=>?_) (λhge=>?_)
 .have hlt:i<l.length:=by rw[<-hl];simpa using hlt
  obtain⟨m,hm⟩:∃m,l[i]?=some m:=⟨_,aA hlt⟩
  obtain⟨hf,hs⟩:=hF m (aJ hm);have hfm:=nJ hi.2;have hdr:l.drop i=m::l.drop (i+1):=by
   rw[bO hlt];rw[aA hlt]at hm;rw[aq hm]
  rw[hdr]at hfm;have htk:l.take (i+1)=l.take i++[m]:=by rw[bc,hm];rfl
  obtain⟨F,cs,so,ex⟩:=m
  repeat' ((conv=>whnf);first|exact zf|refine zm ?_|intro _)
  refine⟨[.fc F cs,.int .i64 ex],⟨by omega,by simp[hm,Mu.row],rfl⟩,?_⟩;rcases hf with⟨a,b,hf|hf,hc⟩|⟨a,b,c,hf|hf,hc⟩
  .simp only at hf hc;subst hf hc;dsimp only at hs;cases so with
   |true=>
    repeat' ((conv=>whnf);first|exact zf|refine zm ?_|refine zc hs ?_|intro _)
    refine⟨i+1,⟨hlt,?_⟩,az hlt (bL i),zzz,zzz,rfl⟩;rw[htk];intro x hx;exact(aR.1 hx).elim (hi.2 x) λh=>by rw[aL.1 h]
   |false=>
    repeat' ((conv=>whnf);first|exact zf|refine zm ?_|refine zc hs ?_|intro _)
    exact cJ (κ (λx=>V.d (D.int .i64 x)) hfm.symm)
  .simp only at hf hc;subst hf hc;dsimp only at hs;cases so with
   |true=>
    repeat' ((conv=>whnf);first|exact zf|refine zm ?_|refine zc hs ?_|intro _)
    refine⟨i+1,⟨hlt,?_⟩,az hlt (bL i),zzz,zzz,rfl⟩;rw[htk];intro x hx;exact(aR.1 hx).elim (hi.2 x) λh=>by rw[aL.1 h]
   |false=>
    repeat' ((conv=>whnf);first|exact zf|refine zm ?_|refine zc hs ?_|intro _)
    exact cJ (κ (λx=>V.d (D.int .i64 x)) hfm.symm)
  .simp only at hf hc;subst hf hc;dsimp only at hs;cases so with
   |true=>
    repeat' ((conv=>whnf);first|exact zf|refine zm ?_|refine zc hs ?_|intro _)
    refine⟨i+1,⟨hlt,?_⟩,az hlt (bL i),zzz,zzz,rfl⟩;rw[htk];intro x hx;exact(aR.1 hx).elim (hi.2 x) λh=>by rw[aL.1 h]
   |false=>
    repeat' ((conv=>whnf);first|exact zf|refine zm ?_|refine zc hs ?_|intro _)
    exact cJ (κ (λx=>V.d (D.int .i64 x)) hfm.symm)
  .simp only at hf hc;subst hf hc;dsimp only at hs;cases so with
   |true=>
    repeat' ((conv=>whnf);first|exact zf|refine zm ?_|refine zc hs ?_|intro _)
    refine⟨i+1,⟨hlt,?_⟩,az hlt (bL i),zzz,zzz,rfl⟩;rw[htk];intro x hx;exact(aR.1 hx).elim (hi.2 x) λh=>by rw[aL.1 h]
   |false=>
    repeat' ((conv=>whnf);first|exact zf|refine zm ?_|refine zc hs ?_|intro _)
    exact cJ (κ (λx=>V.d (D.int .i64 x)) hfm.symm)
 .have hge:i=l.length:=by
   have:¬i<l.length:=by rw[<-hl];simpa using hge
   omega
  have hfm:=nJ hi.2;rw[hge,kq]at hfm;rw[hfm]
  exact zj0
def vS(s:Gs)(l:Lb):Mu:=⟨321,[.pt (lj l) 0,.pt (rP s) 0],bI l s.fo,-4⟩
def y5(s:Gs)(l:Lb):Mu:=⟨322,[.pt (rP s) 0,.pt (lj l) 0],bI s.cur l,-3⟩
theorem wm(s:Gs)(l:Lb)(hs:jL s)(hl:cL l):((∃a b,((vS s l).F=321\/(vS s l).F=322)/\(vS s l).cs=[.pt a 0,.pt b 0])\/∃a b c,((vS s l).F=293\/(vS s l).F=295)/\(vS s l).cs=[.pt a 0,.pt b 0,.pt c 0])/\Z0 (vS s l).F ((vS s l).cs.map Sm) (.d (.bool (vS s l).so)):=
 ⟨.inl ⟨_,_,.inl rfl,rfl⟩,B7 s l hs hl⟩
theorem Al(s:Gs)(l:Lb)(hs:jL s)(hl:cL l):((∃a b,((y5 s l).F=321\/(y5 s l).F=322)/\(y5 s l).cs=[.pt a 0,.pt b 0])\/∃a b c,((y5 s l).F=293\/(y5 s l).F=295)/\(y5 s l).cs=[.pt a 0,.pt b 0,.pt c 0])/\Z0 (y5 s l).F ((y5 s l).cs.map Sm) (.d (.bool (y5 s l).so)):=
 ⟨.inl ⟨_,_,.inr rfl,rfl⟩,Jw s l hs hl⟩
def bT(s:Gs)(l:Lb):Int:=firstM [y5 s l,vS s l]
theorem fR(s:Gs)(l:Lb)(hs:jL s)(hl:cL l):Z0 242 [FR s,je l] (.d (.int .i64 (bT s l))):=by
 have h1:=uV s l;have h2:=mE s l;have h3:=nK [y5 s l,vS s l] (by
  intro m hm;simp only[af,cU,or_false]at hm;rcases hm with rfl|rfl
  .exact Al s l hs hl
  .exact wm s l hs hl)
 refine sh0 Tryz.f242 ?_
 exact zj3 h1 h2 h3
def dN(s:Gs)(l:Lb):Int:=firstM [vS s (da s.cur l)]
def cw(s:Gs)(l:Lb):Gs:=bif dN s l==0 then⟨da s.cur l,s.fo⟩else s
def Vq(s:Gs)(e:Int):V:=.tu [FR s,.d (.int .i64 e)]
theorem xw(s:Gs)(l:Lb)(hs:jL s)(hl:cL l)(hj:cL (da s.cur l)):Z0 282 [FR s,je l] (Vq (cw s l) (dN s l)):=by
 have h1:=tZ s.cur l hs.1 hl;have h2:=mE s (da s.cur l);have h3:=nK [vS s (da s.cur l)] (by
  intro m hm;rw[aL.1 hm];exact wm s _ hs hj)
 have he:firstM [vS s (da s.cur l)]=dN s l:=rfl;rw[he]at h3;unfold cw;cases hb:dN s l==0 with
 |true=>
  rw[eq_of_beq hb]at h3⊢;refine sh0 Tryz.f282 ?_
  exact zj3 h1 h2 h3
 |false=>
  refine sh0 Tryz.f282 ?_
  exact zk3 h1 h2 h3
def uM(s:Gs)(l:Lb):Gs:=bif bT s l==0 then⟨gT l,s.fo⟩else s
theorem DH(s:Gs)(l:Lb)(hs:jL s)(hl:cL l):Z0 286 [FR s,je l] (Vq (uM s l) (bT s l)):=by
 have h1:=fR s l hs hl;have h2:=jn l hl;unfold uM;cases hb:bT s l==0 with
 |true=>
  rw[eq_of_beq hb]at h1⊢;refine sh0 Tryz.f286 ?_
  exact zj2 h1 h2
 |false=>
  refine sh0 Tryz.f286 ?_
  exact zk2 h1 h2
def jO(s:Gs)(l:Lb):Int:=firstM [vS s l,y5 s l]
def tJ(s:Gs)(l:Lb):Gs:=bif jO s l==0 then⟨s.cur,gT l⟩else s
theorem HE(s:Gs)(l:Lb)(hs:jL s)(hl:cL l):Z0 235 [FR s,je l] (Vq (tJ s l) (jO s l)):=by
 have h1:=uV s l;have h2:=mE s l;have h3:=nK [vS s l,y5 s l] (by
  intro m hm;simp only[af,cU,or_false]at hm;rcases hm with rfl|rfl
  .exact wm s l hs hl
  .exact Al s l hs hl)
 have h4:=jn l hl;have he:firstM [vS s l,y5 s l]=jO s l:=rfl;rw[he]at h3;unfold tJ;cases hb:jO s l==0 with
 |true=>
  rw[eq_of_beq hb]at h3⊢;refine sh0 Tryz.f235 ?_
  repeat' ((conv=>whnf);first|exact zf|refine zm ?_|refine zc h1 ?_|refine zc h2 ?_|refine zc h3 ?_|refine zc h4 ?_|intro _)
 |false=>
  refine sh0 Tryz.f235 ?_
  repeat' ((conv=>whnf);first|exact zf|refine zm ?_|refine zc h1 ?_|refine zc h2 ?_|refine zc h3 ?_|refine zc h4 ?_|refine zt ?_|refine zu ?_|intro _)
def CP(p:Int)(i:Nat):List UInt8:=((List.range i).filter λk=>Hg (2 ^ k) p).map λk=>UInt8.ofNat (2 ^ k)
def L6(p:Int):List UInt8:=CP p 6
theorem yU(p:Int)(i:Nat):CP p (i+1)=bif Hg (2 ^ i) p then CP p i++[UInt8.ofNat (2 ^ i)]else CP p i:=by
 unfold CP;rw[List.range_succ,List.filter_append];cases h:Hg (2 ^ i) p<;>simp[h]
theorem wc(p:Int):∀i,(CP p i).length<=i
 |0=>by simp[CP]
 |i+1=>by
  have:=wc p i;rw[yU];cases Hg (2 ^ i) p<;>simp<;>omega
theorem Kz:∀i:Nat,i<6->AS .shl .u8 1 (i:Int)=2 ^ i/\((UInt8.ofNat (2 ^ i)).toNat:Int)=2 ^ i:=by decide
theorem Td(p:Int):Z0 325 [.d (.int .u8 p)] (.d (.str (L6 p))):=by
 refine sh0 Tryz.f325 ?_
 repeat' ((conv=>whnf);first|exact zf|refine zm ?_|intro _)
 conv=>whnf
 refine bM [(0,.d (.int .u8 p)),(3,.os 0)] (λi:Nat=>i<=6) (λi=>[(6,.d (.int .i64 i))]) (λi=>[.rows 1 (hZ (CP p i))]) (λi=>6-i) 0 (ae _) ?_ ?_ ?_ (λi hi=>?_)
 .exact zzz
 .exact⟨aU rfl,trivial⟩
 .exact zx0
 repeat' ((conv=>whnf);first|exact zf|refine zm ?_|intro _)
 refine aW (λhlt=>?_) (λhge=>?_)
 .have hlt:i<6:=by have:=θ hlt;omega
  have hs:=yU p i;have hlen:=wc p i;have hrl:(hZ (CP p i)).length=(CP p i).length:=aH _;obtain⟨e1,e2⟩:=Kz i hlt;have hp:Z0 262 [.d (.int .u8 (AS .shl .u8 1 (i:Int))),.d (.int .u8 p)] (.d (.bool (Hg (2 ^ i) p))):=by
   have:=No (AS .shl .u8 1 (i:Int)) p;rwa[show Hg (AS .shl .u8 1 (i:Int)) p=Hg (2 ^ i) p by rw[e1]]at this
  have hr:hZ (CP p i++[UInt8.ofNat (2 ^ i)])=hZ (CP p i)++[[D.int .u8 (AS .shl .u8 1 (i:Int))]]:=by
   rw[e1,<-e2];simp[hZ]
  cases hb:Hg (2 ^ i) p with
  |true=>
   rw[hb]at hp hs
   repeat' ((conv=>whnf);first|exact zf|refine zm ?_|refine zc hp ?_|refine zi0 ?_|refine(And.intro ⟨rfl,rfl,by simp only[aX,ah];omega,by simp only[aX,ah];omega⟩ ?_)|intro _)
   exact⟨i+1,hlt,az hlt (bL i),zzz,⟨aU (by rw[hs,δ,hr];rfl),trivial⟩,rfl⟩
  |false=>
   rw[hb]at hp hs
   repeat' ((conv=>whnf);first|exact zf|refine zm ?_|refine zc hp ?_|refine zi0 ?_|intro _)
   exact⟨i+1,hlt,az hlt (bL i),zzz,⟨aU (by rw[hs];rfl),trivial⟩,rfl⟩
 .have hge:i=6:=by have:=ι hge;omega
  subst hge
  conv=>whnf
  refine⟨CP p 6,rfl,?_⟩
  exact zj0
theorem EB(p:Int):∀i,i<=6->AR (CP p i):=λi hi=>aV (wc p i) (by omega)
def fh(a b:Lb)(p:Int):Bool:=iO (qg b.s (L6 p)) a.s&&iO (qg a.i (L6 p)) b.i
theorem Bx(a b:List UInt8):AR (qg a b):=ft _
theorem vO(a b:Lb)(p:Int)(ha:cL a)(hb:cL b):Z0 294 [je a,je b,.d (.int .u8 p)] (.d (.bool (fh a b p))):=by
 have h0:=Td p;have hp:AR (L6 p):=EB p 6 (aM _);have h1:=xZ b.s (L6 p) hb.1 hp;have h2:=mA (qg b.s (L6 p)) a.s (Bx _ _) ha.1;have h3:=xZ a.i (L6 p) ha.2 hp;have h4:=mA (qg a.i (L6 p)) b.i (Bx _ _) hb.2;unfold fh;cases hb:iO (qg b.s (L6 p)) a.s with
 |true=>
  rw[hb]at h2;refine sh0 Tryz.f294 ?_
  repeat' ((conv=>whnf);first|exact zf|refine zm ?_|refine zc h0 ?_|refine zc h1 ?_|refine zc h2 ?_|refine zc h3 ?_|refine zc h4 ?_|intro _)
 |false=>
  rw[hb]at h2;refine sh0 Tryz.f294 ?_
  exact zj3 h0 h1 h2
end Go.Proofs.YtjpgfgajkjhonaaGreatDoor
namespace Go.Proofs.YtjpgfgajkjhonaaGreatDoor
open Go.RowKit Go.Shelf Go.Proofs
def dw:Go.Shelf.Ren:=⟨λ|240=>341|276=>342|166=>339|169=>340|167=>338|n=>n,λ|37=>188|70=>401|72=>403|164=>409|127=>391|75=>262|80=>324|n=>n,λ|n=>n⟩
theorem writeString:Lays.n166 Tryz.prog dw where
 mixed:=zx0
 f166:=Tryz.func339.trans (κ some zx0)
 f240:=Tryz.func341.trans (κ some zx0)
 f276:=Tryz.func342.trans (κ some zx0)
 t0:=Tryz.underlying0
 a0:=Tryz.isAgg0
 z0:=Tryz.sizeOf0
 v0:=Tryz.zeroValue0
 t3:=Tryz.underlying3
 a3:=Tryz.isAgg3
 z3:=Tryz.sizeOf3
 v3:=Tryz.zeroValue3
 t4:=Tryz.underlying4
 a4:=Tryz.isAgg4
 z4:=Tryz.sizeOf4
 v4:=Tryz.zeroValue4
 t9:=Tryz.underlying9
 a9:=Tryz.isAgg9
 z9:=Tryz.sizeOf9
 v9:=Tryz.zeroValue9
 t20:=Tryz.underlying20
 a20:=Tryz.isAgg20
 z20:=Tryz.sizeOf20
 v20:=Tryz.zeroValue20
 t37:=Tryz.underlying188
 a37:=Tryz.isAgg188
 z37:=Tryz.sizeOf188
 v37:=Tryz.zeroValue188
 t70:=Tryz.underlying401
 a70:=Tryz.isAgg401
 z70:=Tryz.sizeOf401
 v70:=Tryz.zeroValue401
 t72:=Tryz.underlying403
 a72:=Tryz.isAgg403
 z72:=Tryz.sizeOf403
 v72:=Tryz.zeroValue403
 t75:=Tryz.underlying262
 a75:=Tryz.isAgg262
 z75:=Tryz.sizeOf262
 v75:=Tryz.zeroValue262
 t164:=Tryz.underlying409
 a164:=Tryz.isAgg409
 z164:=Tryz.sizeOf409
 v164:=Tryz.zeroValue409
def sN:Go.Shelf.Ren:=⟨λ|240=>341|276=>342|166=>339|169=>340|167=>338|n=>n,λ|37=>188|70=>401|72=>403|164=>409|127=>391|75=>262|80=>324|n=>n,λ|n=>n⟩
theorem D3:Lays.n167 Tryz.prog sN where
 mixed:=zx0
 f167:=Tryz.func338.trans (κ some zx0)
 f240:=Tryz.func341.trans (κ some zx0)
 f276:=Tryz.func342.trans (κ some zx0)
 t0:=Tryz.underlying0
 a0:=Tryz.isAgg0
 z0:=Tryz.sizeOf0
 v0:=Tryz.zeroValue0
 t4:=Tryz.underlying4
 a4:=Tryz.isAgg4
 z4:=Tryz.sizeOf4
 v4:=Tryz.zeroValue4
 t5:=Tryz.underlying5
 a5:=Tryz.isAgg5
 z5:=Tryz.sizeOf5
 v5:=Tryz.zeroValue5
 t9:=Tryz.underlying9
 a9:=Tryz.isAgg9
 z9:=Tryz.sizeOf9
 v9:=Tryz.zeroValue9
 t20:=Tryz.underlying20
 a20:=Tryz.isAgg20
 z20:=Tryz.sizeOf20
 v20:=Tryz.zeroValue20
 t37:=Tryz.underlying188
 a37:=Tryz.isAgg188
 z37:=Tryz.sizeOf188
 v37:=Tryz.zeroValue188
 t70:=Tryz.underlying401
 a70:=Tryz.isAgg401
 z70:=Tryz.sizeOf401
 v70:=Tryz.zeroValue401
 t72:=Tryz.underlying403
 a72:=Tryz.isAgg403
 z72:=Tryz.sizeOf403
 v72:=Tryz.zeroValue403
 t75:=Tryz.underlying262
 a75:=Tryz.isAgg262
 z75:=Tryz.sizeOf262
 v75:=Tryz.zeroValue262
 t164:=Tryz.underlying409
 a164:=Tryz.isAgg409
 z164:=Tryz.sizeOf409
 v164:=Tryz.zeroValue409
def zK:Go.Shelf.Ren:=⟨λ|240=>341|276=>342|166=>339|169=>340|167=>338|n=>n,λ|37=>188|70=>401|72=>403|164=>409|127=>391|75=>262|80=>324|n=>n,λ|n=>n⟩
theorem Mr:Lays.n169 Tryz.prog zK where
 mixed:=zx0
 f169:=Tryz.func340.trans (κ some zx0)
 t0:=Tryz.underlying0
 a0:=Tryz.isAgg0
 z0:=Tryz.sizeOf0
 v0:=Tryz.zeroValue0
 t3:=Tryz.underlying3
 a3:=Tryz.isAgg3
 z3:=Tryz.sizeOf3
 v3:=Tryz.zeroValue3
 t9:=Tryz.underlying9
 a9:=Tryz.isAgg9
 z9:=Tryz.sizeOf9
 v9:=Tryz.zeroValue9
 t37:=Tryz.underlying188
 a37:=Tryz.isAgg188
 z37:=Tryz.sizeOf188
 v37:=Tryz.zeroValue188
 t70:=Tryz.underlying401
 a70:=Tryz.isAgg401
 z70:=Tryz.sizeOf401
 v70:=Tryz.zeroValue401
 t72:=Tryz.underlying403
 a72:=Tryz.isAgg403
 z72:=Tryz.sizeOf403
 v72:=Tryz.zeroValue403
 t127:=Tryz.underlying391
 a127:=Tryz.isAgg391
 z127:=Tryz.sizeOf391
 v127:=Tryz.zeroValue391
def Qo:Go.Shelf.Ren:=⟨λ|143=>213|219=>275|217=>308|225=>309|224=>310|267=>311|266=>333|314=>334|n=>n,λ|9=>9|3=>3|4=>4|5=>5|46=>198|146=>398|51=>293|n=>n,λ|1=>1|n=>n⟩
theorem index:Lays.n143 Tryz.prog Qo where
 mixed:=zx0
 f143:=Tryz.func213.trans (κ some zx0)
 f217:=Tryz.func308.trans (κ some zx0)
 f219:=Tryz.func275.trans (κ some zx0)
 f224:=Tryz.func310.trans (κ some zx0)
 f225:=Tryz.func309.trans (κ some zx0)
 f266:=Tryz.func333.trans (κ some zx0)
 f267:=Tryz.func311.trans (κ some zx0)
 f314:=Tryz.func334.trans (κ some zx0)
 t3:=Tryz.underlying3
 a3:=Tryz.isAgg3
 z3:=Tryz.sizeOf3
 v3:=Tryz.zeroValue3
 t4:=Tryz.underlying4
 a4:=Tryz.isAgg4
 z4:=Tryz.sizeOf4
 v4:=Tryz.zeroValue4
 t5:=Tryz.underlying5
 a5:=Tryz.isAgg5
 z5:=Tryz.sizeOf5
 v5:=Tryz.zeroValue5
 t9:=Tryz.underlying9
 a9:=Tryz.isAgg9
 z9:=Tryz.sizeOf9
 v9:=Tryz.zeroValue9
 t46:=Tryz.underlying198
 a46:=Tryz.isAgg198
 z46:=Tryz.sizeOf198
 v46:=Tryz.zeroValue198
 t51:=Tryz.underlying293
 a51:=Tryz.isAgg293
 z51:=Tryz.sizeOf293
 v51:=Tryz.zeroValue293
 t146:=Tryz.underlying398
 a146:=Tryz.isAgg398
 z146:=Tryz.sizeOf398
 v146:=Tryz.zeroValue398
 g1:=zx0
def iK:Go.Shelf.Ren:=⟨λ|22=>48|29=>88|30=>89|36=>132|17=>196|n=>n,λ|24=>93|9=>9|3=>3|4=>4|0=>0|n=>n,λ|n=>n⟩
theorem insert:Lays2.n22 Tryz.prog iK where
 mixed:=zx0
 f17:=Tryz.func196.trans (κ some zx0)
 f22:=Tryz.func48.trans (κ some zx0)
 f29:=Tryz.func88.trans (κ some zx0)
 f30:=Tryz.func89.trans (κ some zx0)
 f36:=Tryz.func132.trans (κ some zx0)
 t0:=Tryz.underlying0
 a0:=Tryz.isAgg0
 z0:=Tryz.sizeOf0
 v0:=Tryz.zeroValue0
 t3:=Tryz.underlying3
 a3:=Tryz.isAgg3
 z3:=Tryz.sizeOf3
 v3:=Tryz.zeroValue3
 t4:=Tryz.underlying4
 a4:=Tryz.isAgg4
 z4:=Tryz.sizeOf4
 v4:=Tryz.zeroValue4
 t9:=Tryz.underlying9
 a9:=Tryz.isAgg9
 z9:=Tryz.sizeOf9
 v9:=Tryz.zeroValue9
 t24:=Tryz.underlying93
 a24:=Tryz.isAgg93
 z24:=Tryz.sizeOf93
 v24:=Tryz.zeroValue93
 i9:=zx0
end Go.Proofs.YtjpgfgajkjhonaaGreatDoor