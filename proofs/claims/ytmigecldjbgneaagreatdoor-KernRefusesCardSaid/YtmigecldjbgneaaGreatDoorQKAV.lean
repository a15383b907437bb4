/- Lemmas. Conditions: none. -/
import Derived.Test.YtmigecldjbgneaaGreatDoorQKAT
import Derived.Test.YtmigecldjbgneaaGreatDoorQKAU
set_option maxHeartbeats 4000000
set_option maxRecDepth 100000
namespace Go.Proofs.YtmigecldjbgneaaGreatDoor
open Go.Vx
set_option maxRecDepth 100000
theorem sx{K:KT}(s:List UInt8)(hk:K (.ret (.fc 118 [.p 0 0])) [.cells [.d (.str s)]]):Z1 79 [.d (.str s)] [] K:=by
 refine sh0 Tryz.f79 ?_
 repeat' ((conv=>whnf);first|exact zf|refine zm ?_|refine zB ?_ ?_|intro _)
 exact hk
def zn(a b:Int):Bool:=jF .andNot .u8 a b==0
theorem P9(a b:Int):Z0 218 [.d (.int .u8 a),.d (.int .u8 b)] (.d (.bool (zn a b))):=by
 refine sh0 Tryz.f218 ?_
 repeat' ((conv=>whnf);first|exact zf|refine zm ?_|refine zB ?_ ?_|intro _)
def oneOf(s:Int)(l:List Int):Bool:=l.any λx=>zn x s
def dE(l:List Int):List (List D):=l.map λx=>[D.int .u8 x]
theorem gg(l:List Int):(dE l).length=l.length:=by simp[dE]
theorem RH(s:Int)(l:List Int):Z0 153 [.d (.int .u8 s),.d (.sl 1 (dE l))] (.d (.bool (oneOf s l))):=by
 have hl:=gg l;refine sh0 Tryz.f153 ?_
 repeat' ((conv=>whnf);first|exact zf|refine zm ?_|refine zB ?_ ?_|intro _)
 conv=>whnf
 refine bA [(0,.d (.int .u8 s)),(7,.d (.sl 1 (dE l))),(8,.d (.int .i64 (dE l).length))] (λi:Nat=>i<=l.length/\oneOf s (l.take i)=false) (λi=>[(9,.d (.int .i64 i))]) (λ_=>[]) (λi=>l.length-i) 0 ⟨aY _,rfl⟩ ?_ ?_ ?_ (λi hi=>?_)
 .exact zzz
 .exact zzz
 .exact rfl
 repeat' ((conv=>whnf);first|exact zf|refine zm ?_|refine zB ?_ ?_|intro _)
 refine aU (λhlt=>?_) (λhge=>?_)
 .have hlt:i<l.length:=by simpa[dE]using hlt
  have hr:=P9 l[i] s;have ht:l.take (i+1)=l.take i++[l[i]]:=c_ hlt
  repeat' ((conv=>whnf);first|exact zf|refine zm ?_|refine zB ?_ ?_|intro _)
  refine⟨[D.int .u8 l[i]],⟨by omega,by simp[dE,hlt],rfl⟩,?_⟩;cases hb:zn l[i] s with
  |true=>
   rw[hb]at hr
   repeat' ((conv=>whnf);first|exact zf|refine zm ?_|refine zc hr ?_|refine zB ?_ ?_|intro _)
   refine cD ?_;have:oneOf s l=true:=eO.2 ⟨l[i],dR hlt,hb⟩;rw[this];rfl
  |false=>
   rw[hb]at hr
   repeat' ((conv=>whnf);first|exact zf|refine zm ?_|refine zc hr ?_|refine zi0 ?_|refine zB ?_ ?_|intro _)
   refine⟨i+1,⟨hlt,?_⟩,aN hlt (aQ i),zzz,zzz,rfl⟩;rw[ht];unfold oneOf at hi⊢;rw[List.any_append,hi.2];simp[hb]
 .have hge:l.length<=i:=by simpa[dE]using hge
  repeat' ((conv=>whnf);first|exact zf|refine zm ?_|refine zB ?_ ?_|intro _)
  refine cD ?_;have h2:=hi.2;rw[gN hge]at h2;rw[h2];rfl
def nA(l:List UInt8)(n:Nat):Bool:=l.any λb=>b.toNat==n
def jB(l:List UInt8)(told:List Int)(n:Nat):List Int:=bif nA l n&&!(oneOf n told)then told++[(n:Int)]else told
def eu(l:List UInt8)(k:Nat):List Int:=(List.range k).foldl (jB l) []
def least(l:List UInt8):List UInt8:=(eu l 256).map λx=>UInt8.ofNat x.toNat
theorem jO(l:List UInt8)(k:Nat):eu l (k+1)=jB l (eu l k) k:=by simp[eu,List.range_succ]
theorem wF(l:List UInt8)(k:Nat)(hk:k<=256):∀x∈eu l k,0<=x/\x<256:=by
 induction k with
 |zero=>intro x hx;simp[eu]at hx
 |succ k ih=>
  intro x hx;rw[jO]at hx;unfold jB at hx;cases hc:nA l k&&!(oneOf k (eu l k))<;>rw[hc]at hx
  .exact ih (by omega) x hx
  .simp only[δ,aT,aF]at hx;rcases hx with hx|hx
   .exact ih (by omega) x hx
   .omega
theorem uJ(l:List UInt8)(k:Nat):(eu l k).length<=k:=by
 induction k with
 |zero=>simp[eu]
 |succ k ih=>
  rw[jO];unfold jB;cases nA l k&&!(oneOf k (eu l k))<;>simp<;>omega
theorem B8(l:List UInt8):dE (eu l 256)=(least l).map λb=>[D.int .u8 b.toNat]:=by
 unfold dE least;rw[gP];refine cA λx hx=>?_;have:=wF l 256 (aL _) x hx;simp only[jK,gL];rw[cm (by omega),Int.toNat_of_nonneg this.1]
def q8(l:List UInt8)(k:Nat):List (List D):=(List.range 256).map λj=>[D.bool (nA (l.take k) j)]
def uX(l:List UInt8):List D:=(List.range 256).map λj=>D.bool (nA l j)
theorem sN{α:Type}(x:α):∀n,List.replicate n x=(List.range n).map λ_=>x:=by
 intro n;rw[List.map_const',List.length_range]
theorem hereR_0(l:List UInt8):List.replicate 256 [D.bool false]=q8 l 0:=sN _ 256
theorem FN(l:List UInt8)(k:Nat)(b:UInt8):(q8 l k)[b.toNat]?=some [D.bool (nA (l.take k) b.toNat)]:=by
 unfold q8;rw[aB,cp (by have:=b.toNat_lt;omega)];rfl
theorem Bp(l:List UInt8)(k:Nat)(hk:k<l.length):(q8 l k).set l[k].toNat [D.bool true]=q8 l (k+1):=by
 have ht:l.take (k+1)=l.take k++[l[k]]:=c_ hk;have hh:∀j,nA (l.take (k+1)) j=(nA (l.take k) j||l[k].toNat==j):=λj=>by
  unfold nA;rw[ht,List.any_append];simp
 unfold q8;refine bz λj=>?_
 by_cases hj:j<256
 .by_cases e:l[k].toNat=j
  .subst e;rw[bZ (by simpa using hj),aB,cp hj,bJ,hh];simp
  .rw[bq e,aB,aB,cp hj,bJ,bJ,hh];have:(l[k].toNat==j)=false:=by simpa using e
   rw[this,dL]
 .rw[cu (by simp;omega),cu (by simp;omega)]
theorem Mt(l:List UInt8):q8 l l.length=(uX l).map λd=>[d]:=by
 unfold q8 uX;rw[cG,gP];rfl
theorem o9(i:Int)(l:List D)(r:List (List D)):zV 0 [(19,.d (.int .i64 i)),(18,.ag (l.map .d)),(5,.os 1)] [.no,.rows 1 r]=true:=by
 have e:nH (.ag (l.map V.d))=[]:=by simp[nH,pQ,lN]
 simp only[zV,qB,List.all_nil,l8,e,eA,lP];rfl
theorem JJ(l:List UInt8):Z0 117 [.d (.str l)] (.d (.str (least l))):=by
  refine sh0 Tryz.f117 ?_
  repeat' ((conv=>whnf);first|exact zf|refine zm ?_|refine zB ?_ ?_|intro _)
  conv=>whnf
  refine bA [(0,.d (.str l)),(3,.q 0 1 0 0),(9,.d (.int .i64 l.length))] (λk:Nat=>k<=l.length) (λk=>[(10,.d (.int .i64 k))]) (λk=>[.rows 1 (q8 l k)]) (λk=>l.length-k) 0 (aY _) ?_ ?_ ?_ (λk hk=>?_)
  · exact zzz
  · exact⟨aV (by rw[hereR_0 l]),trivial⟩
  · exact zx0
  repeat' ((conv=>whnf);first|exact zf|refine zm ?_|refine zB ?_ ?_|intro _)
  refine aU (λhlt=>?_) (λhge=>?_)
  · have hlt:k<l.length:=by simpa using hlt
    repeat' ((conv=>whnf);first|exact zf|refine zm ?_|refine zB ?_ ?_|intro _)
    refine⟨l[k],⟨by omega,by simp[hlt]⟩,?_⟩
    have hb:=l[k].toNat_lt
    repeat' ((conv=>whnf);first|exact zf|refine zm ?_|refine zB ?_ ?_|intro _)
    conv=>whnf
    refine⟨[D.bool (nA (l.take k) l[k].toNat)],FN l k l[k],⟨rfl,rfl,rfl⟩,?_⟩
    repeat' ((conv=>whnf);first|exact zf|refine zm ?_|refine zi0 ?_|refine zB ?_ ?_|intro _)
    refine⟨k+1,hlt,aN hlt (aQ k),zzz,⟨aV (κ (B.rows 1) (Bp l k hlt)),trivial⟩,rfl⟩
  · have hge:l.length<=k:=by simpa using hge
    obtain rfl:k=l.length:=by omega
    repeat' ((conv=>whnf);first|exact zf|refine zm ?_|refine zB ?_ ?_|intro _)
    refine⟨uX l,⟨Mt l,by simp[uX]⟩,?_⟩
    repeat' ((conv=>whnf);first|exact zf|refine zm ?_|refine zB ?_ ?_|intro _)
    conv=>whnf
    refine bA [(18,.ag ((uX l).map .d)),(5,.os 1)] (λk:Nat=>k<=256) (λk=>[(19,.d (.int .i64 k))]) (λk=>[.no,.rows 1 (dE (eu l k))]) (λk=>256-k) 0 (aY _) ?_ ?_ (o9 _ _ _) (λk hk=>?_)
    · exact zzz
    · exact zzz
    repeat' ((conv=>whnf);first|exact zf|refine zm ?_|refine zB ?_ ?_|intro _)
    refine aU (λhlt=>?_) (λhge=>?_)
    · have hlt:k<256:=by have:=θ hlt;omega
      have hlen:=uJ l k
      have hrl:=gg (eu l k)
      have hg:∀b,nA l k=b->((uX l).map V.d)[(k:Int).toNat]?=some (.d (.bool b)):=λb hb=>by
        subst hb
        simp[uX,hlt]
      have hsx:=jO l k
      unfold jB at hsx
      have hr:=RH k (eu l k)
      cases h1:nA l k with
      |false=>
        rw[h1,iV,ε]at hsx
        repeat' ((conv=>whnf);first|exact zf|refine zm ?_|refine zB ?_ ?_|intro _)
        refine⟨.bool false,⟨by omega,by omega,hg _ h1⟩,?_⟩
        repeat' ((conv=>whnf);first|exact zf|refine zm ?_|refine zi0 ?_|refine zB ?_ ?_|intro _)
        refine⟨k+1,hlt,aN hlt (aQ k),zzz,⟨aV (by rw[hsx]),trivial⟩,o9 _ _ _⟩
      |true=>
        cases h2:oneOf k (eu l k) with
        |true=>
          rw[h1,h2]at hsx
          rw[h2]at hr
          simp only[qC,Bool.and_false,ε]at hsx
          repeat' ((conv=>whnf);first|exact zf|refine zm ?_|refine zB ?_ ?_|intro _)
          refine⟨.bool true,⟨by omega,by omega,hg _ h1⟩,?_⟩
          repeat' ((conv=>whnf);first|exact zf|refine zm ?_|refine(.inl ⟨_,hr,rfl,?_⟩)|refine zi0 ?_|refine zB ?_ ?_|intro _)
          refine⟨k+1,hlt,aN hlt (aQ k),zzz,⟨aV (by rw[hsx]),trivial⟩,o9 _ _ _⟩
        |false=>
          rw[h1,h2]at hsx
          rw[h2]at hr
          simp only[Bool.not_false,dZ,δ]at hsx
          repeat' ((conv=>whnf);first|exact zf|refine zm ?_|refine zB ?_ ?_|intro _)
          refine⟨.bool true,⟨by omega,by omega,hg _ h1⟩,?_⟩
          repeat' ((conv=>whnf);first|exact zf|refine zm ?_|refine(.inl ⟨_,hr,rfl,?_⟩)|refine zi0 ?_|refine zB ?_ ?_|intro _)
          refine⟨k+1,hlt,aN hlt (aQ k),zzz,⟨aV (by rw[hsx];simp[dE]),trivial⟩,o9 _ _ _⟩
    · have hge:k=256:=by have:=ι hge;omega
      subst hge
      repeat' ((conv=>whnf);first|exact zf|refine zm ?_|refine zB ?_ ?_|intro _)
      refine⟨least l,B8 l,?_⟩
      repeat' ((conv=>whnf);first|exact zf|refine zm ?_|refine zB ?_ ?_|intro _)
theorem ve(a:UInt8):BitVec.ofInt 8 (a.toNat:Int)=a.toBitVec:=by
 rw[lz];exact BitVec.eq_of_toNat_eq (by rw[BitVec.toNat_ofNat,cm a.toNat_lt];rfl)
theorem wrap_u8(b:BitVec 8):IntKind.u8.wrap (b.toNat:Int)=b.toNat:=by
 have:=b.isLt;have e:(IntKind.u8.wrap (b.toNat:Int))=(b.toNat:Int) % 256:=rfl;rw[e];omega
theorem CR(a b:UInt8):jF .and .u8 a.toNat b.toNat=((a &&& b).toNat:Int):=by
 show IntKind.u8.wrap ((BitVec.ofInt 8 (a.toNat:Int) &&& BitVec.ofInt 8 (b.toNat:Int)).toNat:Int)=_;rw[ve,ve,wrap_u8];rfl
theorem Ti(a b:UInt8):jF .or .u8 a.toNat b.toNat=((a ||| b).toNat:Int):=by
 show IntKind.u8.wrap ((BitVec.ofInt 8 (a.toNat:Int) ||| BitVec.ofInt 8 (b.toNat:Int)).toNat:Int)=_;rw[ve,ve,wrap_u8];rfl
theorem Fl(a b:UInt8):jF .andNot .u8 a.toNat b.toNat=((a &&& ~~~b).toNat:Int):=by
 show IntKind.u8.wrap ((BitVec.ofInt 8 (a.toNat:Int) &&& ~~~BitVec.ofInt 8 (b.toNat:Int)).toNat:Int)=_;rw[ve,ve,wrap_u8];rfl
def mg(l:List UInt8):List UInt8:=l.map (· &&& 63)
def eP(l:List UInt8):List UInt8:=least (mg l)
def gy(l:List UInt8):List (List D):=l.map λb=>[D.int .u8 b.toNat]
theorem E3(l:List UInt8):(gy l).length=l.length:=by simp[gy]
theorem ko(l:List UInt8)(hm:l.length<=140737488355328):Z0 78 [.d (.str l)] (.d (.str (eP l))):=by
  refine sh0 Tryz.f78 ?_
  repeat' ((conv=>whnf);first|exact zf|refine zm ?_|refine(sx l ?_)|refine zB ?_ ?_|intro _)
  conv=>whnf
  refine xF 118 [.p 2 0] [2] l (λb=>.int .u8 b.toNat) (λi j=>i=j) (λi=>[.rows 1 (gy (mg (l.take i))),.cells [.os 0],.cells [.d (.str l)]]) 0 3 rfl rfl (sw l) (λ_=>trivial) rfl ?_ (λ_=>⟨rfl,rfl,rfl⟩) (λi b j hb hi=>?_) (λi hi=>?_)
  · exact zzz
  · subst hi
    obtain⟨hlt,rfl⟩:=aC.1 hb
    have hlen:(gy (mg (l.take i))).length<=i:=by simp[gy,mg];omega
    have hs:gy (mg (l.take (i+1)))=gy (mg (l.take i))++[[D.int .u8 (jF .and .u8 l[i].toNat 63)]]:=by
      rw[c_ hlt]
      simp only[gy,mg,bt,dI,gO]
      rw[show(63:Int)=((63:UInt8).toNat:Int)from rfl,CR]
    repeat' ((conv=>whnf);first|exact zf|refine zm ?_|refine zB ?_ ?_|intro _)
    exact⟨i+1,rfl,aV (by rw[hs];rfl),aV rfl,aV rfl,trivial⟩
  · subst hi
    repeat' ((conv=>whnf);first|exact zf|refine zm ?_|refine zB ?_ ?_|intro _)
    refine⟨mg (l.take l.length),rfl,?_⟩
    repeat' ((conv=>whnf);first|exact zf|refine zm ?_|refine zc (JJ _) ?_|refine zB ?_ ?_|intro _)
    refine cD ?_
    rw[cG]
    rfl
def gI(l:List UInt8)(x:UInt8):Bool:=l.all λb=> !(b &&& x==0)
theorem J3(l:List UInt8)(x:UInt8):Z0 152 [.d (.str l),.d (.int .u8 x.toNat)] (.d (.bool (gI l x))):=by
  refine sh0 Tryz.f152 ?_
  repeat' ((conv=>whnf);first|exact zf|refine zm ?_|refine(sx l ?_)|refine zB ?_ ?_|intro _)
  conv=>whnf
  refine xF 118 [.p 2 0] [2] l (λb=>.int .u8 b.toNat) (λi(_:Unit)=>gI (l.take i) x=true) (λ_=>[.cells [.d (.int .u8 x.toNat)],.cells [.d (.bool false)],.cells [.d (.str l)]]) () 3 rfl rfl (sw l) (λ_=>trivial) rfl ?_ (λ_=>⟨rfl,rfl,rfl⟩) (λi b _ hb hi=>?_) (λ_ hi=>?_)
  · exact zzz
  · obtain⟨hlt,rfl⟩:=aC.1 hb
    have he:(jF .and .u8 l[i].toNat x.toNat==0)=(l[i] &&& x==0):=by
      rw[CR,j0,ξ,ξ,<-UInt8.toNat_inj]
      simp
    cases hc:(l[i] &&& x==0) with
    |true=>
      rw[hc]at he
      repeat' ((conv=>whnf);first|exact zf|refine zm ?_|refine(bf he ?_)|refine zB ?_ ?_|intro _)
      refine cD ?_
      have:gI l x=false:=by
        unfold gI
        rw[List.all_eq_false]
        exact⟨l[i],dR hlt,by rw[hc];simp⟩
      rw[this]
      rfl
    |false=>
      rw[hc]at he
      repeat' ((conv=>whnf);first|exact zf|refine zm ?_|refine(bB he ?_)|refine zB ?_ ?_|intro _)
      refine⟨(),?_,aV rfl,aV rfl,aV rfl,trivial⟩
      rw[c_ hlt]
      unfold gI at hi⊢
      rw[List.all_append,hi]
      simp[hc]
  · skip
    repeat' ((conv=>whnf);first|exact zf|refine zm ?_|refine zB ?_ ?_|intro _)
    refine cD ?_
    rw[cG]at hi
    rw[hi]
    rfl
theorem lU(l:List UInt8):(eP l).length<=256:=by
 unfold eP least;rw[aI];exact uJ _ _
def Ck(l:List UInt8):Prop:=l.length<=140737488355328
theorem gx(l:List UInt8):Ck (eP l):=aX (lU l) (by decide)
def pz(a b:List UInt8):List UInt8:=eP (eP a++eP b)
theorem yE(a b:List UInt8)(ha:Ck a)(hb:Ck b):Z0 45 [.d (.str a),.d (.str b)] (.d (.str (pz a b))):=by
 have h1:=ko a ha;have h2:=ko b hb;have la:=lU a;have lb:=lU b;have h3:=ko (eP a++eP b) (by rw[aM];omega);refine sh0 Tryz.f45 ?_
 repeat' ((conv=>whnf);first|exact zf|refine zm ?_|refine zc h1 ?_|refine zc h2 ?_|refine zc h3 ?_|refine zB ?_ ?_|intro _)
def gH(a b:List UInt8):List UInt8:=a.flatMap λc=>b.map λd=>c ||| d
def Kz(a b:List UInt8):List UInt8:=eP (gH (eP a) (eP b))
theorem tL(a b:List UInt8):(gH a b).length=a.length*b.length:=by
 unfold gH
 induction a with
 |nil=>simp
 |cons c a ih=>rw[List.flatMap_cons,aM,ih,aI,aZ,fY];omega
theorem yY(a b:List UInt8)(i:Nat)(h:i<a.length):gH (a.take (i+1)) b=gH (a.take i) b++b.map λd=>a[i] ||| d:=by
 unfold gH;rw[c_ h,List.flatMap_append,List.flatMap_cons,List.flatMap_nil,eI]
theorem PV(a b:List UInt8)(ha:Ck a)(hb:Ck b):Z0 46 [.d (.str a),.d (.str b)] (.d (.str (Kz a b))):=by
  have h1:=ko a ha
  have h2:=ko b hb
  have la:=lU a
  have lb:=lU b
  unfold Kz
  generalize eP a=na at h1 la⊢
  generalize eP b=nb at h2 lb⊢
  have hmul:na.length*nb.length<=65536:=aX (Nat.mul_le_mul la lb) (by decide)
  have h3:=ko (gH na nb) (by rw[tL];omega)
  refine sh0 Tryz.f46 ?_
  repeat' ((conv=>whnf);first|exact zf|refine zm ?_|refine zc h1 ?_|refine zc h2 ?_|refine zi0 ?_|refine(sx na ?_)|refine zB ?_ ?_|intro _)
  all_goals
    conv=>whnf
    refine xF 118 [.p 3 0] [3] na (λb=>.int .u8 b.toNat) (λi j=>i=j) (λi=>[.cells [.d (.str nb)],.rows 1 (gy (gH (na.take i) nb)),.cells [.os 1],.cells [.d (.str na)]]) 0 4 rfl rfl (sw na) (λ_=>trivial) rfl ?_ (λ_=>⟨rfl,rfl,rfl⟩) (λi c j hc hi=>?_) (λi hi=>?_)
    · exact zzz
    · subst hi
      obtain⟨hlt,rfl⟩:=aC.1 hc
      have hs:=yY na nb i hlt
      have hul:(gH (na.take i) nb).length<=65536:=by
        rw[tL,a_]
        exact aX (bD _ (aX (Nat.min_le_right ..) (aL _))) hmul
      repeat' ((conv=>whnf);first|exact zf|refine zm ?_|refine(sx nb ?_)|refine zB ?_ ?_|intro _)
      conv=>whnf
      refine xF 118 [.p 5 0] [5] nb (λb=>.int .u8 b.toNat) (λi j=>i=j) (λj=>[.cells [.d (.str nb)],.rows 1 (gy (gH (na.take i) nb++(nb.take j).map λd=>na[i] ||| d)),.cells [.os 1],.cells [.d (.str na)],.cells [.d (.int .u8 na[i].toNat)],.cells [.d (.str nb)]]) 0 6 rfl rfl (sw nb) (λ_=>trivial) rfl ?_ (λ_=>⟨rfl,rfl,rfl⟩) (λj d k hd hj=>?_) (λj hj=>?_)
      · exact⟨aV rfl,aV (by simp),aV rfl,aV rfl,aV rfl,aV rfl,trivial⟩
      · subst hj
        obtain⟨hlj,rfl⟩:=aC.1 hd
        have hl2:(gy (gH (na.take i) nb++(nb.take j).map λd=>na[i] ||| d)).length<=65536+256:=by
          rw[E3,aM,aI,a_]
          omega
        have hs2:gy (gH (na.take i) nb++(nb.take (j+1)).map λd=>na[i] ||| d)=gy (gH (na.take i) nb++(nb.take j).map λd=>na[i] ||| d)++[[D.int .u8 (jF .or .u8 na[i].toNat nb[j].toNat)]]:=by
          rw[c_ hlj,Ti]
          simp only[gy,bt,dI,gO,bI]
        repeat' ((conv=>whnf);first|exact zf|refine zm ?_|refine zB ?_ ?_|intro _)
        exact⟨j+1,rfl,aV rfl,aV (by rw[hs2];rfl),aV rfl,aV rfl,aV rfl,aV rfl,trivial⟩
      · subst hj
        repeat' ((conv=>whnf);first|exact zf|refine zm ?_|refine zB ?_ ?_|intro _)
        exact⟨i+1,rfl,aV rfl,aV (by rw[hs,cG]),aV rfl,aV rfl,trivial⟩
    · subst hi
      repeat' ((conv=>whnf);first|exact zf|refine zm ?_|refine zB ?_ ?_|intro _)
      refine⟨gH (na.take na.length) nb,rfl,?_⟩
      rw[cG]
      repeat' ((conv=>whnf);first|exact zf|refine zm ?_|refine zc h3 ?_|refine zB ?_ ?_|intro _)
def kC(l:List UInt8)(n:Nat):Bool:=gI l (UInt8.ofNat n)
theorem FL(l:List UInt8)(n:Nat)(h:n<256):Z0 152 [.d (.str l),.d (.int .u8 n)] (.d (.bool (kC l n))):=by
 have:=J3 l (UInt8.ofNat n);rw[gL,cm h]at this;exact this
def Ao(l:List UInt8)(k:Nat):Int:=(List.range k).foldl (λt x=>bif kC l x then jF .or .u64 t (A_ .shl .u64 1 x)else t) 0
theorem vh(l:List UInt8)(k:Nat):Ao l (k+1)=bif kC l k then jF .or .u64 (Ao l k) (A_ .shl .u64 1 k)else Ao l k:=by simp[Ao,List.range_succ]
def tQ(l:List UInt8):Int:=Ao (eP l) 64
theorem yb(a:List UInt8)(ha:Ck a):Z0 113 [.d (.str a)] (.d (.int .u64 (tQ a))):=by
  have h1:=ko a ha
  unfold tQ
  generalize eP a=l at h1⊢
  refine sh0 Tryz.f113 ?_
  repeat' ((conv=>whnf);first|exact zf|refine zm ?_|refine zc h1 ?_|refine zB ?_ ?_|intro _)
  conv=>whnf
  refine bA [(0,.d (.str l))] (λk:Nat=>k<=64) (λk=>[(7,.d (.int .u8 k)),(3,.d (.int .u64 (Ao l k)))]) (λ_=>[]) (λk=>64-k) 0 (aY _) ?_ ?_ ?_ (λk hk=>?_)
  · exact zzz
  · exact zzz
  · exact rfl
  repeat' ((conv=>whnf);first|exact zf|refine zm ?_|refine zB ?_ ?_|intro _)
  refine aU (λhlt=>?_) (λhge=>?_)
  · have hlt:k<64:=by have:=θ hlt;omega
    have hr:=FL l k (by omega)
    have hs:=vh l k
    cases hb:kC l k with
    |true=>
      rw[hb]at hr hs
      simp only[δ]at hs
      repeat' ((conv=>whnf);first|exact zf|refine zm ?_|refine zc hr ?_|refine zi0 ?_|refine zB ?_ ?_|intro _)
      refine⟨k+1,hlt,aN hlt (aQ k),⟨ky rfl,ky (by rw[hs];rfl),ky rfl,trivial⟩,zzz,rfl⟩
    |false=>
      rw[hb]at hr hs
      simp only[ε]at hs
      repeat' ((conv=>whnf);first|exact zf|refine zm ?_|refine zc hr ?_|refine zi0 ?_|refine zB ?_ ?_|intro _)
      refine⟨k+1,hlt,aN hlt (aQ k),⟨ky rfl,ky (by rw[hs];rfl),ky rfl,trivial⟩,zzz,rfl⟩
  · have hge:k=64:=by have:=ι hge;omega
    subst hge
    repeat' ((conv=>whnf);first|exact zf|refine zm ?_|refine zB ?_ ?_|intro _)
def iE(a b:List UInt8):Bool:=jF .andNot .u64 (tQ a) (tQ b)==0
theorem mO(a b:List UInt8)(ha:Ck a)(hb:Ck b):Z0 72 [.d (.str a),.d (.str b)] (.d (.bool (iE a b))):=by
 have h1:=yb a ha;have h2:=yb b hb;refine sh0 Tryz.f72 ?_
 repeat' ((conv=>whnf);first|exact zf|refine zm ?_|refine zc h1 ?_|refine zc h2 ?_|refine zB ?_ ?_|intro _)
structure Lb where
  s:List UInt8
  i:List UInt8
  deriving DecidableEq
def lO(l:Lb):V:=.ag [.d (.str l.s),.d (.str l.i)]
def cC(l:Lb):Prop:=Ck l.s/\Ck l.i
def half(b:Bool)(l:Lb):List UInt8:=bif b then l.s else l.i
theorem Mv(b:Bool)(l:Lb):Z0 100 [.d (.bool b),lO l] (.d (.str (half b l))):=by
 cases b with
 |true=>
  refine sh0 Tryz.f100 ?_
  repeat' ((conv=>whnf);first|exact zf|refine zm ?_|refine zB ?_ ?_|intro _)
 |false=>
  refine sh0 Tryz.f100 ?_
  repeat' ((conv=>whnf);first|exact zf|refine zm ?_|refine zB ?_ ?_|intro _)
theorem Jc{b:Bool}{l:Lb}(h:cC l):Ck (half b l):=by cases b<;>first|exact h.1|exact h.2
theorem DC(b:Bool)(l:Lb)(hl:cC l):Z1 99 [.d (.bool b),.p 0 0] [.cells [.d (.str l.s),.d (.str l.i)]] λo h=>o=.ret (.d (.str (eP (half b l))))/\h=[.cells [.d (.str l.s),.d (.str l.i)]]:=by
 have h1:=Mv b l;have h2:=ko (half b l) (Jc hl);refine sh0 Tryz.f99 ?_
 repeat' ((conv=>whnf);first|exact zf|refine zm ?_|refine zc h1 ?_|refine zc h2 ?_|refine zB ?_ ?_|intro _)
theorem Uj{K:KT}(l:Lb)(a b:List UInt8)(h1:Z1 99 [.d (.bool true),.p 0 0] [.cells [.d (.str l.s),.d (.str l.i)]] λo h=>o=.ret (.d (.str a))/\h=[.cells [.d (.str l.s),.d (.str l.i)]])(h2:Z1 99 [.d (.bool false),.p 0 0] [.cells [.d (.str l.s),.d (.str l.i)]] λo h=>o=.ret (.d (.str b))/\h=[.cells [.d (.str l.s),.d (.str l.i)]])
  (hk:K (.ret (lO ⟨a,b⟩)) [.cells [.d (.str l.s),.d (.str l.i)]]):Z1 43 [.fc 99 [.p 0 0]] [.cells [.d (.str l.s),.d (.str l.i)]] K:=by
 refine sh0 Tryz.f43 ?_
 repeat' ((conv=>whnf);first|exact zf|refine zm ?_|refine zr0 ?_|refine zB ?_ ?_|intro _)
 refine h1.mono λo h' hh=>?_;obtain⟨rfl,rfl⟩:=hh
 repeat' ((conv=>whnf);first|exact zf|refine zm ?_|refine zr0 ?_|refine zB ?_ ?_|intro _)
 refine h2.mono λo h' hh=>?_;obtain⟨rfl,rfl⟩:=hh
 repeat' ((conv=>whnf);first|exact zf|refine zm ?_|refine zB ?_ ?_|intro _)
 exact hk
def gV(l:Lb):Lb:=⟨eP l.s,eP l.i⟩
theorem j_(l:Lb)(hl:cC l):Z0 58 [lO l] (lO (gV l)):=by
 refine sh0 Tryz.f58 ?_
 repeat' ((conv=>whnf);first|exact zf|refine zm ?_|refine zr0 ?_|refine zB ?_ ?_|intro _)
 refine Uj l _ _ (DC true l hl) (DC false l hl) ?_
 repeat' ((conv=>whnf);first|exact zf|refine zm ?_|refine zB ?_ ?_|intro _)
def pN(l:Lb):Bool:=eP l.s==l.s&&eP l.i==l.i
theorem i_(l:Lb)(hl:cC l):Z0 29 [lO l] (.d (.bool (pN l))):=by
 have h1:=j_ l hl;refine s29.go (keep:=false) rfl ?_
 repeat' ((conv=>whnf);first|exact zf|refine zm ?_|refine zc h1 ?_|refine zB ?_ ?_|intro _)
 all_goals
  refine cD ?_;show V.d (.bool (eP l.s==l.s&&(eP l.i==l.i&&true)))=_;rw[eA];rfl
theorem Ul{K:KT}(l m:Lb)(a b:List UInt8)(h1:Z1 44 [.d (.bool true),.p 0 0,.p 1 0] [.cells [.d (.str l.s),.d (.str l.i)],.cells [.d (.str m.s),.d (.str m.i)]] λo h=>o=.ret (.d (.str a))/\h=[.cells [.d (.str l.s),.d (.str l.i)],.cells [.d (.str m.s),.d (.str m.i)]])(h2:Z1 44 [.d (.bool false),.p 0 0,.p 1 0] [.cells [.d (.str l.s),.d (.str l.i)],.cells [.d (.str m.s),.d (.str m.i)]] λo h=>o=.ret (.d (.str b))/\h=[.cells [.d (.str l.s),.d (.str l.i)],.cells [.d (.str m.s),.d (.str m.i)]])
  (hk:K (.ret (lO ⟨a,b⟩)) [.cells [.d (.str l.s),.d (.str l.i)],.cells [.d (.str m.s),.d (.str m.i)]]):Z1 43 [.fc 44 [.p 0 0,.p 1 0]] [.cells [.d (.str l.s),.d (.str l.i)],.cells [.d (.str m.s),.d (.str m.i)]] K:=by
 refine sh0 Tryz.f43 ?_
 repeat' ((conv=>whnf);first|exact zf|refine zm ?_|refine zr0 ?_|refine zB ?_ ?_|intro _)
 refine h1.mono λo h' hh=>?_;obtain⟨rfl,rfl⟩:=hh
 repeat' ((conv=>whnf);first|exact zf|refine zm ?_|refine zr0 ?_|refine zB ?_ ?_|intro _)
 refine h2.mono λo h' hh=>?_;obtain⟨rfl,rfl⟩:=hh
 repeat' ((conv=>whnf);first|exact zf|refine zm ?_|refine zB ?_ ?_|intro _)
 exact hk
theorem Uk{K:KT}(l m:Lb)(a b:List UInt8)(h1:Z1 304 [.d (.bool true),.p 0 0,.p 1 0] [.cells [.d (.str l.s),.d (.str l.i)],.cells [.d (.str m.s),.d (.str m.i)]] λo h=>o=.ret (.d (.str a))/\h=[.cells [.d (.str l.s),.d (.str l.i)],.cells [.d (.str m.s),.d (.str m.i)]])(h2:Z1 304 [.d (.bool false),.p 0 0,.p 1 0] [.cells [.d (.str l.s),.d (.str l.i)],.cells [.d (.str m.s),.d (.str m.i)]] λo h=>o=.ret (.d (.str b))/\h=[.cells [.d (.str l.s),.d (.str l.i)],.cells [.d (.str m.s),.d (.str m.i)]])
  (hk:K (.ret (lO ⟨a,b⟩)) [.cells [.d (.str l.s),.d (.str l.i)],.cells [.d (.str m.s),.d (.str m.i)]]):Z1 43 [.fc 304 [.p 0 0,.p 1 0]] [.cells [.d (.str l.s),.d (.str l.i)],.cells [.d (.str m.s),.d (.str m.i)]] K:=by
 refine sh0 Tryz.f43 ?_
 repeat' ((conv=>whnf);first|exact zf|refine zm ?_|refine zr0 ?_|refine zB ?_ ?_|intro _)
 refine h1.mono λo h' hh=>?_;obtain⟨rfl,rfl⟩:=hh
 repeat' ((conv=>whnf);first|exact zf|refine zm ?_|refine zr0 ?_|refine zB ?_ ?_|intro _)
 refine h2.mono λo h' hh=>?_;obtain⟨rfl,rfl⟩:=hh
 repeat' ((conv=>whnf);first|exact zf|refine zm ?_|refine zB ?_ ?_|intro _)
 exact hk
theorem DX(b:Bool)(l m:Lb)(hl:cC l)(hm:cC m):Z1 44 [.d (.bool b),.p 0 0,.p 1 0] [.cells [.d (.str l.s),.d (.str l.i)],.cells [.d (.str m.s),.d (.str m.i)]] λo h=>o=.ret (.d (.str (bif b then pz l.s m.s else Kz l.i m.i)))/\h=[.cells [.d (.str l.s),.d (.str l.i)],.cells [.d (.str m.s),.d (.str m.i)]]:=by
 have h1:=yE l.s m.s hl.1 hm.1;have h2:=PV l.i m.i hl.2 hm.2;cases b with
 |true=>
  refine sh0 Tryz.f44 ?_
  repeat' ((conv=>whnf);first|exact zf|refine zm ?_|refine zc h1 ?_|refine zB ?_ ?_|intro _)
 |false=>
  refine sh0 Tryz.f44 ?_
  repeat' ((conv=>whnf);first|exact zf|refine zm ?_|refine zc h2 ?_|refine zB ?_ ?_|intro _)
theorem DK(b:Bool)(l m:Lb)(hl:cC l)(hm:cC m):Z1 304 [.d (.bool b),.p 0 0,.p 1 0] [.cells [.d (.str l.s),.d (.str l.i)],.cells [.d (.str m.s),.d (.str m.i)]] λo h=>o=.ret (.d (.str (bif b then Kz l.s m.s else pz l.i m.i)))/\h=[.cells [.d (.str l.s),.d (.str l.i)],.cells [.d (.str m.s),.d (.str m.i)]]:=by
 have h1:=PV l.s m.s hl.1 hm.1;have h2:=yE l.i m.i hl.2 hm.2;cases b with
 |true=>
  refine sh0 Tryz.f304 ?_
  repeat' ((conv=>whnf);first|exact zf|refine zm ?_|refine zc h1 ?_|refine zB ?_ ?_|intro _)
 |false=>
  refine sh0 Tryz.f304 ?_
  repeat' ((conv=>whnf);first|exact zf|refine zm ?_|refine zc h2 ?_|refine zB ?_ ?_|intro _)
def dS(l m:Lb):Lb:=⟨pz l.s m.s,Kz l.i m.i⟩
def nv(l m:Lb):Lb:=⟨Kz l.s m.s,pz l.i m.i⟩
theorem uT(l m:Lb)(hl:cC l)(hm:cC m):Z0 22 [lO l,lO m] (lO (dS l m)):=by
 refine sh0 Tryz.f22 ?_
 repeat' ((conv=>whnf);first|exact zf|refine zm ?_|refine zr0 ?_|refine zB ?_ ?_|intro _)
 refine Ul l m _ _ (DX true l m hl hm) (DX false l m hl hm) ?_
 repeat' ((conv=>whnf);first|exact zf|refine zm ?_|refine zB ?_ ?_|intro _)
theorem JC(l m:Lb)(hl:cC l)(hm:cC m):Z0 255 [lO l,lO m] (lO (nv l m)):=by
 refine sh0 Tryz.f255 ?_
 repeat' ((conv=>whnf);first|exact zf|refine zm ?_|refine zr0 ?_|refine zB ?_ ?_|intro _)
 refine Uk l m _ _ (DK true l m hl hm) (DK false l m hl hm) ?_
 repeat' ((conv=>whnf);first|exact zf|refine zm ?_|refine zB ?_ ?_|intro _)
def bH(l m:Lb):Bool:=iE m.s l.s&&iE l.i m.i
theorem gi(l m:Lb)(hl:cC l)(hm:cC m):Z0 33 [lO l,lO m] (.d (.bool (bH l m))):=by
 have h1:=mO m.s l.s hm.1 hl.1;have h2:=mO l.i m.i hl.2 hm.2;refine sh0 Tryz.f33 ?_;unfold bH;cases hb:iE m.s l.s with
 |true=>
  rw[hb]at h1
  repeat' ((conv=>whnf);first|exact zf|refine zm ?_|refine zc h1 ?_|refine zc h2 ?_|refine zB ?_ ?_|intro _)
 |false=>
  rw[hb]at h1
  repeat' ((conv=>whnf);first|exact zf|refine zm ?_|refine zc h1 ?_|refine zB ?_ ?_|intro _)
structure Gs where
  cur:Lb
  gT:Lb
def GC(s:Gs):V:=.ag [.d (.str s.cur.s),.d (.str s.cur.i),.d (.str s.gT.s),.d (.str s.gT.i)]
def sJ(l:Lb):List D:=[.str l.s,.str l.i]
def sK(s:Gs):List D:=[.str s.cur.s,.str s.cur.i,.str s.gT.s,.str s.gT.i]
def jl(s:Gs):Prop:=cC s.cur/\cC s.gT
theorem mU(s:Gs)(l:Lb):Z0 307 [GC s,lO l] (.ag [.d (.fc 338 [.pt (sJ l) 0,.pt (sK s) 0]),.d (.int .i64 (-4))]):=by
 refine Ha (rows:=[sJ l,sK s]) (by decide) ?_;refine sh0 Tryz.f307 ?_
 repeat' ((conv=>whnf);first|exact zf|refine zm ?_|refine zB ?_ ?_|intro _)
theorem vC(s:Gs)(l:Lb):Z0 308 [GC s,lO l] (.ag [.d (.fc 339 [.pt (sK s) 0,.pt (sJ l) 0]),.d (.int .i64 (-3))]):=by
 refine Ha (rows:=[sK s,sJ l]) (by decide) ?_;refine sh0 Tryz.f308 ?_
 repeat' ((conv=>whnf);first|exact zf|refine zm ?_|refine zB ?_ ?_|intro _)
theorem CJ(s:Gs)(l:Lb)(hs:jl s)(hl:cC l):Z0 338 [.e (sJ l) 0,.e (sK s) 0] (.d (.bool (bH l s.gT))):=by
 have h:=gi l s.gT hl hs.2;refine sh0 Tryz.f338 ?_
 repeat' ((conv=>whnf);first|exact zf|refine zm ?_|refine zc h ?_|refine zB ?_ ?_|intro _)
theorem Kq(s:Gs)(l:Lb)(hs:jl s)(hl:cC l):Z0 339 [.e (sK s) 0,.e (sJ l) 0] (.d (.bool (bH s.cur l))):=by
 have h:=gi s.cur l hs.1 hl;refine sh0 Tryz.f339 ?_
 repeat' ((conv=>whnf);first|exact zf|refine zm ?_|refine zc h ?_|refine zB ?_ ?_|intro _)
structure Mu where
  F:Nat
  cs:List D
  so:Bool
  ex:Int
def Mu.row(m:Mu):List D:=[.fc m.F m.cs,.int .i64 m.ex]
def firstM:List Mu->Int
 |[]=>0
 |m::r=>bif m.so then firstM r else m.ex
theorem oI:∀{i:Nat}{l:List Mu},(∀m∈l.take i,m.so=true)->firstM l=firstM (l.drop i)
 |0,_,_=>rfl
 |i+1,[],_=>rfl
 |i+1,m::l,h=>by
  rw[firstM,h m (by simp),jJ,δ];exact oI λx hx=>h x (by simp[hx])
theorem oK(l:List Mu)(hF:∀m∈l,((∃a b,(m.F=338\/m.F=339)/\m.cs=[.pt a 0,.pt b 0])\/∃a b c,(m.F=314\/m.F=316)/\m.cs=[.pt a 0,.pt b 0,.pt c 0])/\Z0 m.F (m.cs.map T8) (.d (.bool m.so))) :
  Z0 306 [.d (.sl 2 (l.map Mu.row))] (.d (.int .i64 (firstM l))):=by
 have hl:(l.map Mu.row).length=l.length:=aI _;refine sh0 Tryz.f306 ?_
 repeat' ((conv=>whnf);first|exact zf|refine zm ?_|refine zB ?_ ?_|intro _)
 conv=>whnf
 refine bA [(0,.d (.sl 2 (l.map Mu.row))),(5,.d (.sl 2 (l.map Mu.row))),(6,.d (.int .i64 (l.map Mu.row).length))] (λi:Nat=>i<=l.length/\∀m∈l.take i,m.so=true) (λi=>[(7,.d (.int .i64 i))]) (λ_=>[]) (λi=>l.length-i) 0 ⟨aY _,λ_ h=>nomatch h⟩ ?_ ?_ ?_ (λi hi=>?_)
 .exact zzz
 .exact zzz
 .exact rfl
 repeat' ((conv=>whnf);first|exact zf|refine zm ?_|refine zB ?_ ?_|intro _)
 refine aU (λhlt=>?_) (λhge=>?_)
 .have hlt:i<l.length:=by rw[<-hl];simpa using hlt
  obtain⟨m,hm⟩:∃m,l[i]?=some m:=⟨_,aA hlt⟩
  obtain⟨hf,hs⟩:=hF m (aG hm);have hfm:=oI hi.2;have hdr:l.drop i=m::l.drop (i+1):=by
   rw[bC hlt];rw[aA hlt]at hm;rw[af hm]
  rw[hdr]at hfm;have htk:l.take (i+1)=l.take i++[m]:=by rw[bV,hm];rfl
  obtain⟨F,cs,so,ex⟩:=m
  repeat' ((conv=>whnf);first|exact zf|refine zm ?_|refine zB ?_ ?_|intro _)
  refine⟨[.fc F cs,.int .i64 ex],⟨by omega,by simp[hm,Mu.row],rfl⟩,?_⟩;rcases hf with⟨a,b,hf|hf,hc⟩|⟨a,b,c,hf|hf,hc⟩
  .simp only at hf hc;subst hf hc;dsimp only at hs;cases so with
   |true=>
    repeat' ((conv=>whnf);first|exact zf|refine zm ?_|refine zc hs ?_|refine zB ?_ ?_|intro _)
    refine⟨i+1,⟨hlt,?_⟩,aN hlt (aQ i),zzz,zzz,rfl⟩;rw[htk];intro x hx;exact(aT.1 hx).elim (hi.2 x) λh=>by rw[aF.1 h]
   |false=>
    repeat' ((conv=>whnf);first|exact zf|refine zm ?_|refine zc hs ?_|refine zB ?_ ?_|intro _)
    exact cD (κ (λx=>V.d (D.int .i64 x)) hfm.symm)
  .simp only at hf hc;subst hf hc;dsimp only at hs;cases so with
   |true=>
    repeat' ((conv=>whnf);first|exact zf|refine zm ?_|refine zc hs ?_|refine zB ?_ ?_|intro _)
    refine⟨i+1,⟨hlt,?_⟩,aN hlt (aQ i),zzz,zzz,rfl⟩;rw[htk];intro x hx;exact(aT.1 hx).elim (hi.2 x) λh=>by rw[aF.1 h]
   |false=>
    repeat' ((conv=>whnf);first|exact zf|refine zm ?_|refine zc hs ?_|refine zB ?_ ?_|intro _)
    exact cD (κ (λx=>V.d (D.int .i64 x)) hfm.symm)
  .simp only at hf hc;subst hf hc;dsimp only at hs;cases so with
   |true=>
    repeat' ((conv=>whnf);first|exact zf|refine zm ?_|refine zc hs ?_|refine zB ?_ ?_|intro _)
    refine⟨i+1,⟨hlt,?_⟩,aN hlt (aQ i),zzz,zzz,rfl⟩;rw[htk];intro x hx;exact(aT.1 hx).elim (hi.2 x) λh=>by rw[aF.1 h]
   |false=>
    repeat' ((conv=>whnf);first|exact zf|refine zm ?_|refine zc hs ?_|refine zB ?_ ?_|intro _)
    exact cD (κ (λx=>V.d (D.int .i64 x)) hfm.symm)
  .simp only at hf hc;subst hf hc;dsimp only at hs;cases so with
   |true=>
    repeat' ((conv=>whnf);first|exact zf|refine zm ?_|refine zc hs ?_|refine zB ?_ ?_|intro _)
    refine⟨i+1,⟨hlt,?_⟩,aN hlt (aQ i),zzz,zzz,rfl⟩;rw[htk];intro x hx;exact(aT.1 hx).elim (hi.2 x) λh=>by rw[aF.1 h]
   |false=>
    repeat' ((conv=>whnf);first|exact zf|refine zm ?_|refine zc hs ?_|refine zB ?_ ?_|intro _)
    exact cD (κ (λx=>V.d (D.int .i64 x)) hfm.symm)
 .have hge:i=l.length:=by
   have:¬i<l.length:=by rw[<-hl];simpa using hge
   omega
  have hfm:=oI hi.2;rw[hge,du]at hfm;rw[hfm]
  repeat' ((conv=>whnf);first|exact zf|refine zm ?_|refine zB ?_ ?_|intro _)
def v_(s:Gs)(l:Lb):Mu:=⟨338,[.pt (sJ l) 0,.pt (sK s) 0],bH l s.gT,-4⟩
def zQ(s:Gs)(l:Lb):Mu:=⟨339,[.pt (sK s) 0,.pt (sJ l) 0],bH s.cur l,-3⟩
theorem xW(s:Gs)(l:Lb)(hs:jl s)(hl:cC l):((∃a b,((v_ s l).F=338\/(v_ s l).F=339)/\(v_ s l).cs=[.pt a 0,.pt b 0])\/∃a b c,((v_ s l).F=314\/(v_ s l).F=316)/\(v_ s l).cs=[.pt a 0,.pt b 0,.pt c 0])/\Z0 (v_ s l).F ((v_ s l).cs.map T8) (.d (.bool (v_ s l).so)):=
 ⟨.inl ⟨_,_,.inl rfl,rfl⟩,CJ s l hs hl⟩
theorem B2(s:Gs)(l:Lb)(hs:jl s)(hl:cC l):((∃a b,((zQ s l).F=338\/(zQ s l).F=339)/\(zQ s l).cs=[.pt a 0,.pt b 0])\/∃a b c,((zQ s l).F=314\/(zQ s l).F=316)/\(zQ s l).cs=[.pt a 0,.pt b 0,.pt c 0])/\Z0 (zQ s l).F ((zQ s l).cs.map T8) (.d (.bool (zQ s l).so)):=
 ⟨.inl ⟨_,_,.inr rfl,rfl⟩,Kq s l hs hl⟩
def b5(s:Gs)(l:Lb):Int:=firstM [zQ s l,v_ s l]
theorem gr(s:Gs)(l:Lb)(hs:jl s)(hl:cC l):Z0 268 [GC s,lO l] (.d (.int .i64 (b5 s l))):=by
 have h1:=vC s l;have h2:=mU s l;have h3:=oK [zQ s l,v_ s l] (by
  intro m hm;simp only[ah,eN,or_false]at hm;rcases hm with rfl|rfl
  .exact B2 s l hs hl
  .exact xW s l hs hl)
 refine sh0 Tryz.f268 ?_
 repeat' ((conv=>whnf);first|exact zf|refine zm ?_|refine zc h1 ?_|refine zc h2 ?_|refine zc h3 ?_|refine zB ?_ ?_|intro _)
def dY(s:Gs)(l:Lb):Int:=firstM [v_ s (dS s.cur l)]
def cj(s:Gs)(l:Lb):Gs:=bif dY s l==0 then⟨dS s.cur l,s.gT⟩else s
def XK(s:Gs)(e:Int):V:=.tu [GC s,.d (.int .i64 e)]
theorem ya(s:Gs)(l:Lb)(hs:jl s)(hl:cC l)(hj:cC (dS s.cur l)):Z0 305 [GC s,lO l] (XK (cj s l) (dY s l)):=by
 have h1:=uT s.cur l hs.1 hl;have h2:=mU s (dS s.cur l);have h3:=oK [v_ s (dS s.cur l)] (by
  intro m hm;rw[aF.1 hm];exact xW s _ hs hj)
 have he:firstM [v_ s (dS s.cur l)]=dY s l:=rfl;rw[he]at h3;unfold cj;cases hb:dY s l==0 with
 |true=>
  rw[eq_of_beq hb]at h3⊢;refine sh0 Tryz.f305 ?_
  repeat' ((conv=>whnf);first|exact zf|refine zm ?_|refine zc h1 ?_|refine zc h2 ?_|refine zc h3 ?_|refine zB ?_ ?_|intro _)
 |false=>
  refine sh0 Tryz.f305 ?_
  repeat' ((conv=>whnf);first|exact zf|refine zm ?_|refine zc h1 ?_|refine zc h2 ?_|refine zc h3 ?_|refine zB ?_ ?_|refine zt ?_|refine zu ?_|intro _)
def ur(s:Gs)(l:Lb):Gs:=bif b5 s l==0 then⟨gV l,s.gT⟩else s
theorem D_(s:Gs)(l:Lb)(hs:jl s)(hl:cC l):Z0 309 [GC s,lO l] (XK (ur s l) (b5 s l)):=by
 have h1:=gr s l hs hl;have h2:=j_ l hl;unfold ur;cases hb:b5 s l==0 with
 |true=>
  rw[eq_of_beq hb]at h1⊢;refine sh0 Tryz.f309 ?_
  repeat' ((conv=>whnf);first|exact zf|refine zm ?_|refine zc h1 ?_|refine zc h2 ?_|refine zB ?_ ?_|intro _)
 |false=>
  refine sh0 Tryz.f309 ?_
  repeat' ((conv=>whnf);first|exact zf|refine zm ?_|refine zc h1 ?_|refine zc h2 ?_|refine zB ?_ ?_|refine zt ?_|refine zu ?_|intro _)
def j2(s:Gs)(l:Lb):Int:=firstM [v_ s l,zQ s l]
def uE(s:Gs)(l:Lb):Gs:=bif j2 s l==0 then⟨s.cur,gV l⟩else s
theorem JD(s:Gs)(l:Lb)(hs:jl s)(hl:cC l):Z0 261 [GC s,lO l] (XK (uE s l) (j2 s l)):=by
 have h1:=vC s l;have h2:=mU s l;have h3:=oK [v_ s l,zQ s l] (by
  intro m hm;simp only[ah,eN,or_false]at hm;rcases hm with rfl|rfl
  .exact xW s l hs hl
  .exact B2 s l hs hl)
 have h4:=j_ l hl;have he:firstM [v_ s l,zQ s l]=j2 s l:=rfl;rw[he]at h3;unfold uE;cases hb:j2 s l==0 with
 |true=>
  rw[eq_of_beq hb]at h3⊢;refine sh0 Tryz.f261 ?_
  repeat' ((conv=>whnf);first|exact zf|refine zm ?_|refine zc h1 ?_|refine zc h2 ?_|refine zc h3 ?_|refine zc h4 ?_|refine zB ?_ ?_|intro _)
 |false=>
  refine sh0 Tryz.f261 ?_
  repeat' ((conv=>whnf);first|exact zf|refine zm ?_|refine zc h1 ?_|refine zc h2 ?_|refine zc h3 ?_|refine zc h4 ?_|refine zB ?_ ?_|refine zt ?_|refine zu ?_|intro _)
def C_(p:Int)(i:Nat):List UInt8:=((List.range i).filter λk=>zn (2 ^ k) p).map λk=>UInt8.ofNat (2 ^ k)
def MY(p:Int):List UInt8:=C_ p 6
theorem zK(p:Int)(i:Nat):C_ p (i+1)=bif zn (2 ^ i) p then C_ p i++[UInt8.ofNat (2 ^ i)]else C_ p i:=by
 unfold C_;rw[List.range_succ,List.filter_append];cases h:zn (2 ^ i) p<;>simp[h]
theorem xR(p:Int):∀i,(C_ p i).length<=i
 |0=>by simp[C_]
 |i+1=>by
  have:=xR p i;rw[zK];cases zn (2 ^ i) p<;>simp<;>omega
theorem Lq:∀i:Nat,i<6->A_ .shl .u8 1 (i:Int)=2 ^ i/\((UInt8.ofNat (2 ^ i)).toNat:Int)=2 ^ i:=by decide
theorem U5(p:Int):Z0 341 [.d (.int .u8 p)] (.d (.str (MY p))):=by
 refine sh0 Tryz.f341 ?_
 repeat' ((conv=>whnf);first|exact zf|refine zm ?_|refine zB ?_ ?_|intro _)
 conv=>whnf
 refine bA [(0,.d (.int .u8 p)),(3,.os 0)] (λi:Nat=>i<=6) (λi=>[(6,.d (.int .i64 i))]) (λi=>[.rows 1 (gy (C_ p i))]) (λi=>6-i) 0 (aY _) ?_ ?_ ?_ (λi hi=>?_)
 .exact zzz
 .exact⟨aV rfl,trivial⟩
 .exact zx0
 repeat' ((conv=>whnf);first|exact zf|refine zm ?_|refine zB ?_ ?_|intro _)
 refine aU (λhlt=>?_) (λhge=>?_)
 .have hlt:i<6:=by have:=θ hlt;omega
  have hs:=zK p i;have hlen:=xR p i;have hrl:(gy (C_ p i)).length=(C_ p i).length:=aI _;obtain⟨e1,e2⟩:=Lq i hlt;have hp:Z0 218 [.d (.int .u8 (A_ .shl .u8 1 (i:Int))),.d (.int .u8 p)] (.d (.bool (zn (2 ^ i) p))):=by
   have:=P9 (A_ .shl .u8 1 (i:Int)) p;rwa[show zn (A_ .shl .u8 1 (i:Int)) p=zn (2 ^ i) p by rw[e1]]at this
  have hr:gy (C_ p i++[UInt8.ofNat (2 ^ i)])=gy (C_ p i)++[[D.int .u8 (A_ .shl .u8 1 (i:Int))]]:=by
   rw[e1,<-e2];simp[gy]
  cases hb:zn (2 ^ i) p with
  |true=>
   rw[hb]at hp hs
   repeat' ((conv=>whnf);first|exact zf|refine zm ?_|refine zc hp ?_|refine zi0 ?_|refine(And.intro ⟨rfl,rfl,by simp only[aZ,ak];omega,by simp only[aZ,ak];omega⟩ ?_)|refine zB ?_ ?_|intro _)
   exact⟨i+1,hlt,aN hlt (aQ i),zzz,⟨aV (by rw[hs,δ,hr];rfl),trivial⟩,rfl⟩
  |false=>
   rw[hb]at hp hs
   repeat' ((conv=>whnf);first|exact zf|refine zm ?_|refine zc hp ?_|refine zi0 ?_|refine zB ?_ ?_|intro _)
   exact⟨i+1,hlt,aN hlt (aQ i),zzz,⟨aV (by rw[hs];rfl),trivial⟩,rfl⟩
 .have hge:i=6:=by have:=ι hge;omega
  subst hge
  conv=>whnf
  refine⟨C_ p 6,rfl,?_⟩
  repeat' ((conv=>whnf);first|exact zf|refine zm ?_|refine zB ?_ ?_|intro _)
theorem Ej(p:Int):∀i,i<=6->Ck (C_ p i):=λi hi=>aX (xR p i) (by omega)
def fk(a b:Lb)(p:Int):Bool:=iE (pz b.s (MY p)) a.s&&iE (pz a.i (MY p)) b.i
theorem Cj(a b:List UInt8):Ck (pz a b):=gx _
theorem vt(a b:Lb)(p:Int)(ha:cC a)(hb:cC b):Z0 315 [lO a,lO b,.d (.int .u8 p)] (.d (.bool (fk a b p))):=by
 have h0:=U5 p;have hp:Ck (MY p):=Ej p 6 (aL _);have h1:=yE b.s (MY p) hb.1 hp;have h2:=mO (pz b.s (MY p)) a.s (Cj _ _) ha.1;have h3:=yE a.i (MY p) ha.2 hp;have h4:=mO (pz a.i (MY p)) b.i (Cj _ _) hb.2;unfold fk;cases hb:iE (pz b.s (MY p)) a.s with
 |true=>
  rw[hb]at h2;refine sh0 Tryz.f315 ?_
  repeat' ((conv=>whnf);first|exact zf|refine zm ?_|refine zc h0 ?_|refine zc h1 ?_|refine zc h2 ?_|refine zc h3 ?_|refine zc h4 ?_|refine zB ?_ ?_|intro _)
 |false=>
  rw[hb]at h2;refine sh0 Tryz.f315 ?_
  repeat' ((conv=>whnf);first|exact zf|refine zm ?_|refine zc h0 ?_|refine zc h1 ?_|refine zc h2 ?_|refine zB ?_ ?_|intro _)
set_option maxHeartbeats 4000000
section
variable{keep:Bool}{vs:List V}{h:H}{K:KT}
def c23:C:=.seq (.dw [iS 0 (.mv (.k (.d (.np))))]) (.seq (.dw [iS 1 (.mm 1),iS 2 (.mm 3),iS 3 (.bd [.d (.nm),.d (.nm)] [(0,1,.s 1),(1,1,.s 2)]),iS 4 (.bx (.s 3)),iM 0 4]) (.ret))
noncomputable def s23:=sf (N:=23) (n:=5) (c:=c23) (r:=[.s 0]) Tryz.f23
def c25:C:=.seq (.dw [iS 5 (.bx (.s 2)),iS 6 (.mv (.k iz))]) (.seq (.seq (.dw [iM 12 1,iS 13 (.cf 48 [.s 12]),iS 14 (.un .not (.s 13)),iM 15 14,iG 16 (.fa (.s 5) 0) 15 false,iG 17 (.ld (.s 16) none) 15 false,iG 18 (.bin .lss (.s 17) (.k (.d (.int .i64 3)))) 15 false,iS 19 (.pk (.s 15) (.k (.d (.bool true))) (.s 18)),iM 20 19,iG 21 (.fa (.s 5) 0) 20 false,iG 22 (.ld (.s 21) none) 20 false,iG 23 (.bin .gtr (.s 22) (.k (.d (.int .i64 7)))) 20 false,iS 24 (.pk (.s 20) (.k (.d (.bool true))) (.s 23)),iM 25 24,iG 26 (.fa (.s 5) 1) 25 false,iG 27 (.ld (.s 26) (some 2)) 25 false,iG 28 (.cf 29 [.s 27]) 25 false,iG 29 (.un .not (.s 28)) 25 false,iS 30 (.pk (.s 25) (.k (.d (.bool true))) (.s 29))]) (.cond (.s 30) (.seq (.dw [iS 6 (.mv (.k (.d (.int .i64 1))))]) (.ret)) (.skip))) (.seq (.seq (.dw [iM 32 0,iC 33 32,iF 34 33 0,iL 35 34,iM 36 1,iS 37 (.ml (.s 35) (.s 36) [2] (.ag [iz,sz,sz,iz,iz,sz,sz,sz,.d (.bool false),.d (.bool false),.d (.bool false),iz,iz,sz,sz,sz,.nl 7,iz,.d (.int .u8 0)]) true),iM 31 37,iS 38 (.ex (.s 31) 0),iS 39 (.ex (.s 31) 1),iS 7 (.al [iz,sz,sz,iz,iz,sz,sz,sz,.d (.bool false),.d (.bool false),.d (.bool false),iz,iz,sz,sz,sz,.nl 7,iz,.d (.int .u8 0)]),iN (.st (.s 7) (.s 38) 19),iM 8 39]) (.seq (.dw [iM 40 8]) (.cond (.s 40) (.seq (.dw [iS 6 (.mv (.k (.d (.int .i64 12))))]) (.ret)) (.skip)))) (.seq (.y_ [(iM 41 0,[]),(iC 42 41,[0]),(iF 43 42 0,[1,0]),(iL 44 43,[2,1,0]),(iM 45 1,[]),(iD 46 5 19,[]),(iS 47 (.cf 49 [.s 46]),[5])] [iN (.mu (.s 44) (.s 45) (.s 47) [2])]) (.seq (.y_ [(iM 48 0,[]),(iC 49 48,[0]),(iF 50 49 1,[1,0]),(iL 51 50,[2,1,0]),(iF 52 5 1,[]),(iD 53 52 2,[4])] [iS 54 (.ml (.s 51) (.s 53) [9] (.nl 1) false),iM 9 54]) (.seq (.dw [iM 56 9,iM 57 1,iS 58 (.cf 50 [.s 56,.s 57,.k (.d (.fn 51))]),iM 55 58,iS 59 (.ex (.s 55) 0),iS 60 (.ex (.s 55) 1),iM 10 59,iM 11 60]) (.seq (.y_ [(iM 61 0,[]),(iC 62 61,[0]),(iF 63 62 1,[1,0]),(iL 64 63,[2,1,0]),(iF 65 5 1,[]),(iD 66 65 2,[4]),(iM 67 9,[]),(iM 68 10,[]),(iM 69 1,[]),(iS 70 (.bs 1 [sz] 1 [(0,.s 69)]),[8]),(iS 71 (.cf 52 [.s 67,.s 68,.s 70]),[6,7,9,8])] [iN (.mu (.s 64) (.s 66) (.s 71) [9])]) (.seq (.dw [iS 6 (.mv (.k iz))]) (.ret))))))))
noncomputable def s25:=sf (N:=25) (n:=72) (c:=c25) (r:=[.s 6]) Tryz.f25
def c39:C:=.seq (.dw [iS 3 (.bx (.s 1)),iS 4 (.mv (.k (.d (.np))))]) (.seq (.y_ [(iM 10 0,[]),(iC 11 10,[0]),(iF 12 11 0,[1,0]),(iL 13 12,[2,1,0]),(iS 14 (.cf 73 [.s 13]),[3,2,1,0]),(iM 15 0,[]),(iC 16 15,[5]),(iF 17 16 1,[6,5]),(iL 18 17,[7,6,5])] [iS 19 (.cf 74 [.s 18]),iS 20 (.bd [.d (.nm),.d (.nm)] [(0,1,.s 14),(1,1,.s 19)]),iS 21 (.bx (.s 20)),iM 5 21]) (.seq (.seq (.dw [iM 22 0,iC 23 22,iF 24 23 1,iL 25 24,iS 26 (.rg (.s 25))]) (.block 0 (.loop (.seq (.dw [iS 27 (.nx (.s 26)),iS 28 (.ex (.s 27) 0)]) (.seq (.cond (.s 28) (.skip) (.exit 0)) (.block 1 (.seq (.dw [iS 29 (.en (.s 26)),iS 30 (.ex (.s 29) 0),iS 31 (.ex (.s 29) 1),iS 6 (.al [sz,sz]),iN (.st (.s 6) (.s 30) 2),iM 7 31]) (.seq (.seq (.dw [iD 32 6 2,iD 33 3 2,iS 34 (.cf 33 [.s 32,.s 33])]) (.cond (.s 34) (.seq (.y_ [(iM 35 5,[]),(iC 36 35,[0]),(iF 37 36 1,[1,0]),(iL 38 37,[2,1,0]),(iD 39 6 2,[]),(iM 40 7,[]),(iS 41 (.cf 75 [.s 40]),[5])] [iN (.mu (.s 38) (.s 39) (.s 41) [9])]) (.exit 1)) (.skip))) (.seq (.seq (.dw [iM 42 7,iS 43 (.ln (.s 42)),iS 44 (.mv (.k iz))]) (.block 2 (.loop (.seq (.dw [iS 45 (.bin .lss (.s 44) (.s 43))]) (.seq (.cond (.s 45) (.skip) (.exit 2)) (.seq (.block 3 (.seq (.dw [iS 46 (.ia (.s 42) (.s 44) 1),iL 47 46,iM 9 47]) (.dw [iM 48 5,iC 49 48,iF 50 49 0,iL 51 50,iM 52 9,iN (.md (.s 51) (.s 52) [2])]))) (.dw [iS 53 (.bin .add (.s 44) (.k (.d (.int .i64 1)))),iM 44 53]))))))) (.y_ [(iM 54 5,[]),(iC 55 54,[0]),(iF 56 55 1,[1,0]),(iL 57 56,[2,1,0]),(iD 58 6 2,[])] [iN (.md (.s 57) (.s 58) [9])])))))))))) (.seq (.dw [iM 59 5,iM 4 59]) (.ret))))
noncomputable def s39:=sf (N:=39) (n:=60) (c:=c39) (r:=[.s 4]) Tryz.f39
def c135:C:=.seq (.dw [iS 5 (.bx (.s 2)),iS 6 (.mv (.k iz))]) (.seq (.dw [iM 10 0,iC 11 10,iF 12 11 0,iL 13 12,iM 14 1,iS 15 (.ml (.s 13) (.s 14) [2] (.ag [iz,sz,sz,iz,iz,sz,sz,sz,.d (.bool false),.d (.bool false),.d (.bool false),iz,iz,sz,sz,sz,.nl 7,iz,.d (.int .u8 0)]) true),iM 9 15,iS 16 (.ex (.s 9) 0),iS 17 (.ex (.s 9) 1),iS 7 (.al [iz,sz,sz,iz,iz,sz,sz,sz,.d (.bool false),.d (.bool false),.d (.bool false),iz,iz,sz,sz,sz,.nl 7,iz,.d (.int .u8 0)]),iN (.st (.s 7) (.s 16) 19),iM 8 17]) (.seq (.seq (.dw [iM 18 8,iS 19 (.un .not (.s 18))]) (.cond (.s 19) (.seq (.dw [iS 6 (.mv (.k (.d (.int .i64 10))))]) (.ret)) (.skip))) (.seq (.seq (.dw [iF 20 7 0,iL 21 20,iF 22 5 0,iL 23 22,iS 24 (.bin .neq (.s 21) (.s 23)),iM 25 24,iG 26 (.fa (.s 7) 1) 25 false,iG 27 (.ld (.s 26) (some 2)) 25 false,iG 28 (.fa (.s 5) 1) 25 false,iG 29 (.ld (.s 28) (some 2)) 25 false,iG 30 (.eq true true [2,2] (.s 27) (.s 29)) 25 false,iS 31 (.pk (.s 25) (.k (.d (.bool true))) (.s 30))]) (.cond (.s 31) (.seq (.dw [iS 6 (.mv (.k (.d (.int .i64 11))))]) (.ret)) (.skip))) (.seq (.y_ [(iM 32 0,[]),(iC 33 32,[0]),(iF 34 33 0,[1,0]),(iL 35 34,[2,1,0]),(iM 36 1,[]),(iD 37 5 19,[]),(iS 38 (.cf 49 [.s 37]),[5])] [iN (.mu (.s 35) (.s 36) (.s 38) [2])]) (.seq (.dw [iS 6 (.mv (.k iz))]) (.ret))))))
noncomputable def s135:=sf (N:=135) (n:=39) (c:=c135) (r:=[.s 6]) Tryz.f135
end
variable{keep:Bool}{vs:List V}{h:H}{K:KT}
def c269:C:=.seq (.dw [iS 3 (.bx (.s 1)),iS 4 (.al [iz,sz,sz,iz,iz,sz,sz,sz,.d (.bool false),.d (.bool false),.d (.bool false),iz,iz,sz,sz,sz,.nl 7,iz,.d (.int .u8 0)]),iS 5 (.mv (.k (.d (.bool false))))]) (.seq (.y_ [(iM 9 0,[]),(iC 10 9,[0]),(iF 11 10 2,[1,0]),(iL 12 11,[2,1,0]),(iF 13 3 2,[]),(iL 14 13,[4]),(iS 15 (.cf 111 [.s 12,.s 14]),[3,5,2,1,0,4]),(iM 8 15,[6,3,5,2,1,0,4]),(iS 16 (.ex (.s 8) 0),[7,6,3,5,2,1,0,4]),(iS 17 (.ex (.s 8) 1),[7,6,3,5,2,1,0,4]),(iS 6 (.al [iz,sz,sz,iz,iz,sz,sz,sz,.d (.bool false),.d (.bool false),.d (.bool false),iz,iz,sz,sz,sz,.nl 7,iz,.d (.int .u8 0)]),[]),(iN (.st (.s 6) (.s 16) 19),[8,10,7,6,3,5,2,1,0,4])] [iM 7 17]) (.seq (.seq (.dw [iM 18 7,iS 19 (.un .not (.s 18)),iM 20 19,iG 21 (.fa (.s 6) 0) 20 false,iG 22 (.ld (.s 21) none) 20 false,iG 23 (.fa (.s 3) 0) 20 false,iG 24 (.ld (.s 23) none) 20 false,iG 25 (.bin .neq (.s 22) (.s 24)) 20 false,iS 26 (.pk (.s 20) (.k (.d (.bool true))) (.s 25)),iM 27 26,iG 28 (.fa (.s 6) 1) 27 false,iG 29 (.ld (.s 28) (some 2)) 27 false,iG 30 (.fa (.s 3) 3) 27 false,iG 31 (.ld (.s 30) (some 2)) 27 false,iG 32 (.eq true true [2,2] (.s 29) (.s 31)) 27 false,iS 33 (.pk (.s 27) (.k (.d (.bool true))) (.s 32))]) (.cond (.s 33) (.seq (.dw [iS 34 (.bd [iz,sz,sz,iz,iz,sz,sz,sz,.d (.bool false),.d (.bool false),.d (.bool false),iz,iz,sz,sz,sz,.nl 7,iz,.d (.int .u8 0)] []),iN (.st (.s 4) (.s 34) 19),iS 5 (.mv (.k (.d (.bool false))))]) (.ret)) (.skip))) (.seq (.dw [iD 35 6 19,iN (.st (.s 4) (.s 35) 19),iS 5 (.mv (.k (.d (.bool true))))]) (.ret))))
noncomputable def s269:=sf (N:=269) (n:=36) (c:=c269) (r:=[.c 4 (some 19),.s 5]) Tryz.f269
end Go.Proofs.YtmigecldjbgneaaGreatDoor