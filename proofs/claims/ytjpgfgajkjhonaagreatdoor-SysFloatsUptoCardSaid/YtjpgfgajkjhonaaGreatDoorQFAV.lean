/- Formulas and labels: what their functions tell. Conditions: none. -/
import Derived.Test.YtjpgfgajkjhonaaGreatDoorQFAT
import Derived.Test.YtjpgfgajkjhonaaGreatDoorQFAU
import Derived.Shelf.Strings.Builder1
import Derived.Test.YtjpgfgajkjhonaaGreatDoorChecked
import Derived.KernelRfl
import Derived.Shelf.Lay
import Derived.Shelf.Strings.Search3
import Derived.Shelf.Spec.SlicesInsert
import Derived.Shelf.Spec.SlicesInsertGrow
set_option maxRecDepth 100000
namespace Go.Proofs.YtjpgfgajkjhonaaGreatDoor
open Go.Vx
set_option maxRecDepth 100000
theorem rM {K:Out→H→Prop} (s:List UInt8) (hk:K (.ret (.fc 134 [.p 0 0])) [.cells [.d (.str s)]]):Sat Tryz.prog 92 [.d (.str s)] [] K:=by
 refine s92.go (keep:=false) rfl ?_
 repeat' ((conv=>whnf);first | exact zf | refine zm ?_ | intro _)
 exact hk
def yA (a b:Int):Bool:=ir .andNot .u8 a b==0
theorem Lo (a b:Int):bJ Tryz.prog 262 [.d (.int .u8 a),.d (.int .u8 b)] (.d (.bool (yA a b))):=by
 refine s262.go (keep:=false) rfl ?_
 repeat' ((conv=>whnf);first | exact zf | refine zm ?_ | intro _)
def oneOf (s:Int) (l:List Int):Bool:=l.any λx=>yA x s
def dz (l:List Int):List (List D):=l.map λx=>[D.int .u8 x]
theorem iX (l:List Int):(dz l).length=l.length:=by simp [dz]
theorem NL (s:Int) (l:List Int):bJ Tryz.prog 197 [.d (.int .u8 s),.d (.sl 1 (dz l))] (.d (.bool (oneOf s l))):=by
 have hl:=iX l;refine s197.go (keep:=false) rfl ?_
 repeat' ((conv=>whnf);first | exact zf | refine zm ?_ | intro _)
 conv=>whnf
 refine bV [(0,.d (.int .u8 s)),(7,.d (.sl 1 (dz l))),(8,.d (.int .i64 (dz l).length))] (λi:Nat=>i≤l.length∧oneOf s (l.take i)=false) (λi=>[(9,.d (.int .i64 i))]) (λ_=>[]) (λi=>l.length - i) 0 ⟨aj _,rfl⟩ ?_ ?_ ?_ (λi hi=>?_)
 ·exact zzz
 ·exact zzz
 ·exact rfl
 repeat' ((conv=>whnf);first | exact zf | refine zm ?_ | intro _)
 refine aX (λhlt=>?_) (λhge=>?_)
 ·have hlt:i<l.length:=by simpa [dz] using hlt
  have hr:=Lo l[i] s;have ht:l.take (i+1)=l.take i ++ [l[i]]:=dC hlt
  repeat' ((conv=>whnf);first | exact zf | refine zm ?_ | intro _)
  refine ⟨[D.int .u8 l[i]],⟨by omega,by simp [dz,hlt],rfl⟩,?_⟩;cases hb:yA l[i] s with
  |true=>
   rw [hb] at hr
   repeat' ((conv=>whnf);first | exact zf | refine zm ?_ | refine zc hr ?_ | intro _)
   refine cR ?_;have:oneOf s l=true:=p6.2 ⟨l[i],cV hlt,hb⟩;rw [this];rfl
  |false=>
   rw [hb] at hr
   repeat' ((conv=>whnf);first | exact zf | refine zm ?_ | refine zc hr ?_ | refine (.inl ⟨by unfold eW;omega,?_⟩) | intro _)
   refine ⟨i+1,⟨hlt,?_⟩,bE hlt (bN i),zzz,zzz,rfl⟩;rw [ht];unfold oneOf at hi ⊢;rw [List.any_append,hi.2];simp [hb]
 ·have hge:l.length≤i:=by simpa [dz] using hge
  repeat' ((conv=>whnf);first | exact zf | refine zm ?_ | intro _)
  refine cR ?_;have h2:=hi.2;rw [cq hge] at h2;rw [h2];rfl
def mB (l:List UInt8) (n:Nat):Bool:=l.any λb=>b.toNat==n
def iZ (l:List UInt8) (told:List Int) (n:Nat):List Int:=bif mB l n && !(oneOf n told) then told ++ [(n:Int)] else told
def ep (l:List UInt8) (k:Nat):List Int:=(List.range k).foldl (iZ l) []
def least (l:List UInt8):List UInt8:=(ep l 256).map λx=>UInt8.ofNat x.toNat
theorem i_ (l:List UInt8) (k:Nat):ep l (k+1)=iZ l (ep l k) k:=by simp [ep,List.range_succ]
theorem ug (l:List UInt8) (k:Nat) (hk:k≤256):∀x∈ep l k,0≤x∧x<256:=by
 induction k with
 |zero=>intro x hx;simp [ep] at hx
 |succ k ih=>
  intro x hx;rw [i_] at hx;unfold iZ at hx;cases hc:mB l k && !(oneOf k (ep l k))<;>rw [hc] at hx
  ·exact ih (by omega) x hx
  ·simp only [cond_true,aR,aP] at hx;rcases hx with hx | hx
   ·exact ih (by omega) x hx
   ·omega
theorem sM (l:List UInt8) (k:Nat):(ep l k).length≤k:=by
 induction k with
 |zero=>simp [ep]
 |succ k ih=>
  rw [i_];unfold iZ;cases mB l k && !(oneOf k (ep l k))<;>simp<;>omega
theorem AH (l:List UInt8):dz (ep l 256)=(least l).map λb=>[D.int .u8 b.toNat]:=by
 unfold dz least;rw [ez];refine aq λx hx=>?_;have:=ug l 256 (aQ _) x hx;simp only [Function.comp_apply,gL];rw [cT (by omega),Int.toNat_of_nonneg this.1]
def pP (l:List UInt8) (k:Nat):List (List D):=(List.range 256).map λj=>[D.bool (mB (l.take k) j)]
def sY (l:List UInt8):List D:=(List.range 256).map λj=>D.bool (mB l j)
theorem qg {α:Type} (x:α):∀n,List.replicate n x=(List.range n).map λ_=>x:=by
 intro n;rw [List.map_const',fX]
theorem hereR_0 (l:List UInt8):List.replicate 256 [D.bool false]=pP l 0:=qg _ 256
theorem D8 (l:List UInt8) (k:Nat) (b:UInt8):(pP l k)[b.toNat]? = some [D.bool (mB (l.take k) b.toNat)]:=by
 unfold pP;rw [aC,cA (by have:=b.toNat_lt;omega)];rfl
theorem AX (l:List UInt8) (k:Nat) (hk:k<l.length):(pP l k).set l[k].toNat [D.bool true]=pP l (k+1):=by
 have ht:l.take (k+1)=l.take k ++ [l[k]]:=dC hk;have hh:∀j,mB (l.take (k+1)) j=(mB (l.take k) j||l[k].toNat==j):=λj=>by
  unfold mB;rw [ht,List.any_append];simp
 unfold pP;refine dD λj=>?_
 by_cases hj:j<256
 ·by_cases e:l[k].toNat=j
  ·subst e;rw [b9 (by simpa using hj),aC,cA hj,bK,hh];simp
  ·rw [eU e,aC,aC,cA hj,bK,bK,hh];have:(l[k].toNat==j)=false:=by simpa using e
   rw [this,Bool.or_false]
 ·rw [dB (by simp;omega),dB (by simp;omega)]
theorem KN (l:List UInt8):pP l l.length=(sY l).map λd=>[d]:=by
 unfold pP sY;rw [dQ,ez];rfl
theorem nJ (i:Int) (l:List D) (r:List (List D)):xn 0 [(19,.d (.int .i64 i)),(18,.ag (l.map .d)),(5,.os 1)] [.no,.rows 1 r]=true:=by
 have e:jF (.ag (l.map V.d)) = []:=by simp [jF,kB,ib]
 simp only [xn,kf,List.all_nil,eH,e,de,oW];rfl
set_option maxHeartbeats 4000000 in
theorem Fv (l:List UInt8):bJ Tryz.prog 133 [.d (.str l)] (.d (.str (least l))):=by
  refine s133.go (keep:=false) rfl ?_
  repeat' ((conv=>whnf);first | exact zf | refine zm ?_ | intro _)
  conv=>whnf
  refine bV [(0,.d (.str l)),(3,.q 0 1 0 0),(9,.d (.int .i64 l.length))] (λk:Nat=>k≤l.length) (λk=>[(10,.d (.int .i64 k))]) (λk=>[.rows 1 (pP l k)]) (λk=>l.length - k) 0 (aj _) ?_ ?_ ?_ (λk hk=>?_)
  · exact zzz
  · exact ⟨a8 (by rw [hereR_0 l]),trivial⟩
  · exact (by kernel_rfl)
  repeat' ((conv=>whnf);first | exact zf | refine zm ?_ | intro _)
  refine aX (λhlt=>?_) (λhge=>?_)
  · have hlt:k<l.length:=by simpa using hlt
    repeat' ((conv=>whnf);first | exact zf | refine zm ?_ | intro _)
    refine ⟨l[k],⟨by omega,by simp [hlt]⟩,?_⟩
    have hb:=l[k].toNat_lt
    repeat' ((conv=>whnf);first | exact zf | refine zm ?_ | intro _)
    conv=>whnf
    refine ⟨[D.bool (mB (l.take k) l[k].toNat)],D8 l k l[k],⟨rfl,rfl,rfl⟩,?_⟩
    repeat' ((conv=>whnf);first | exact zf | refine zm ?_ | refine (.inl ⟨by unfold eW;omega,?_⟩) | intro _)
    refine ⟨k+1,hlt,bE hlt (bN k),zzz,⟨a8 (congrArg (B.rows 1) (AX l k hlt)),trivial⟩,rfl⟩
  · have hge:l.length≤k:=by simpa using hge
    obtain rfl:k=l.length:=by omega
    repeat' ((conv=>whnf);first | exact zf | refine zm ?_ | intro _)
    refine ⟨sY l,⟨KN l,by simp [sY]⟩,?_⟩
    repeat' ((conv=>whnf);first | exact zf | refine zm ?_ | intro _)
    conv=>whnf
    refine bV [(18,.ag ((sY l).map .d)),(5,.os 1)] (λk:Nat=>k≤256) (λk=>[(19,.d (.int .i64 k))]) (λk=>[.no,.rows 1 (dz (ep l k))]) (λk=>256 - k) 0 (aj _) ?_ ?_ (nJ _ _ _) (λk hk=>?_)
    · exact zzz
    · exact zzz
    repeat' ((conv=>whnf);first | exact zf | refine zm ?_ | intro _)
    refine aX (λhlt=>?_) (λhge=>?_)
    · have hlt:k<256:=by have:=of_decide_eq_true hlt;omega
      have hlen:=sM l k
      have hrl:=iX (ep l k)
      have hg:∀b,mB l k=b→((sY l).map V.d)[(k:Int).toNat]? = some (.d (.bool b)):=λb hb=>by
        subst hb
        simp [sY,hlt]
      have hsx:=i_ l k
      unfold iZ at hsx
      have hr:=NL k (ep l k)
      cases h1:mB l k with
      |false=>
        rw [h1,nB,cond_false] at hsx
        repeat' ((conv=>whnf);first | exact zf | refine zm ?_ | intro _)
        refine ⟨.bool false,⟨by omega,by omega,hg _ h1⟩,?_⟩
        repeat' ((conv=>whnf);first | exact zf | refine zm ?_ | refine (.inl ⟨by unfold eW;omega,?_⟩) | intro _)
        refine ⟨k+1,hlt,bE hlt (bN k),zzz,⟨a8 (by rw [hsx]),trivial⟩,nJ _ _ _⟩
      |true=>
        cases h2:oneOf k (ep l k) with
        |true=>
          rw [h1,h2] at hsx
          rw [h2] at hr
          simp only [Bool.not_true,Bool.and_false,cond_false] at hsx
          repeat' ((conv=>whnf);first | exact zf | refine zm ?_ | intro _)
          refine ⟨.bool true,⟨by omega,by omega,hg _ h1⟩,?_⟩
          repeat' ((conv=>whnf);first | exact zf | refine zm ?_ | refine (.inl ⟨_,hr,rfl,?_⟩) | refine (.inl ⟨by unfold eW;omega,?_⟩) | intro _)
          refine ⟨k+1,hlt,bE hlt (bN k),zzz,⟨a8 (by rw [hsx]),trivial⟩,nJ _ _ _⟩
        |false=>
          rw [h1,h2] at hsx
          rw [h2] at hr
          simp only [Bool.not_false,Bool.and_self,cond_true] at hsx
          repeat' ((conv=>whnf);first | exact zf | refine zm ?_ | intro _)
          refine ⟨.bool true,⟨by omega,by omega,hg _ h1⟩,?_⟩
          repeat' ((conv=>whnf);first | exact zf | refine zm ?_ | refine (.inl ⟨_,hr,rfl,?_⟩) | refine (.inl ⟨by unfold eW;omega,?_⟩) | intro _)
          refine ⟨k+1,hlt,bE hlt (bN k),zzz,⟨a8 (by rw [hsx];simp [dz]),trivial⟩,nJ _ _ _⟩
    · have hge:k=256:=by have:=of_decide_eq_false hge;omega
      subst hge
      repeat' ((conv=>whnf);first | exact zf | refine zm ?_ | intro _)
      refine ⟨least l,AH l,?_⟩
      repeat' ((conv=>whnf);first | exact zf | refine zm ?_ | intro _)
theorem uN (a:UInt8):BitVec.ofInt 8 (a.toNat:Int)=a.toBitVec:=by
 rw [lH];exact BitVec.eq_of_toNat_eq (by rw [BitVec.toNat_ofNat,cT a.toNat_lt];rfl)
theorem wrap_u8 (b:BitVec 8):IntKind.u8.wrap (b.toNat:Int)=b.toNat:=by
 have:=b.isLt;have e:(IntKind.u8.wrap (b.toNat:Int))=(b.toNat:Int) % 256:=rfl;rw [e];omega
theorem w8 (a b:UInt8):ir .and .u8 a.toNat b.toNat=((a &&& b).toNat:Int):=by
 show IntKind.u8.wrap ((BitVec.ofInt 8 (a.toNat:Int) &&& BitVec.ofInt 8 (b.toNat:Int)).toNat:Int)=_;rw [uN,uN,wrap_u8];rfl
theorem Q9 (a b:UInt8):ir .or .u8 a.toNat b.toNat=((a ||| b).toNat:Int):=by
 show IntKind.u8.wrap ((BitVec.ofInt 8 (a.toNat:Int) ||| BitVec.ofInt 8 (b.toNat:Int)).toNat:Int)=_;rw [uN,uN,wrap_u8];rfl
theorem EA (a b:UInt8):ir .andNot .u8 a.toNat b.toNat=((a &&& ~~~b).toNat:Int):=by
 show IntKind.u8.wrap ((BitVec.ofInt 8 (a.toNat:Int) &&& ~~~BitVec.ofInt 8 (b.toNat:Int)).toNat:Int)=_;rw [uN,uN,wrap_u8];rfl
def lp (l:List UInt8):List UInt8:=l.map (· &&& 63)
def eK (l:List UInt8):List UInt8:=least (lp l)
def gu (l:List UInt8):List (List D):=l.map λb=>[D.int .u8 b.toNat]
theorem Cv (l:List UInt8):(gu l).length=l.length:=by simp [gu]
set_option maxHeartbeats 4000000 in
theorem kL (l:List UInt8) (hm:l.length≤140737488355328):bJ Tryz.prog 91 [.d (.str l)] (.d (.str (eK l))):=by
  refine s91.go (keep:=false) rfl ?_
  repeat' ((conv=>whnf);first | exact zf | refine zm ?_ | refine (rM l ?_) | intro _)
  conv=>whnf
  refine vg 134 [.p 2 0] [2] l (λb=>.int .u8 b.toNat) (λi j=>i=j) (λi=>[.rows 1 (gu (lp (l.take i))),.cells [.os 0],.cells [.d (.str l)]]) 0 3 rfl rfl (rL l) (λ_=>trivial) rfl ?_ (λ_=>⟨rfl,rfl,rfl⟩) (λi b j hb hi=>?_) (λi hi=>?_)
  · exact zzz
  · subst hi
    obtain ⟨hlt,rfl⟩:=aA.1 hb
    have hlen:(gu (lp (l.take i))).length≤i:=by simp [gu,lp];omega
    have hs:gu (lp (l.take (i+1)))=gu (lp (l.take i)) ++ [[D.int .u8 (ir .and .u8 l[i].toNat 63)]]:=by
      rw [dC hlt]
      simp only [gu,lp,bm,cN,jy]
      rw [show (63:Int)=((63:UInt8).toNat:Int) from rfl,w8]
    repeat' ((conv=>whnf);first | exact zf | refine zm ?_ | intro _)
    exact ⟨i+1,rfl,a8 (by rw [hs];rfl),a8 rfl,a8 rfl,trivial⟩
  · subst hi
    repeat' ((conv=>whnf);first | exact zf | refine zm ?_ | intro _)
    refine ⟨lp (l.take l.length),rfl,?_⟩
    repeat' ((conv=>whnf);first | exact zf | refine zm ?_ | refine zc (Fv _) ?_ | intro _)
    refine cR ?_
    rw [dQ]
    rfl
def gK (l:List UInt8) (x:UInt8):Bool:=l.all λb=> !(b &&& x==0)
set_option maxHeartbeats 4000000 in
theorem GW (l:List UInt8) (x:UInt8):bJ Tryz.prog 127 [.d (.str l),.d (.int .u8 x.toNat)] (.d (.bool (gK l x))):=by
  refine s127.go (keep:=false) rfl ?_
  repeat' ((conv=>whnf);first | exact zf | refine zm ?_ | refine (rM l ?_) | intro _)
  conv=>whnf
  refine vg 134 [.p 2 0] [2] l (λb=>.int .u8 b.toNat) (λi (_:Unit)=>gK (l.take i) x=true) (λ_=>[.cells [.d (.int .u8 x.toNat)],.cells [.d (.bool false)],.cells [.d (.str l)]]) () 3 rfl rfl (rL l) (λ_=>trivial) rfl ?_ (λ_=>⟨rfl,rfl,rfl⟩) (λi b _ hb hi=>?_) (λ_ hi=>?_)
  · exact zzz
  · obtain ⟨hlt,rfl⟩:=aA.1 hb
    have he:(ir .and .u8 l[i].toNat x.toNat==0)=(l[i] &&& x==0):=by
      rw [w8,e7,beq_iff_eq,beq_iff_eq,←UInt8.toNat_inj]
      simp
    cases hc:(l[i] &&& x==0) with
    |true=>
      rw [hc] at he
      repeat' ((conv=>whnf);first | exact zf | refine zm ?_ | refine (gZ he ?_) | intro _)
      refine cR ?_
      have:gK l x=false:=by
        unfold gK
        rw [List.all_eq_false]
        exact ⟨l[i],cV hlt,by rw [hc];simp⟩
      rw [this]
      rfl
    |false=>
      rw [hc] at he
      repeat' ((conv=>whnf);first | exact zf | refine zm ?_ | refine (gr he ?_) | intro _)
      refine ⟨(),?_,a8 rfl,a8 rfl,a8 rfl,trivial⟩
      rw [dC hlt]
      unfold gK at hi ⊢
      rw [List.all_append,hi]
      simp [hc]
  · skip
    repeat' ((conv=>whnf);first | exact zf | refine zm ?_ | intro _)
    refine cR ?_
    rw [dQ] at hi
    rw [hi]
    rfl
end Go.Proofs.YtjpgfgajkjhonaaGreatDoor
namespace Go.Proofs.YtjpgfgajkjhonaaGreatDoor
open Go.Vx
set_option maxRecDepth 100000
theorem kr (l:List UInt8):(eK l).length≤256:=by
 unfold eK least;rw [aK];exact sM _ _
def zP (l:List UInt8):Prop:=l.length≤140737488355328
theorem ft (l:List UInt8):zP (eK l):=aY (kr l) (by decide)
def oT (a b:List UInt8):List UInt8:=eK (eK a++eK b)
theorem w9 (a b:List UInt8) (ha:zP a) (hb:zP b):bJ Tryz.prog 54 [.d (.str a),.d (.str b)] (.d (.str (oT a b))):=by
 have h1:=kL a ha;have h2:=kL b hb;have la:=kr a;have lb:=kr b;have h3:=kL (eK a++eK b) (by rw [aL];omega);refine s54.go (keep:=false) rfl ?_
 repeat' ((conv=>whnf);first | exact zf | refine zm ?_ | refine zc h1 ?_ | refine zc h2 ?_ | refine zc h3 ?_ | intro _)
def gJ (a b:List UInt8):List UInt8:=a.flatMap λc=>b.map λd=>c ||| d
def He (a b:List UInt8):List UInt8:=eK (gJ (eK a) (eK b))
theorem rU (a b:List UInt8):(gJ a b).length=a.length*b.length:=by
 unfold gJ
 induction a with
 |nil=>simp
 |cons c a ih=>rw [nr,aL,ih,aK,aU,bh];omega
theorem xC (a b:List UInt8) (i:Nat) (h:i<a.length):gJ (a.take (i+1)) b=gJ (a.take i) b++b.map λd=>a[i] ||| d:=by
 unfold gJ;rw [dC h,List.flatMap_append,nr,List.flatMap_nil,cQ]
set_option maxHeartbeats 4000000 in
theorem L5 (a b:List UInt8) (ha:zP a) (hb:zP b):bJ Tryz.prog 55 [.d (.str a),.d (.str b)] (.d (.str (He a b))):=by
  have h1:=kL a ha
  have h2:=kL b hb
  have la:=kr a
  have lb:=kr b
  unfold He
  generalize eK a=na at h1 la ⊢
  generalize eK b=nb at h2 lb ⊢
  have hmul:na.length*nb.length≤65536:=aY (Nat.mul_le_mul la lb) (by decide)
  have h3:=kL (gJ na nb) (by rw [rU];omega)
  refine s55.go (keep:=false) rfl ?_
  repeat' ((conv=>whnf);first | exact zf | refine zm ?_ | refine zc h1 ?_ | refine zc h2 ?_ | refine (.inl ⟨by unfold eW;omega,?_⟩) | refine (rM na ?_) | intro _)
  conv=>whnf
  refine vg 134 [.p 3 0] [3] na (λb=>.int .u8 b.toNat) (λi j=>i=j) (λi=>[.cells [.d (.str nb)],.rows 1 (gu (gJ (na.take i) nb)),.cells [.os 1],.cells [.d (.str na)]]) 0 4 rfl rfl (rL na) (λ_=>trivial) rfl ?_ (λ_=>⟨rfl,rfl,rfl⟩) (λi c j hc hi=>?_) (λi hi=>?_)
  · exact zzz
  · subst hi
    obtain ⟨hlt,rfl⟩:=aA.1 hc
    have hs:=xC na nb i hlt
    have hul:(gJ (na.take i) nb).length≤65536:=by
      rw [rU,ah]
      exact aY (bB _ (aY (Nat.min_le_right ..) (aQ _))) hmul
    repeat' ((conv=>whnf);first | exact zf | refine zm ?_ | refine (rM nb ?_) | intro _)
    conv=>whnf
    refine vg 134 [.p 5 0] [5] nb (λb=>.int .u8 b.toNat) (λi j=>i=j) (λj=>[.cells [.d (.str nb)],.rows 1 (gu (gJ (na.take i) nb++(nb.take j).map λd=>na[i] ||| d)),.cells [.os 1],.cells [.d (.str na)],.cells [.d (.int .u8 na[i].toNat)],.cells [.d (.str nb)]]) 0 6 rfl rfl (rL nb) (λ_=>trivial) rfl ?_ (λ_=>⟨rfl,rfl,rfl⟩) (λj d k hd hj=>?_) (λj hj=>?_)
    · exact ⟨a8 rfl,a8 (by simp),a8 rfl,a8 rfl,a8 rfl,a8 rfl,trivial⟩
    · subst hj
      obtain ⟨hlj,rfl⟩:=aA.1 hd
      have hl2:(gu (gJ (na.take i) nb++(nb.take j).map λd=>na[i] ||| d)).length≤65536+256:=by
        rw [Cv,aL,aK,ah]
        omega
      have hs2:gu (gJ (na.take i) nb++(nb.take (j+1)).map λd=>na[i] ||| d)=gu (gJ (na.take i) nb++(nb.take j).map λd=>na[i] ||| d) ++ [[D.int .u8 (ir .or .u8 na[i].toNat nb[j].toNat)]]:=by
        rw [dC hlj,Q9]
        simp only [gu,bm,cN,jy,bM]
      repeat' ((conv=>whnf);first | exact zf | refine zm ?_ | intro _)
      exact ⟨j+1,rfl,a8 rfl,a8 (by rw [hs2];rfl),a8 rfl,a8 rfl,a8 rfl,a8 rfl,trivial⟩
    · subst hj
      repeat' ((conv=>whnf);first | exact zf | refine zm ?_ | intro _)
      exact ⟨i+1,rfl,a8 rfl,a8 (by rw [hs,dQ]),a8 rfl,a8 rfl,trivial⟩
  · subst hi
    repeat' ((conv=>whnf);first | exact zf | refine zm ?_ | intro _)
    refine ⟨gJ (na.take na.length) nb,rfl,?_⟩
    rw [dQ]
    repeat' ((conv=>whnf);first | exact zf | refine zm ?_ | refine zc h3 ?_ | intro _)
def jn (l:List UInt8) (n:Nat):Bool:=gK l (UInt8.ofNat n)
theorem D7 (l:List UInt8) (n:Nat) (h:n<256):bJ Tryz.prog 127 [.d (.str l),.d (.int .u8 n)] (.d (.bool (jn l n))):=by
 have:=GW l (UInt8.ofNat n);rw [gL,cT h] at this;exact this
def zC (l:List UInt8) (k:Nat):Int:=(List.range k).foldl (λt x=>bif jn l x then ir .or .u64 t (zQ .shl .u64 1 x) else t) 0
theorem uQ (l:List UInt8) (k:Nat):zC l (k+1)=bif jn l k then ir .or .u64 (zC l k) (zQ .shl .u64 1 k) else zC l k:=by simp [zC,List.range_succ]
def rX (l:List UInt8):Int:=zC (eK l) 64
set_option maxHeartbeats 4000000 in
theorem xJ (a:List UInt8) (ha:zP a):bJ Tryz.prog 83 [.d (.str a)] (.d (.int .u64 (rX a))):=by
  have h1:=kL a ha
  unfold rX
  generalize eK a=l at h1 ⊢
  refine s83.go (keep:=false) rfl ?_
  repeat' ((conv=>whnf);first | exact zf | refine zm ?_ | refine zc h1 ?_ | intro _)
  conv=>whnf
  refine bV [(0,.d (.str l))] (λk:Nat=>k≤64) (λk=>[(7,.d (.int .u8 k)),(3,.d (.int .u64 (zC l k)))]) (λ_=>[]) (λk=>64 - k) 0 (aj _) ?_ ?_ ?_ (λk hk=>?_)
  · exact zzz
  · exact zzz
  · exact rfl
  repeat' ((conv=>whnf);first | exact zf | refine zm ?_ | intro _)
  refine aX (λhlt=>?_) (λhge=>?_)
  · have hlt:k<64:=by have:=of_decide_eq_true hlt;omega
    have hr:=D7 l k (by omega)
    have hs:=uQ l k
    cases hb:jn l k with
    |true=>
      rw [hb] at hr hs
      simp only [cond_true] at hs
      repeat' ((conv=>whnf);first | exact zf | refine zm ?_ | refine zc hr ?_ | refine (.inl ⟨by unfold eW;omega,?_⟩) | intro _)
      refine ⟨k+1,hlt,bE hlt (bN k),⟨gY rfl,gY (by rw [hs];rfl),gY rfl,trivial⟩,zzz,rfl⟩
    |false=>
      rw [hb] at hr hs
      simp only [cond_false] at hs
      repeat' ((conv=>whnf);first | exact zf | refine zm ?_ | refine zc hr ?_ | refine (.inl ⟨by unfold eW;omega,?_⟩) | intro _)
      refine ⟨k+1,hlt,bE hlt (bN k),⟨gY rfl,gY (by rw [hs];rfl),gY rfl,trivial⟩,zzz,rfl⟩
  · have hge:k=64:=by have:=of_decide_eq_false hge;omega
    subst hge
    repeat' ((conv=>whnf);first | exact zf | refine zm ?_ | intro _)
def iA (a b:List UInt8):Bool:=ir .andNot .u64 (rX a) (rX b)==0
theorem l4 (a b:List UInt8) (ha:zP a) (hb:zP b):bJ Tryz.prog 42 [.d (.str a),.d (.str b)] (.d (.bool (iA a b))):=by
 have h1:=xJ a ha;have h2:=xJ b hb;refine s42.go (keep:=false) rfl ?_
 repeat' ((conv=>whnf);first | exact zf | refine zm ?_ | refine zc h1 ?_ | refine zc h2 ?_ | intro _)
structure Lb where
  s:List UInt8
  i:List UInt8
  deriving DecidableEq
def jU (l:Lb):V:=.ag [.d (.str l.s),.d (.str l.i)]
def cO (l:Lb):Prop:=zP l.s∧zP l.i
def half (b:Bool) (l:Lb):List UInt8:=bif b then l.s else l.i
theorem KO (b:Bool) (l:Lb):bJ Tryz.prog 129 [.d (.bool b),jU l] (.d (.str (half b l))):=by
 cases b with
 |true=>
  refine s129.go (keep:=false) rfl ?_
  repeat' ((conv=>whnf);first | exact zf | refine zm ?_ | intro _)
 |false=>
  refine s129.go (keep:=false) rfl ?_
  repeat' ((conv=>whnf);first | exact zf | refine zm ?_ | intro _)
theorem GX {b:Bool} {l:Lb} (h:cO l):zP (half b l):=by cases b<;>first | exact h.1 | exact h.2
theorem B7 (b:Bool) (l:Lb) (hl:cO l):Sat Tryz.prog 128 [.d (.bool b),.p 0 0] [.cells [.d (.str l.s),.d (.str l.i)]] λo h=>o = .ret (.d (.str (eK (half b l))))∧h = [.cells [.d (.str l.s),.d (.str l.i)]]:=by
 have h1:=KO b l;have h2:=kL (half b l) (GX hl);refine s128.go (keep:=false) rfl ?_
 repeat' ((conv=>whnf);first | exact zf | refine zm ?_ | refine zc h1 ?_ | refine zc h2 ?_ | intro _)
theorem R9 {K:Out→H→Prop} (l:Lb) (a b:List UInt8) (h1:Sat Tryz.prog 128 [.d (.bool true),.p 0 0] [.cells [.d (.str l.s),.d (.str l.i)]] λo h=>o = .ret (.d (.str a))∧h = [.cells [.d (.str l.s),.d (.str l.i)]]) (h2:Sat Tryz.prog 128 [.d (.bool false),.p 0 0] [.cells [.d (.str l.s),.d (.str l.i)]] λo h=>o = .ret (.d (.str b))∧h = [.cells [.d (.str l.s),.d (.str l.i)]])
  (hk:K (.ret (jU ⟨a,b⟩)) [.cells [.d (.str l.s),.d (.str l.i)]]):Sat Tryz.prog 52 [.fc 128 [.p 0 0]] [.cells [.d (.str l.s),.d (.str l.i)]] K:=by
 refine s52.go (keep:=false) rfl ?_
 repeat' ((conv=>whnf);first | exact zf | refine zm ?_ | refine (.inr ?_:(∃_,_)∨_) | intro _)
 refine h1.mono λo h' hh=>?_;obtain ⟨rfl,rfl⟩:=hh
 repeat' ((conv=>whnf);first | exact zf | refine zm ?_ | refine (.inr ?_:(∃_,_)∨_) | intro _)
 refine h2.mono λo h' hh=>?_;obtain ⟨rfl,rfl⟩:=hh
 repeat' ((conv=>whnf);first | exact zf | refine zm ?_ | intro _)
 exact hk
def eC (l:Lb):Lb:=⟨eK l.s,eK l.i⟩
theorem jg (l:Lb) (hl:cO l):bJ Tryz.prog 84 [jU l] (jU (eC l)):=by
 refine s84.go (keep:=false) rfl ?_
 repeat' ((conv=>whnf);first | exact zf | refine zm ?_ | refine (.inr ?_:(∃_,_)∨_) | intro _)
 refine R9 l _ _ (B7 true l hl) (B7 false l hl) ?_
 repeat' ((conv=>whnf);first | exact zf | refine zm ?_ | intro _)
def kq (l:Lb):Bool:=eK l.s==l.s&&eK l.i==l.i
theorem ph (l:Lb) (hl:cO l):bJ Tryz.prog 44 [jU l] (.d (.bool (kq l))):=by
 have h1:=jg l hl;refine s44.go (keep:=false) rfl ?_
 repeat' ((conv=>whnf);first | exact zf | refine zm ?_ | refine zc h1 ?_ | intro _)
 refine cR ?_;show V.d (.bool (eK l.s==l.s&&(eK l.i==l.i&&true)))=_;rw [de];rfl
theorem Rb {K:Out→H→Prop} (l m:Lb) (a b:List UInt8) (h1:Sat Tryz.prog 53 [.d (.bool true),.p 0 0,.p 1 0] [.cells [.d (.str l.s),.d (.str l.i)],.cells [.d (.str m.s),.d (.str m.i)]] λo h=>o = .ret (.d (.str a))∧h = [.cells [.d (.str l.s),.d (.str l.i)],.cells [.d (.str m.s),.d (.str m.i)]]) (h2:Sat Tryz.prog 53 [.d (.bool false),.p 0 0,.p 1 0] [.cells [.d (.str l.s),.d (.str l.i)],.cells [.d (.str m.s),.d (.str m.i)]] λo h=>o = .ret (.d (.str b))∧h = [.cells [.d (.str l.s),.d (.str l.i)],.cells [.d (.str m.s),.d (.str m.i)]])
  (hk:K (.ret (jU ⟨a,b⟩)) [.cells [.d (.str l.s),.d (.str l.i)],.cells [.d (.str m.s),.d (.str m.i)]]):Sat Tryz.prog 52 [.fc 53 [.p 0 0,.p 1 0]] [.cells [.d (.str l.s),.d (.str l.i)],.cells [.d (.str m.s),.d (.str m.i)]] K:=by
 refine s52.go (keep:=false) rfl ?_
 repeat' ((conv=>whnf);first | exact zf | refine zm ?_ | refine (.inr ?_:(∃_,_)∨_) | intro _)
 refine h1.mono λo h' hh=>?_;obtain ⟨rfl,rfl⟩:=hh
 repeat' ((conv=>whnf);first | exact zf | refine zm ?_ | refine (.inr ?_:(∃_,_)∨_) | intro _)
 refine h2.mono λo h' hh=>?_;obtain ⟨rfl,rfl⟩:=hh
 repeat' ((conv=>whnf);first | exact zf | refine zm ?_ | intro _)
 exact hk
theorem Ra {K:Out→H→Prop} (l m:Lb) (a b:List UInt8) (h1:Sat Tryz.prog 280 [.d (.bool true),.p 0 0,.p 1 0] [.cells [.d (.str l.s),.d (.str l.i)],.cells [.d (.str m.s),.d (.str m.i)]] λo h=>o = .ret (.d (.str a))∧h = [.cells [.d (.str l.s),.d (.str l.i)],.cells [.d (.str m.s),.d (.str m.i)]]) (h2:Sat Tryz.prog 280 [.d (.bool false),.p 0 0,.p 1 0] [.cells [.d (.str l.s),.d (.str l.i)],.cells [.d (.str m.s),.d (.str m.i)]] λo h=>o = .ret (.d (.str b))∧h = [.cells [.d (.str l.s),.d (.str l.i)],.cells [.d (.str m.s),.d (.str m.i)]])
  (hk:K (.ret (jU ⟨a,b⟩)) [.cells [.d (.str l.s),.d (.str l.i)],.cells [.d (.str m.s),.d (.str m.i)]]):Sat Tryz.prog 52 [.fc 280 [.p 0 0,.p 1 0]] [.cells [.d (.str l.s),.d (.str l.i)],.cells [.d (.str m.s),.d (.str m.i)]] K:=by
 refine s52.go (keep:=false) rfl ?_
 repeat' ((conv=>whnf);first | exact zf | refine zm ?_ | refine (.inr ?_:(∃_,_)∨_) | intro _)
 refine h1.mono λo h' hh=>?_;obtain ⟨rfl,rfl⟩:=hh
 repeat' ((conv=>whnf);first | exact zf | refine zm ?_ | refine (.inr ?_:(∃_,_)∨_) | intro _)
 refine h2.mono λo h' hh=>?_;obtain ⟨rfl,rfl⟩:=hh
 repeat' ((conv=>whnf);first | exact zf | refine zm ?_ | intro _)
 exact hk
theorem Bn (b:Bool) (l m:Lb) (hl:cO l) (hm:cO m):Sat Tryz.prog 53 [.d (.bool b),.p 0 0,.p 1 0] [.cells [.d (.str l.s),.d (.str l.i)],.cells [.d (.str m.s),.d (.str m.i)]] λo h=>o = .ret (.d (.str (bif b then oT l.s m.s else He l.i m.i)))∧h = [.cells [.d (.str l.s),.d (.str l.i)],.cells [.d (.str m.s),.d (.str m.i)]]:=by
 have h1:=w9 l.s m.s hl.1 hm.1;have h2:=L5 l.i m.i hl.2 hm.2;cases b with
 |true=>
  refine s53.go (keep:=false) rfl ?_
  repeat' ((conv=>whnf);first | exact zf | refine zm ?_ | refine zc h1 ?_ | intro _)
 |false=>
  refine s53.go (keep:=false) rfl ?_
  repeat' ((conv=>whnf);first | exact zf | refine zm ?_ | refine zc h2 ?_ | intro _)
theorem Bh (b:Bool) (l m:Lb) (hl:cO l) (hm:cO m):Sat Tryz.prog 280 [.d (.bool b),.p 0 0,.p 1 0] [.cells [.d (.str l.s),.d (.str l.i)],.cells [.d (.str m.s),.d (.str m.i)]] λo h=>o = .ret (.d (.str (bif b then He l.s m.s else oT l.i m.i)))∧h = [.cells [.d (.str l.s),.d (.str l.i)],.cells [.d (.str m.s),.d (.str m.i)]]:=by
 have h1:=L5 l.s m.s hl.1 hm.1;have h2:=w9 l.i m.i hl.2 hm.2;cases b with
 |true=>
  refine s280.go (keep:=false) rfl ?_
  repeat' ((conv=>whnf);first | exact zf | refine zm ?_ | refine zc h1 ?_ | intro _)
 |false=>
  refine s280.go (keep:=false) rfl ?_
  repeat' ((conv=>whnf);first | exact zf | refine zm ?_ | refine zc h2 ?_ | intro _)
def dR (l m:Lb):Lb:=⟨oT l.s m.s,He l.i m.i⟩
def mV (l m:Lb):Lb:=⟨He l.s m.s,oT l.i m.i⟩
theorem sT (l m:Lb) (hl:cO l) (hm:cO m):bJ Tryz.prog 24 [jU l,jU m] (jU (dR l m)):=by
 refine s24.go (keep:=false) rfl ?_
 repeat' ((conv=>whnf);first | exact zf | refine zm ?_ | refine (.inr ?_:(∃_,_)∨_) | intro _)
 refine Rb l m _ _ (Bn true l m hl hm) (Bn false l m hl hm) ?_
 repeat' ((conv=>whnf);first | exact zf | refine zm ?_ | intro _)
theorem Fl (l m:Lb) (hl:cO l) (hm:cO m):bJ Tryz.prog 229 [jU l,jU m] (jU (mV l m)):=by
 refine s229.go (keep:=false) rfl ?_
 repeat' ((conv=>whnf);first | exact zf | refine zm ?_ | refine (.inr ?_:(∃_,_)∨_) | intro _)
 refine Ra l m _ _ (Bh true l m hl hm) (Bh false l m hl hm) ?_
 repeat' ((conv=>whnf);first | exact zf | refine zm ?_ | intro _)
def bA (l m:Lb):Bool:=iA m.s l.s&&iA l.i m.i
theorem gG (l m:Lb) (hl:cO l) (hm:cO m):bJ Tryz.prog 13 [jU l,jU m] (.d (.bool (bA l m))):=by
 have h1:=l4 m.s l.s hm.1 hl.1;have h2:=l4 l.i m.i hl.2 hm.2;refine s13.go (keep:=false) rfl ?_;unfold bA;cases hb:iA m.s l.s with
 |true=>
  rw [hb] at h1
  repeat' ((conv=>whnf);first | exact zf | refine zm ?_ | refine zc h1 ?_ | refine zc h2 ?_ | intro _)
 |false=>
  rw [hb] at h1
  repeat' ((conv=>whnf);first | exact zf | refine zm ?_ | refine zc h1 ?_ | intro _)
end Go.Proofs.YtjpgfgajkjhonaaGreatDoor
namespace Go.Proofs.YtjpgfgajkjhonaaGreatDoor
open Go.Vx
set_option maxRecDepth 100000
structure Gs where
  cur:Lb
  eo:Lb
def EN (s:Gs):V:=.ag [.d (.str s.cur.s),.d (.str s.cur.i),.d (.str s.eo.s),.d (.str s.eo.i)]
def lQ (l:Lb):List D:=[.str l.s,.str l.i]
def qd (s:Gs):List D:=[.str s.cur.s,.str s.cur.i,.str s.eo.s,.str s.eo.i]
def jH (s:Gs):Prop:=cO s.cur∧cO s.eo
theorem lg (s:Gs) (l:Lb):bJ Tryz.prog 284 [EN s,jU l] (.ag [.d (.fc 321 [.pt (lQ l) 0,.pt (qd s) 0]),.d (.int .i64 (-4))]):=by
 refine FT (rows:=[lQ l,qd s]) (by decide) ?_;refine s284.go (keep:=false) rfl ?_
 repeat' ((conv=>whnf);first | exact zf | refine zm ?_ | intro _)
theorem tQ (s:Gs) (l:Lb):bJ Tryz.prog 285 [EN s,jU l] (.ag [.d (.fc 322 [.pt (qd s) 0,.pt (lQ l) 0]),.d (.int .i64 (-3))]):=by
 refine FT (rows:=[qd s,lQ l]) (by decide) ?_;refine s285.go (keep:=false) rfl ?_
 repeat' ((conv=>whnf);first | exact zf | refine zm ?_ | intro _)
theorem Aj (s:Gs) (l:Lb) (hs:jH s) (hl:cO l):bJ Tryz.prog 321 [.e (lQ l) 0,.e (qd s) 0] (.d (.bool (bA l s.eo))):=by
 have h:=gG l s.eo hl hs.2;refine s321.go (keep:=false) rfl ?_
 repeat' ((conv=>whnf);first | exact zf | refine zm ?_ | refine zc h ?_ | intro _)
theorem H5 (s:Gs) (l:Lb) (hs:jH s) (hl:cO l):bJ Tryz.prog 322 [.e (qd s) 0,.e (lQ l) 0] (.d (.bool (bA s.cur l))):=by
 have h:=gG s.cur l hs.1 hl;refine s322.go (keep:=false) rfl ?_
 repeat' ((conv=>whnf);first | exact zf | refine zm ?_ | refine zc h ?_ | intro _)
structure Mu where
  F:Nat
  cs:List D
  so:Bool
  ex:Int
def Mu.row (m:Mu):List D:=[.fc m.F m.cs,.int .i64 m.ex]
def firstM:List Mu→Int
 |[]=>0
 |m :: r=>bif m.so then firstM r else m.ex
theorem mh:∀{i:Nat} {l:List Mu},(∀m∈l.take i,m.so=true)→firstM l=firstM (l.drop i)
 |0,_,_=>rfl
 |i+1,[],_=>rfl
 |i+1,m :: l,h=>by
  rw [firstM,h m (by simp),ly,cond_true];exact mh λx hx=>h x (by simp [hx])
theorem mj (l:List Mu) (hF:∀m∈l,((∃a b,(m.F=321∨m.F=322)∧m.cs = [.pt a 0,.pt b 0])∨∃a b c,(m.F=293∨m.F=295)∧m.cs = [.pt a 0,.pt b 0,.pt c 0])∧bJ Tryz.prog m.F (m.cs.map Q4) (.d (.bool m.so))) :
  bJ Tryz.prog 283 [.d (.sl 2 (l.map Mu.row))] (.d (.int .i64 (firstM l))):=by
 have hl:(l.map Mu.row).length=l.length:=aK _;refine s283.go (keep:=false) rfl ?_
 repeat' ((conv=>whnf);first | exact zf | refine zm ?_ | intro _)
 conv=>whnf
 refine bV [(0,.d (.sl 2 (l.map Mu.row))),(5,.d (.sl 2 (l.map Mu.row))),(6,.d (.int .i64 (l.map Mu.row).length))] (λi:Nat=>i≤l.length∧∀m∈l.take i,m.so=true) (λi=>[(7,.d (.int .i64 i))]) (λ_=>[]) (λi=>l.length - i) 0 ⟨aj _,λ_ h=>nomatch h⟩ ?_ ?_ ?_ (λi hi=>?_)
 ·exact zzz
 ·exact zzz
 ·exact rfl
 repeat' ((conv=>whnf);first | exact zf | refine zm ?_ | intro _)
 refine aX (λhlt=>?_) (λhge=>?_)
 ·have hlt:i<l.length:=by rw [←hl];simpa using hlt
  obtain ⟨m,hm⟩:∃m,l[i]? = some m:=⟨_,aB hlt⟩
  obtain ⟨hf,hs⟩:=hF m (aH hm);have hfm:=mh hi.2;have hdr:l.drop i=m :: l.drop (i+1):=by
   rw [bP hlt];rw [aB hlt] at hm;rw [ak hm]
  rw [hdr] at hfm;have htk:l.take (i+1)=l.take i ++ [m]:=by rw [cF,hm];rfl
  obtain ⟨F,cs,so,ex⟩:=m
  repeat' ((conv=>whnf);first | exact zf | refine zm ?_ | intro _)
  refine ⟨[.fc F cs,.int .i64 ex],⟨by omega,by simp [hm,Mu.row],rfl⟩,?_⟩;rcases hf with ⟨a,b,hf | hf,hc⟩ | ⟨a,b,c,hf | hf,hc⟩
  ·simp only at hf hc;subst hf hc;dsimp only at hs;cases so with
   |true=>
    repeat' ((conv=>whnf);first | exact zf | refine zm ?_ | refine zc hs ?_ | intro _)
    refine ⟨i+1,⟨hlt,?_⟩,bE hlt (bN i),zzz,zzz,rfl⟩;rw [htk];intro x hx;exact (aR.1 hx).elim (hi.2 x) λh=>by rw [aP.1 h]
   |false=>
    repeat' ((conv=>whnf);first | exact zf | refine zm ?_ | refine zc hs ?_ | intro _)
    exact cR (congrArg (λx=>V.d (D.int .i64 x)) hfm.symm)
  ·simp only at hf hc;subst hf hc;dsimp only at hs;cases so with
   |true=>
    repeat' ((conv=>whnf);first | exact zf | refine zm ?_ | refine zc hs ?_ | intro _)
    refine ⟨i+1,⟨hlt,?_⟩,bE hlt (bN i),zzz,zzz,rfl⟩;rw [htk];intro x hx;exact (aR.1 hx).elim (hi.2 x) λh=>by rw [aP.1 h]
   |false=>
    repeat' ((conv=>whnf);first | exact zf | refine zm ?_ | refine zc hs ?_ | intro _)
    exact cR (congrArg (λx=>V.d (D.int .i64 x)) hfm.symm)
  ·simp only at hf hc;subst hf hc;dsimp only at hs;cases so with
   |true=>
    repeat' ((conv=>whnf);first | exact zf | refine zm ?_ | refine zc hs ?_ | intro _)
    refine ⟨i+1,⟨hlt,?_⟩,bE hlt (bN i),zzz,zzz,rfl⟩;rw [htk];intro x hx;exact (aR.1 hx).elim (hi.2 x) λh=>by rw [aP.1 h]
   |false=>
    repeat' ((conv=>whnf);first | exact zf | refine zm ?_ | refine zc hs ?_ | intro _)
    exact cR (congrArg (λx=>V.d (D.int .i64 x)) hfm.symm)
  ·simp only at hf hc;subst hf hc;dsimp only at hs;cases so with
   |true=>
    repeat' ((conv=>whnf);first | exact zf | refine zm ?_ | refine zc hs ?_ | intro _)
    refine ⟨i+1,⟨hlt,?_⟩,bE hlt (bN i),zzz,zzz,rfl⟩;rw [htk];intro x hx;exact (aR.1 hx).elim (hi.2 x) λh=>by rw [aP.1 h]
   |false=>
    repeat' ((conv=>whnf);first | exact zf | refine zm ?_ | refine zc hs ?_ | intro _)
    exact cR (congrArg (λx=>V.d (D.int .i64 x)) hfm.symm)
 ·have hge:i=l.length:=by
   have:¬i<l.length:=by rw [←hl];simpa using hge
   omega
  have hfm:=mh hi.2;rw [hge,ke] at hfm;rw [hfm]
  repeat' ((conv=>whnf);first | exact zf | refine zm ?_ | intro _)
def u7 (s:Gs) (l:Lb):Mu:=⟨321,[.pt (lQ l) 0,.pt (qd s) 0],bA l s.eo,-4⟩
def xi (s:Gs) (l:Lb):Mu:=⟨322,[.pt (qd s) 0,.pt (lQ l) 0],bA s.cur l,-3⟩
theorem vr (s:Gs) (l:Lb) (hs:jH s) (hl:cO l):((∃a b,((u7 s l).F=321∨(u7 s l).F=322)∧(u7 s l).cs = [.pt a 0,.pt b 0])∨∃a b c,((u7 s l).F=293∨(u7 s l).F=295)∧(u7 s l).cs = [.pt a 0,.pt b 0,.pt c 0])∧bJ Tryz.prog (u7 s l).F ((u7 s l).cs.map Q4) (.d (.bool (u7 s l).so)):=
 ⟨.inl ⟨_,_,.inl rfl,rfl⟩,Aj s l hs hl⟩
theorem AB (s:Gs) (l:Lb) (hs:jH s) (hl:cO l):((∃a b,((xi s l).F=321∨(xi s l).F=322)∧(xi s l).cs = [.pt a 0,.pt b 0])∨∃a b c,((xi s l).F=293∨(xi s l).F=295)∧(xi s l).cs = [.pt a 0,.pt b 0,.pt c 0])∧bJ Tryz.prog (xi s l).F ((xi s l).cs.map Q4) (.d (.bool (xi s l).so)):=
 ⟨.inl ⟨_,_,.inr rfl,rfl⟩,H5 s l hs hl⟩
def bS (s:Gs) (l:Lb):Int:=firstM [xi s l,u7 s l]
theorem fR (s:Gs) (l:Lb) (hs:jH s) (hl:cO l):bJ Tryz.prog 242 [EN s,jU l] (.d (.int .i64 (bS s l))):=by
 have h1:=tQ s l;have h2:=lg s l;have h3:=mj [xi s l,u7 s l] (by
  intro m hm;simp only [ae,cU,or_false] at hm;rcases hm with rfl | rfl
  ·exact AB s l hs hl
  ·exact vr s l hs hl)
 refine s242.go (keep:=false) rfl ?_
 repeat' ((conv=>whnf);first | exact zf | refine zm ?_ | refine zc h1 ?_ | refine zc h2 ?_ | refine zc h3 ?_ | intro _)
def dN (s:Gs) (l:Lb):Int:=firstM [u7 s (dR s.cur l)]
def cu (s:Gs) (l:Lb):Gs:=bif dN s l==0 then ⟨dR s.cur l,s.eo⟩ else s
def T9 (s:Gs) (e:Int):V:=.tu [EN s,.d (.int .i64 e)]
theorem xI (s:Gs) (l:Lb) (hs:jH s) (hl:cO l) (hj:cO (dR s.cur l)):bJ Tryz.prog 282 [EN s,jU l] (T9 (cu s l) (dN s l)):=by
 have h1:=sT s.cur l hs.1 hl;have h2:=lg s (dR s.cur l);have h3:=mj [u7 s (dR s.cur l)] (by
  intro m hm;rw [aP.1 hm];exact vr s _ hs hj)
 have he:firstM [u7 s (dR s.cur l)]=dN s l:=rfl;rw [he] at h3;unfold cu;cases hb:dN s l==0 with
 |true=>
  rw [eq_of_beq hb] at h3 ⊢;refine s282.go (keep:=false) rfl ?_
  repeat' ((conv=>whnf);first | exact zf | refine zm ?_ | refine zc h1 ?_ | refine zc h2 ?_ | refine zc h3 ?_ | intro _)
 |false=>
  refine s282.go (keep:=false) rfl ?_
  repeat' ((conv=>whnf);first | exact zf | refine zm ?_ | refine zc h1 ?_ | refine zc h2 ?_ | refine zc h3 ?_ | refine zt ?_ | refine zu ?_ | intro _)
def tE (s:Gs) (l:Lb):Gs:=bif bS s l==0 then ⟨eC l,s.eo⟩ else s
theorem CN (s:Gs) (l:Lb) (hs:jH s) (hl:cO l):bJ Tryz.prog 286 [EN s,jU l] (T9 (tE s l) (bS s l)):=by
 have h1:=fR s l hs hl;have h2:=jg l hl;unfold tE;cases hb:bS s l==0 with
 |true=>
  rw [eq_of_beq hb] at h1 ⊢;refine s286.go (keep:=false) rfl ?_
  repeat' ((conv=>whnf);first | exact zf | refine zm ?_ | refine zc h1 ?_ | refine zc h2 ?_ | intro _)
 |false=>
  refine s286.go (keep:=false) rfl ?_
  repeat' ((conv=>whnf);first | exact zf | refine zm ?_ | refine zc h1 ?_ | refine zc h2 ?_ | refine zt ?_ | refine zu ?_ | intro _)
def jK (s:Gs) (l:Lb):Int:=firstM [u7 s l,xi s l]
def sH (s:Gs) (l:Lb):Gs:=bif jK s l==0 then ⟨s.cur,eC l⟩ else s
theorem Fm (s:Gs) (l:Lb) (hs:jH s) (hl:cO l):bJ Tryz.prog 235 [EN s,jU l] (T9 (sH s l) (jK s l)):=by
 have h1:=tQ s l;have h2:=lg s l;have h3:=mj [u7 s l,xi s l] (by
  intro m hm;simp only [ae,cU,or_false] at hm;rcases hm with rfl | rfl
  ·exact vr s l hs hl
  ·exact AB s l hs hl)
 have h4:=jg l hl;have he:firstM [u7 s l,xi s l]=jK s l:=rfl;rw [he] at h3;unfold sH;cases hb:jK s l==0 with
 |true=>
  rw [eq_of_beq hb] at h3 ⊢;refine s235.go (keep:=false) rfl ?_
  repeat' ((conv=>whnf);first | exact zf | refine zm ?_ | refine zc h1 ?_ | refine zc h2 ?_ | refine zc h3 ?_ | refine zc h4 ?_ | intro _)
 |false=>
  refine s235.go (keep:=false) rfl ?_
  repeat' ((conv=>whnf);first | exact zf | refine zm ?_ | refine zc h1 ?_ | refine zc h2 ?_ | refine zc h3 ?_ | refine zc h4 ?_ | refine zt ?_ | refine zu ?_ | intro _)
def B3 (p:Int) (i:Nat):List UInt8:=((List.range i).filter λk=>yA (2 ^ k) p).map λk=>UInt8.ofNat (2 ^ k)
def Jk (p:Int):List UInt8:=B3 p 6
theorem xd (p:Int) (i:Nat):B3 p (i+1)=bif yA (2 ^ i) p then B3 p i ++ [UInt8.ofNat (2 ^ i)] else B3 p i:=by
 unfold B3;rw [List.range_succ,List.filter_append];cases h:yA (2 ^ i) p<;>simp [h]
theorem vl (p:Int):∀i,(B3 p i).length≤i
 |0=>by simp [B3]
 |i+1=>by
  have:=vl p i;rw [xd];cases yA (2 ^ i) p<;>simp<;>omega
theorem JT:∀i:Nat,i<6→zQ .shl .u8 1 (i:Int)=2 ^ i∧((UInt8.ofNat (2 ^ i)).toNat:Int)=2 ^ i:=by decide
theorem RX (p:Int):bJ Tryz.prog 325 [.d (.int .u8 p)] (.d (.str (Jk p))):=by
 refine s325.go (keep:=false) rfl ?_
 repeat' ((conv=>whnf);first | exact zf | refine zm ?_ | intro _)
 conv=>whnf
 refine bV [(0,.d (.int .u8 p)),(3,.os 0)] (λi:Nat=>i≤6) (λi=>[(6,.d (.int .i64 i))]) (λi=>[.rows 1 (gu (B3 p i))]) (λi=>6 - i) 0 (aj _) ?_ ?_ ?_ (λi hi=>?_)
 ·exact zzz
 ·exact ⟨a8 rfl,trivial⟩
 ·exact (by kernel_rfl)
 repeat' ((conv=>whnf);first | exact zf | refine zm ?_ | intro _)
 refine aX (λhlt=>?_) (λhge=>?_)
 ·have hlt:i<6:=by have:=of_decide_eq_true hlt;omega
  have hs:=xd p i;have hlen:=vl p i;have hrl:(gu (B3 p i)).length=(B3 p i).length:=aK _;obtain ⟨e1,e2⟩:=JT i hlt;have hp:bJ Tryz.prog 262 [.d (.int .u8 (zQ .shl .u8 1 (i:Int))),.d (.int .u8 p)] (.d (.bool (yA (2 ^ i) p))):=by
   have:=Lo (zQ .shl .u8 1 (i:Int)) p;rwa [show yA (zQ .shl .u8 1 (i:Int)) p=yA (2 ^ i) p by rw [e1]] at this
  have hr:gu (B3 p i ++ [UInt8.ofNat (2 ^ i)])=gu (B3 p i) ++ [[D.int .u8 (zQ .shl .u8 1 (i:Int))]]:=by
   rw [e1,←e2];simp [gu]
  cases hb:yA (2 ^ i) p with
  |true=>
   rw [hb] at hp hs
   repeat' ((conv=>whnf);first | exact zf | refine zm ?_ | refine zc hp ?_ | refine (.inl ⟨by unfold eW;omega,?_⟩) | refine (And.intro ⟨rfl,rfl,by simp only [aU,af];omega,by simp only [aU,af];omega⟩ ?_) | intro _)
   exact ⟨i+1,hlt,bE hlt (bN i),zzz,⟨a8 (by rw [hs,cond_true,hr];rfl),trivial⟩,rfl⟩
  |false=>
   rw [hb] at hp hs
   repeat' ((conv=>whnf);first | exact zf | refine zm ?_ | refine zc hp ?_ | refine (.inl ⟨by unfold eW;omega,?_⟩) | intro _)
   exact ⟨i+1,hlt,bE hlt (bN i),zzz,⟨a8 (by rw [hs];rfl),trivial⟩,rfl⟩
 ·have hge:i=6:=by have:=of_decide_eq_false hge;omega
  subst hge
  conv=>whnf
  refine ⟨B3 p 6,rfl,?_⟩
  repeat' ((conv=>whnf);first | exact zf | refine zm ?_ | intro _)
theorem DJ (p:Int):∀i,i≤6→zP (B3 p i):=λi hi=>aY (vl p i) (by omega)
def fh (a b:Lb) (p:Int):Bool:=iA (oT b.s (Jk p)) a.s&&iA (oT a.i (Jk p)) b.i
theorem BK (a b:List UInt8):zP (oT a b):=ft _
theorem uZ (a b:Lb) (p:Int) (ha:cO a) (hb:cO b):bJ Tryz.prog 294 [jU a,jU b,.d (.int .u8 p)] (.d (.bool (fh a b p))):=by
 have h0:=RX p;have hp:zP (Jk p):=DJ p 6 (aQ _);have h1:=w9 b.s (Jk p) hb.1 hp;have h2:=l4 (oT b.s (Jk p)) a.s (BK _ _) ha.1;have h3:=w9 a.i (Jk p) ha.2 hp;have h4:=l4 (oT a.i (Jk p)) b.i (BK _ _) hb.2;unfold fh;cases hb:iA (oT b.s (Jk p)) a.s with
 |true=>
  rw [hb] at h2;refine s294.go (keep:=false) rfl ?_
  repeat' ((conv=>whnf);first | exact zf | refine zm ?_ | refine zc h0 ?_ | refine zc h1 ?_ | refine zc h2 ?_ | refine zc h3 ?_ | refine zc h4 ?_ | intro _)
 |false=>
  rw [hb] at h2;refine s294.go (keep:=false) rfl ?_
  repeat' ((conv=>whnf);first | exact zf | refine zm ?_ | refine zc h0 ?_ | refine zc h1 ?_ | refine zc h2 ?_ | intro _)
end Go.Proofs.YtjpgfgajkjhonaaGreatDoor
namespace Go.Proofs.YtjpgfgajkjhonaaGreatDoor
open Go.RowKit Go.Shelf Go.Proofs
def dw:Go.Shelf.Ren:=⟨λ| 240=>341 | 276=>342 | 166=>339 | 169=>340 | 167=>338 | n=>n,λ| 37=>188 | 70=>401 | 72=>403 | 164=>409 | 127=>391 | 75=>262 | 80=>324 | n=>n,λ| n=>n⟩
theorem writeString:Lays.n166 Tryz.prog dw where
 mixed:=by kernel_rfl
 f166:=Tryz.func339.trans (congrArg some (by kernel_rfl))
 f240:=Tryz.func341.trans (congrArg some (by kernel_rfl))
 f276:=Tryz.func342.trans (congrArg some (by kernel_rfl))
 t0:=Tryz.underlying0
 a0:=Tryz.isAgg0
 z0:=Tryz.sizeOf0
 v0:=Tryz.zeroValue0
 t3:=Tryz.underlying3
 a3:=Tryz.isAgg3
 z3:=Tryz.sizeOf3
 v3:=Tryz.zeroValue3
 t4:=Tryz.underlying4
 a4:=Tryz.isAgg4
 z4:=Tryz.sizeOf4
 v4:=Tryz.zeroValue4
 t9:=Tryz.underlying9
 a9:=Tryz.isAgg9
 z9:=Tryz.sizeOf9
 v9:=Tryz.zeroValue9
 t20:=Tryz.underlying20
 a20:=Tryz.isAgg20
 z20:=Tryz.sizeOf20
 v20:=Tryz.zeroValue20
 t37:=Tryz.underlying188
 a37:=Tryz.isAgg188
 z37:=Tryz.sizeOf188
 v37:=Tryz.zeroValue188
 t70:=Tryz.underlying401
 a70:=Tryz.isAgg401
 z70:=Tryz.sizeOf401
 v70:=Tryz.zeroValue401
 t72:=Tryz.underlying403
 a72:=Tryz.isAgg403
 z72:=Tryz.sizeOf403
 v72:=Tryz.zeroValue403
 t75:=Tryz.underlying262
 a75:=Tryz.isAgg262
 z75:=Tryz.sizeOf262
 v75:=Tryz.zeroValue262
 t164:=Tryz.underlying409
 a164:=Tryz.isAgg409
 z164:=Tryz.sizeOf409
 v164:=Tryz.zeroValue409
def rQ:Go.Shelf.Ren:=⟨λ| 240=>341 | 276=>342 | 166=>339 | 169=>340 | 167=>338 | n=>n,λ| 37=>188 | 70=>401 | 72=>403 | 164=>409 | 127=>391 | 75=>262 | 80=>324 | n=>n,λ| n=>n⟩
theorem Cc:Lays.n167 Tryz.prog rQ where
 mixed:=by kernel_rfl
 f167:=Tryz.func338.trans (congrArg some (by kernel_rfl))
 f240:=Tryz.func341.trans (congrArg some (by kernel_rfl))
 f276:=Tryz.func342.trans (congrArg some (by kernel_rfl))
 t0:=Tryz.underlying0
 a0:=Tryz.isAgg0
 z0:=Tryz.sizeOf0
 v0:=Tryz.zeroValue0
 t4:=Tryz.underlying4
 a4:=Tryz.isAgg4
 z4:=Tryz.sizeOf4
 v4:=Tryz.zeroValue4
 t5:=Tryz.underlying5
 a5:=Tryz.isAgg5
 z5:=Tryz.sizeOf5
 v5:=Tryz.zeroValue5
 t9:=Tryz.underlying9
 a9:=Tryz.isAgg9
 z9:=Tryz.sizeOf9
 v9:=Tryz.zeroValue9
 t20:=Tryz.underlying20
 a20:=Tryz.isAgg20
 z20:=Tryz.sizeOf20
 v20:=Tryz.zeroValue20
 t37:=Tryz.underlying188
 a37:=Tryz.isAgg188
 z37:=Tryz.sizeOf188
 v37:=Tryz.zeroValue188
 t70:=Tryz.underlying401
 a70:=Tryz.isAgg401
 z70:=Tryz.sizeOf401
 v70:=Tryz.zeroValue401
 t72:=Tryz.underlying403
 a72:=Tryz.isAgg403
 z72:=Tryz.sizeOf403
 v72:=Tryz.zeroValue403
 t75:=Tryz.underlying262
 a75:=Tryz.isAgg262
 z75:=Tryz.sizeOf262
 v75:=Tryz.zeroValue262
 t164:=Tryz.underlying409
 a164:=Tryz.isAgg409
 z164:=Tryz.sizeOf409
 v164:=Tryz.zeroValue409
def yU:Go.Shelf.Ren:=⟨λ| 240=>341 | 276=>342 | 166=>339 | 169=>340 | 167=>338 | n=>n,λ| 37=>188 | 70=>401 | 72=>403 | 164=>409 | 127=>391 | 75=>262 | 80=>324 | n=>n,λ| n=>n⟩
theorem Ku:Lays.n169 Tryz.prog yU where
 mixed:=by kernel_rfl
 f169:=Tryz.func340.trans (congrArg some (by kernel_rfl))
 t0:=Tryz.underlying0
 a0:=Tryz.isAgg0
 z0:=Tryz.sizeOf0
 v0:=Tryz.zeroValue0
 t3:=Tryz.underlying3
 a3:=Tryz.isAgg3
 z3:=Tryz.sizeOf3
 v3:=Tryz.zeroValue3
 t9:=Tryz.underlying9
 a9:=Tryz.isAgg9
 z9:=Tryz.sizeOf9
 v9:=Tryz.zeroValue9
 t37:=Tryz.underlying188
 a37:=Tryz.isAgg188
 z37:=Tryz.sizeOf188
 v37:=Tryz.zeroValue188
 t70:=Tryz.underlying401
 a70:=Tryz.isAgg401
 z70:=Tryz.sizeOf401
 v70:=Tryz.zeroValue401
 t72:=Tryz.underlying403
 a72:=Tryz.isAgg403
 z72:=Tryz.sizeOf403
 v72:=Tryz.zeroValue403
 t127:=Tryz.underlying391
 a127:=Tryz.isAgg391
 z127:=Tryz.sizeOf391
 v127:=Tryz.zeroValue391
end Go.Proofs.YtjpgfgajkjhonaaGreatDoor
namespace Go.Proofs.YtjpgfgajkjhonaaGreatDoor
open Go.RowKit Go.Shelf Go.Proofs
def Nf:Go.Shelf.Ren:=⟨λ| 143=>213 | 219=>275 | 217=>308 | 225=>309 | 224=>310 | 267=>311 | 266=>333 | 314=>334 | n=>n,λ| 9=>9 | 3=>3 | 4=>4 | 5=>5 | 46=>198 | 146=>398 | 51=>293 | n=>n,λ| 1=>1 | n=>n⟩
theorem index:Lays.n143 Tryz.prog Nf where
 mixed:=by kernel_rfl
 f143:=Tryz.func213.trans (congrArg some (by kernel_rfl))
 f217:=Tryz.func308.trans (congrArg some (by kernel_rfl))
 f219:=Tryz.func275.trans (congrArg some (by kernel_rfl))
 f224:=Tryz.func310.trans (congrArg some (by kernel_rfl))
 f225:=Tryz.func309.trans (congrArg some (by kernel_rfl))
 f266:=Tryz.func333.trans (congrArg some (by kernel_rfl))
 f267:=Tryz.func311.trans (congrArg some (by kernel_rfl))
 f314:=Tryz.func334.trans (congrArg some (by kernel_rfl))
 t3:=Tryz.underlying3
 a3:=Tryz.isAgg3
 z3:=Tryz.sizeOf3
 v3:=Tryz.zeroValue3
 t4:=Tryz.underlying4
 a4:=Tryz.isAgg4
 z4:=Tryz.sizeOf4
 v4:=Tryz.zeroValue4
 t5:=Tryz.underlying5
 a5:=Tryz.isAgg5
 z5:=Tryz.sizeOf5
 v5:=Tryz.zeroValue5
 t9:=Tryz.underlying9
 a9:=Tryz.isAgg9
 z9:=Tryz.sizeOf9
 v9:=Tryz.zeroValue9
 t46:=Tryz.underlying198
 a46:=Tryz.isAgg198
 z46:=Tryz.sizeOf198
 v46:=Tryz.zeroValue198
 t51:=Tryz.underlying293
 a51:=Tryz.isAgg293
 z51:=Tryz.sizeOf293
 v51:=Tryz.zeroValue293
 t146:=Tryz.underlying398
 a146:=Tryz.isAgg398
 z146:=Tryz.sizeOf398
 v146:=Tryz.zeroValue398
 g1:=by kernel_rfl
def h_:Go.Shelf.Ren:=⟨λ| 22=>48 | 29=>88 | 30=>89 | 36=>132 | 17=>196 | n=>n,λ| 24=>93 | 9=>9 | 3=>3 | 4=>4 | 0=>0 | n=>n,λ| n=>n⟩
theorem insert:Lays2.n22 Tryz.prog h_ where
 mixed:=by kernel_rfl
 f17:=Tryz.func196.trans (congrArg some (by kernel_rfl))
 f22:=Tryz.func48.trans (congrArg some (by kernel_rfl))
 f29:=Tryz.func88.trans (congrArg some (by kernel_rfl))
 f30:=Tryz.func89.trans (congrArg some (by kernel_rfl))
 f36:=Tryz.func132.trans (congrArg some (by kernel_rfl))
 t0:=Tryz.underlying0
 a0:=Tryz.isAgg0
 z0:=Tryz.sizeOf0
 v0:=Tryz.zeroValue0
 t3:=Tryz.underlying3
 a3:=Tryz.isAgg3
 z3:=Tryz.sizeOf3
 v3:=Tryz.zeroValue3
 t4:=Tryz.underlying4
 a4:=Tryz.isAgg4
 z4:=Tryz.sizeOf4
 v4:=Tryz.zeroValue4
 t9:=Tryz.underlying9
 a9:=Tryz.isAgg9
 z9:=Tryz.sizeOf9
 v9:=Tryz.zeroValue9
 t24:=Tryz.underlying93
 a24:=Tryz.isAgg93
 z24:=Tryz.sizeOf93
 v24:=Tryz.zeroValue93
 i9:=by kernel_rfl
end Go.Proofs.YtjpgfgajkjhonaaGreatDoor
