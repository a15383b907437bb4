/- Lemmas. Conditions: none. -/
import Derived.Test.YtjpgfgajkjhonaaGreatDoorQHAZ
set_option maxHeartbeats 4000000
namespace Go.Proofs.YtjpgfgajkjhonaaGreatDoor
open Go.Vx
set_option maxRecDepth 100000
theorem Tj {K:KT} (a b:Int) (hk:∀v:Bool,K (.ret (.d (.bool v))) []):Z1 327 [.d (.int .u8 a),.d (.int .u8 b)] [] K:=by
 refine sh0 Tryz.f327 ?_
 repeat' ((conv=>whnf);first | exact zf | refine zm ?_ | intro _)
 exact hk _
theorem Hc {K:KT} (l:List UInt8) (hl:l.length≤1000) (hk:∀s:List UInt8,s.length≤256→K (.ret (.d (.str s))) []):Z1 297 [.d (.str l)] [] K:=by
 refine sh0 Tryz.f297 ?_
 repeat' ((conv=>whnf);first | exact zf | refine zm ?_ | intro _)
 conv=>whnf
 refine bN [(0,.d (.str l))] (λp:Nat×List UInt8=>p.1≤256∧p.2.length≤p.1) (λp=>[(4,.d (.int .i64 p.1)),(3,.d (.str p.2))]) (λ_=>[]) (λp=>256 - p.1) (0,[]) ⟨ah _,aR _⟩ ?_ ?_ ?_ (λp hp=>?_)
 ·exact zzz
 ·exact zzz
 ·exact rfl
 obtain ⟨v,out⟩:=p;dsimp only at hp ⊢
 repeat' ((conv=>whnf);first | exact zf | refine zm ?_ | intro _)
 refine aX (λhlt=>?_) (λhge=>?_)
 ·have hlt:v<256:=by have:=θ hlt;omega
  repeat' ((conv=>whnf);first | exact zf | refine zm ?_ | intro _)
  conv=>whnf
  refine bN [(0,.d (.str l)),(3,.d (.str out)),(4,.d (.int .i64 v)),(5,.d (.int .u8 v))] (λp:Nat×Bool×Bool=>p.1≤l.length) (λp=>[(8,.d (.int .i64 p.1)),(6,.d (.bool p.2.1)),(7,.d (.bool p.2.2))]) (λ_=>[]) (λp=>l.length - p.1) (0,false,true) (ah _) ?_ ?_ ?_ (λq hq=>?_)
  ·exact zzz
  ·exact zzz
  ·exact rfl
  obtain ⟨i,th,le⟩:=q;have hq:i≤l.length:=hq;dsimp only
  repeat' ((conv=>whnf);first | exact zf | refine zm ?_ | intro _)
  refine aX (λhli=>?_) (λhgi=>?_)
  ·have hli:i<l.length:=by have:=θ hli;omega
   have hb:=l[i].toNat_lt;have hli':(i:Int)<(l.length:Int):=by omega
   have hin:=λ{K:KT}=>Tj (K:=K) (l[i].toNat:Int) (v:Int);have fin:∀x y:Bool,∃z:Nat×Bool×Bool,z.1≤l.length∧l.length - z.1<l.length - i∧z=(i+1,x,y):=λx y=>⟨(i+1,x,y),hli,by dsimp only;omega,rfl⟩
   have h5:∀{Q:UInt8→Prop},Q l[i]→∃b,(0≤(i:Int)∧l[(i:Int).toNat]? = some b)∧Q b:=λhQ=>⟨l[i],⟨by omega,by simp [hli]⟩,hQ⟩
   cases th<;>cases le
   all_goals
    repeat' ((conv=>whnf);first | exact zf | refine zm ?_ | refine (h5 ?_) | refine zi0 ?_ | refine (hin (λv=>?_)) | refine aX (λhb=>?_) (λhb=>?_) | intro _)
    all_goals exact ⟨(i+1,_,_),hli,(by show l.length - (i+1)<l.length - i;omega),zzz,zzz,rfl⟩
  ·cases th<;>cases le
   all_goals
    repeat' ((conv=>whnf);first | exact zf | refine zm ?_ | refine zi0 ?_ | refine ⟨[UInt8.ofNat v],by simp [cX hlt],?_⟩ | refine aX (λhb=>?_) (λhb=>?_) | intro _)
    all_goals first
     |exact ⟨(v+1,out),⟨hlt,by show out.length≤v+1;omega⟩,(by show 256 - (v+1)<256 - v;omega),⟨rfl,rfl,rfl,trivial⟩,trivial,rfl⟩
     |exact ⟨(v+1,out ++ [UInt8.ofNat v]),⟨hlt,by show (out ++ [UInt8.ofNat v]).length≤v+1;rw [aL];show out.length+1≤v+1;omega⟩,(by show 256 - (v+1)<256 - v;omega),⟨rfl,rfl,rfl,trivial⟩,trivial,rfl⟩
 ·skip
  repeat' ((conv=>whnf);first | exact zf | refine zm ?_ | intro _)
  exact hk _ (by omega)
theorem Cf {K:KT} (l:List UInt8) (hl:l.length≤1000) (hk:∀s:List UInt8,s.length≤256→K (.ret (.d (.str s))) []):Z1 261 [.d (.str l)] [] K:=by
 refine sh0 Tryz.f261 ?_
 repeat' ((conv=>whnf);first | exact zf | refine zm ?_ | intro _)
 conv=>whnf
 refine bN [(0,.d (.str l))] (λp:Nat×List UInt8=>p.1≤l.length∧p.2.length≤p.1) (λp=>[(4,.d (.int .i64 p.1)),(3,.d (.str p.2))]) (λ_=>[]) (λp=>l.length - p.1) (0,[]) ⟨ah _,aR _⟩ ?_ ?_ ?_ (λp hp=>?_)
 ·exact zzz
 ·exact zzz
 ·exact rfl
 obtain ⟨i,out⟩:=p;dsimp only at hp ⊢
 repeat' ((conv=>whnf);first | exact zf | refine zm ?_ | intro _)
 refine aX (λhlt=>?_) (λhge=>?_)
 ·have hlt:i<l.length:=by have:=θ hlt;omega
  have hb:=l[i].toNat_lt;have h5:∀{Q:UInt8→Prop},Q l[i]→∃b,(0≤(i:Int)∧l[(i:Int).toNat]? = some b)∧Q b:=λhQ=>⟨l[i],⟨by omega,by simp [hlt]⟩,hQ⟩
  repeat' ((conv=>whnf);first | exact zf | refine zm ?_ | refine (h5 ?_) | refine zi0 ?_ | refine ⟨[l[i] &&& 63],κ (λx=>[[D.int .u8 x]]) (xi l[i] 63),?_⟩ | intro _)
  exact ⟨(i+1,out ++ [l[i] &&& 63]),⟨hlt,by show (out ++ [l[i] &&& 63]).length≤i+1;rw [aL];show out.length+1≤i+1;omega⟩,(by show l.length - (i+1)<l.length - i;omega),⟨rfl,rfl,rfl,trivial⟩,trivial,rfl⟩
 ·have h1:=λ{K:KT}=>Hc (K:=K) out (by omega)
  repeat' ((conv=>whnf);first | exact zf | refine zm ?_ | refine (h1 (λs hs=>?_)) | intro _)
  exact hk _ hs
theorem L9 {K:KT} (L:Lb) (h1:L.s.length≤1000) (h2:L.i.length≤1000) (hk:∀l:Lb,K (.ret (jT l)) []):Z1 191 [jT L] [] K:=by
 have a1:=λ{K:KT}=>Cf (K:=K) L.s h1;have a2:=λ{K:KT}=>Cf (K:=K) L.i h2;refine sh0 Tryz.f191 ?_
 repeat' ((conv=>whnf);first | exact zf | refine (c_ (c_ ?_)) | refine zm ?_ | refine (a1 (λs hs=>?_)) | refine (a2 (λt ht=>?_)) | refine And.intro ?_ ?_ | intro _)
 all_goals exact hk ⟨s,t⟩
theorem G6 {K:KT} (L:Lb) (h1:L.s.length≤1000) (h2:L.i.length≤1000) (hk:∀b:Bool,K (.ret (.d (.bool b))) []):Z1 119 [jT L] [] K:=by
 have a1:=λ{K:KT}=>L9 (K:=K) L h1 h2;refine s119.go (keep:=false) rfl ?_
 repeat' ((conv=>whnf);first | exact zf | refine (c_ (c_ ?_)) | refine zm ?_ | refine (a1 (λl=>?_)) | refine And.intro ?_ ?_ | intro _)
 all_goals exact hk _
def vD:List (Nat×List UInt8):=[(0,[48]),(1,[49]),(2,[50]),(10,[49,48])]
theorem FJ (n:Nat) (d:List UInt8) (h:(n,d)∈vD):Z0 326 [.d (.int .u64 n)] (.d (.str d)):=by
 have hd:n<100∧d=bif decide (9<n) then [UInt8.ofNat (48+n / 10),UInt8.ofNat (48+n % 10)] else [UInt8.ofNat (48+n)]:=by
  simp only [vD,a8,bW,cY,or_false] at h;rcases h with ⟨rfl,rfl⟩ | ⟨rfl,rfl⟩ | ⟨rfl,rfl⟩ | ⟨rfl,rfl⟩<;>decide
 obtain ⟨hn,rfl⟩:=hd;refine sh0 Tryz.f326 ?_
 repeat' ((conv=>whnf);first | exact zf | refine zm ?_ | intro _)
 conv=>whnf
 refine bN [] (λp:Nat×List UInt8=>(p.1≤n∧p.2 = []∧p.1=n)∨(9<n∧p.1=n / 10∧p.2 = [UInt8.ofNat (48+n % 10)])) (λp=>[(0,.d (.int .u64 p.1)),(3,.d (.str p.2))]) (λ_=>[]) (λp=>p.1) (n,[]) (.inl ⟨aR _,rfl,rfl⟩) ?_ ?_ ?_ (λp hp=>?_)
 ·exact zzz
 ·exact zzz
 ·exact rfl
 obtain ⟨u,s⟩:=p;dsimp only at hp ⊢
 repeat' ((conv=>whnf);first | exact zf | refine zm ?_ | intro _)
 refine aX (λhlt=>?_) (λhge=>?_)
 ·have hlt:9<u:=by have:=θ hlt;omega
  have hu:u=n∧s = []:=by
   rcases hp with h | h
   ·exact ⟨h.2.2,h.2.1⟩
   ·omega
  obtain ⟨rfl,rfl⟩:=hu;have m1:(u:Int).tmod 10=((u % 10:Nat):Int):=by rw [bD (by omega)];omega
  have m2:(u:Int).tdiv 10=((u / 10:Nat):Int):=by rw [Int.tdiv_eq_ediv_of_nonneg (by omega)];omega
  have hw:(48+(u % 10)) % 256=48+u % 10:=by omega
  repeat' ((conv=>whnf);first | exact zf | refine zm ?_ | refine zi0 ?_ | refine ⟨[UInt8.ofNat (48+u % 10)],by simp only [m1];simp [hw],?_⟩ | intro _)
  exact ⟨(u / 10,[UInt8.ofNat (48+u % 10)]),.inr ⟨hlt,rfl,rfl⟩,(by show u / 10<u;omega),⟨iH (by show V.d (.int .u64 ((u:Int).tdiv 10))=_;rw [m2]),rfl,trivial⟩,trivial,rfl⟩
 ·have hge:u≤9:=by have:=ι hge;omega
  have hw:(48+u) % 256=48+u:=by omega
  rcases hp with h | h
  ·obtain ⟨_,rfl,rfl⟩:=h;rw [show decide (9<u)=false by simp;omega]
   repeat' ((conv=>whnf);first | exact zf | refine zm ?_ | refine zi0 ?_ | refine ⟨[UInt8.ofNat (48+u)],by simp [hw],?_⟩ | intro _)
  ·obtain ⟨h9,rfl,rfl⟩:=h;rw [show decide (9<n)=true by simp;omega]
   repeat' ((conv=>whnf);first | exact zf | refine zm ?_ | refine zi0 ?_ | refine ⟨[UInt8.ofNat (48+n / 10)],by simp [hw],?_⟩ | intro _)
theorem Ko (n:Nat) (d:List UInt8) (h:(n,d)∈vD):Z0 296 [.d (.int .i64 n)] (.d (.str d)):=by
 have h1:=FJ n d h;have hn:n<100:=by
  simp only [vD,a8,bW,cY,or_false] at h;rcases h with ⟨rfl,rfl⟩ | ⟨rfl,rfl⟩ | ⟨rfl,rfl⟩ | ⟨rfl,rfl⟩<;>decide
 refine sh0 Tryz.f296 ?_
 exact zk1 h1
def LV (n:Nat) (d:List UInt8) (i:Nat):Int:=bif Nat.beq i 0 then 0 else bif Nat.beq i d.length then n else n / 10
theorem Gr (n:Nat) (d:List UInt8) (h:(n,d)∈vD):Z0 260 [.d (.str d)] (.tu [.d (.int .i64 n),.d (.bool true)]):=by
 have h1:=Ko n d h;simp only [vD,a8,bW,cY,or_false] at h;rcases h with ⟨rfl,rfl⟩ | ⟨rfl,rfl⟩ | ⟨rfl,rfl⟩ | ⟨rfl,rfl⟩
 all_goals
  refine sh0 Tryz.f260 ?_
  repeat' ((conv=>whnf);first | exact zf | refine zm ?_ | refine zt ?_ | refine zu ?_ | intro _)
  conv=>whnf
 ·skip
  refine bN [(0,.d (.str [48]))] (λi:Nat=>i≤1) (λi=>[(5,.d (.int .i64 i)),(4,.d (.int .u64 (LV 0 [48] i)))]) (λ_=>[]) (λi=>1 - i) 0 (ah _) ?_ ?_ ?_ (λi hi=>?_)
  ·exact zzz
  ·exact zzz
  ·exact rfl
  match i,hi with
  |0,_=>
   repeat' ((conv=>whnf);first | exact zf | refine zm ?_ | refine (ft (by decide) ?_) | refine (ga (by decide) ?_) | refine ⟨_,⟨by decide,rfl⟩,?_⟩ | refine zi0 ?_ | intro _)
   exact ⟨1,by decide,by decide,zzz,zzz,rfl⟩
  |1,_=>
   repeat' ((conv=>whnf);first | exact zf | refine zm ?_ | refine (ft (by decide) ?_) | refine (ga (by decide) ?_) | refine ⟨_,⟨by decide,rfl⟩,?_⟩ | refine zi0 ?_ | refine zc h1 ?_ | intro _)
 ·skip
  refine bN [(0,.d (.str [49]))] (λi:Nat=>i≤1) (λi=>[(5,.d (.int .i64 i)),(4,.d (.int .u64 (LV 1 [49] i)))]) (λ_=>[]) (λi=>1 - i) 0 (ah _) ?_ ?_ ?_ (λi hi=>?_)
  ·exact zzz
  ·exact zzz
  ·exact rfl
  match i,hi with
  |0,_=>
   repeat' ((conv=>whnf);first | exact zf | refine zm ?_ | refine (ft (by decide) ?_) | refine (ga (by decide) ?_) | refine ⟨_,⟨by decide,rfl⟩,?_⟩ | refine zi0 ?_ | intro _)
   exact ⟨1,by decide,by decide,zzz,zzz,rfl⟩
  |1,_=>
   repeat' ((conv=>whnf);first | exact zf | refine zm ?_ | refine (ft (by decide) ?_) | refine (ga (by decide) ?_) | refine ⟨_,⟨by decide,rfl⟩,?_⟩ | refine zi0 ?_ | refine zc h1 ?_ | intro _)
 ·skip
  refine bN [(0,.d (.str [50]))] (λi:Nat=>i≤1) (λi=>[(5,.d (.int .i64 i)),(4,.d (.int .u64 (LV 2 [50] i)))]) (λ_=>[]) (λi=>1 - i) 0 (ah _) ?_ ?_ ?_ (λi hi=>?_)
  ·exact zzz
  ·exact zzz
  ·exact rfl
  match i,hi with
  |0,_=>
   repeat' ((conv=>whnf);first | exact zf | refine zm ?_ | refine (ft (by decide) ?_) | refine (ga (by decide) ?_) | refine ⟨_,⟨by decide,rfl⟩,?_⟩ | refine zi0 ?_ | intro _)
   exact ⟨1,by decide,by decide,zzz,zzz,rfl⟩
  |1,_=>
   repeat' ((conv=>whnf);first | exact zf | refine zm ?_ | refine (ft (by decide) ?_) | refine (ga (by decide) ?_) | refine ⟨_,⟨by decide,rfl⟩,?_⟩ | refine zi0 ?_ | refine zc h1 ?_ | intro _)
 ·skip
  refine bN [(0,.d (.str [49,48]))] (λi:Nat=>i≤2) (λi=>[(5,.d (.int .i64 i)),(4,.d (.int .u64 (LV 10 [49,48] i)))]) (λ_=>[]) (λi=>2 - i) 0 (ah _) ?_ ?_ ?_ (λi hi=>?_)
  ·exact zzz
  ·exact zzz
  ·exact rfl
  match i,hi with
  |0,_=>
   repeat' ((conv=>whnf);first | exact zf | refine zm ?_ | refine (ft (by decide) ?_) | refine (ga (by decide) ?_) | refine ⟨_,⟨by decide,rfl⟩,?_⟩ | refine zi0 ?_ | intro _)
   exact ⟨1,by decide,by decide,zzz,zzz,rfl⟩
  |1,_=>
   repeat' ((conv=>whnf);first | exact zf | refine zm ?_ | refine (ft (by decide) ?_) | refine (ga (by decide) ?_) | refine ⟨_,⟨by decide,rfl⟩,?_⟩ | refine zi0 ?_ | intro _)
   exact ⟨2,by decide,by decide,zzz,zzz,rfl⟩
  |2,_=>
   repeat' ((conv=>whnf);first | exact zf | refine zm ?_ | refine (ft (by decide) ?_) | refine (ga (by decide) ?_) | refine ⟨_,⟨by decide,rfl⟩,?_⟩ | refine zi0 ?_ | refine zc h1 ?_ | intro _)
def mL (s:List UInt8):Nat→Nat×List (List UInt8)
 |0=>(0,[])
 |i+1=>bif Nat.beq i s.length||s[i]? == some 46 then (i+1,(mL s i).2 ++ [(s.take i).drop (mL s i).1]) else mL s i
theorem DV (s:List UInt8):∀i,(mL s i).1≤i∧(mL s i).2.length≤i
 |0=>⟨aR _,aR _⟩
 |i+1=>by
  have:=DV s i;unfold mL;cases Nat.beq i s.length||s[i]? == some 46
  ·exact ⟨by rw [ε];omega,by rw [ε];omega⟩
  ·rw [δ];exact ⟨aR _,by rw [aL];show _+1≤_;omega⟩
def yR (l:List (List UInt8)):List (List D):=l.map λx=>[.str x]
theorem Qx (s:List UInt8) (hs:s.length≤1000):Z0 259 [.d (.str s)] (.d (.sl 1 (yR (mL s (s.length+1)).2))):=by
 refine sh0 Tryz.f259 ?_
 repeat' ((conv=>whnf);first | exact zf | refine zm ?_ | intro _)
 conv=>whnf
 refine bN [(0,.d (.str s)),(3,.os 1)] (λi:Nat=>i≤s.length+1) (λi=>[(5,.d (.int .i64 i)),(4,.d (.int .i64 (mL s i).1))]) (λi=>[.no,.rows 1 (yR (mL s i).2)]) (λi=>s.length+1 - i) 0 (ah _) ?_ ?_ ?_ (λi hi=>?_)
 ·exact zzz
 ·exact ⟨aU rfl,trivial⟩
 ·exact zx0
 obtain ⟨c1,c2⟩:=DV s i;have hsu:mL s (i+1)=bif Nat.beq i s.length||s[i]? == some 46 then (i+1,(mL s i).2 ++ [(s.take i).drop (mL s i).1]) else mL s i:=rfl
 have hlr:(yR (mL s i).2).length=(mL s i).2.length:=aI _
 repeat' ((conv=>whnf);first | exact zf | refine zm ?_ | intro _)
 refine aX (λhlt=>?_) (λhge=>?_)
 ·have hlt:i≤s.length:=by have:=θ hlt;omega
  by_cases he:i=s.length
  ·rw [show Nat.beq i s.length=true by rw [he];exact fG _,Bool.true_or,δ] at hsu
   repeat' ((conv=>whnf);first | exact zf | refine zm ?_ | refine zi0 ?_ | refine zt ?_ | refine zu ?_ | intro _)
   exact ⟨i+1,by omega,by omega,⟨rfl,iH (by rw [hsu];rfl),rfl,rfl,trivial⟩,⟨aU (by rw [hsu];exact (κ (B.rows 1) (bY (l₂ :=[(s.take i).drop (mL s i).1]))).symm),trivial⟩,rfl⟩
  ·have hlt:i<s.length:=by omega
   have h5:∀{Q:UInt8→Prop},Q s[i]→∃b,(0≤(i:Int)∧s[(i:Int).toNat]? = some b)∧Q b:=λhQ=>⟨s[i],⟨by omega,by simp [hlt]⟩,hQ⟩
   rw [show Nat.beq i s.length=false from (by cases h:Nat.beq i s.length with | true=>exact absurd (dH h) he | false=>rfl),Bool.false_or,aB hlt] at hsu;have hb:((some s[i]==some (46:UInt8))=decide ((s[i].toNat:Int)=46)):=by
    rw [eA];simp only [ξ,χ,aE];constructor
    ·intro h;rw [h];rfl
    ·intro h;exact UInt8.toNat.inj (by rw [show UInt8.toNat 46=46 from rfl];omega)
   rw [hb] at hsu
   by_cases h46:(s[i].toNat:Int)=46
   ·rw [φ h46,δ] at hsu
    repeat' ((conv=>whnf);first | exact zf | refine zm ?_ | refine (h5 ?_) | refine zi0 ?_ | refine zt ?_ | refine zu ?_ | intro _)
    exact ⟨i+1,by omega,by omega,⟨rfl,iH (by rw [hsu];rfl),rfl,rfl,trivial⟩,⟨aU (by rw [hsu];exact (κ (B.rows 1) (bY (l₂ :=[(s.take i).drop (mL s i).1]))).symm),trivial⟩,rfl⟩
   ·rw [τ h46,ε] at hsu
    repeat' ((conv=>whnf);first | exact zf | refine zm ?_ | refine (h5 ?_) | refine zi0 ?_ | refine zt ?_ | refine zu ?_ | intro _)
    exact ⟨i+1,by omega,by omega,⟨rfl,iH (by rw [hsu];rfl),rfl,rfl,trivial⟩,⟨aU (by rw [hsu]),trivial⟩,rfl⟩
 ·have hge:i=s.length+1:=by have:=ι hge;omega
  subst hge
  exact zj0
def ji (l:List Nat):List (List D):=l.map λ(n:Nat)=>[.int .i64 (n:Int)]
theorem Gq (s:List UInt8) (ps:List (Nat×List UInt8)) (hs:s.length≤1000) (h:(mL s (s.length+1)).2=ps.map (·.2)) (hp:∀p∈ps,p∈vD) (hl:ps.length≤24) :
  Z0 190 [.d (.str s)] (.d (.sl 1 (ji (ps.map (·.1))))):=by
 have h1:=Qx s hs;rw [h] at h1;have hlr:(yR (ps.map (·.2))).length=ps.length:=by unfold yR;rw [aI,aI]
 refine sh0 Tryz.f190 ?_
 repeat' ((conv=>whnf);first | exact zf | refine zm ?_ | refine zc h1 ?_ | intro _)
 conv=>whnf
 refine bN [(4,.d (.sl 1 (yR (ps.map (·.2))))),(3,.os 1)] (λi:Nat=>i≤ps.length) (λi=>[(5,.d (.int .i64 i))]) (λi=>[.no,.rows 1 (ji ((ps.take i).map (·.1)))]) (λi=>ps.length - i) 0 (ah _) ?_ ?_ ?_ (λi hi=>?_)
 ·exact zzz
 ·exact ⟨aU (by simp [ji]),trivial⟩
 ·exact zx0
 have hlq:(ji ((ps.take i).map (·.1))).length≤24:=by unfold ji;rw [aI,aI,af];omega
 repeat' ((conv=>whnf);first | exact zf | refine zm ?_ | intro _)
 refine aX (λhlt=>?_) (λhge=>?_)
 ·have hlt:i<ps.length:=by have:=θ hlt;omega
  have hm:ps[i]∈vD:=hp _ (cL hlt);have h2:=Gr ps[i].1 ps[i].2 hm;have hn:ps[i].1<100:=by
   have:∀q∈vD,q.1<100:=by decide
   exact this _ hm
  have hr:(yR (ps.map (·.2)))[(i:Int).toNat]? = some [.str ps[i].2]:=by
   unfold yR;rw [show (i:Int).toNat=i by omega,aC,aC,aB hlt];rfl
  have htk:ps.take (i+1)=ps.take i ++ [ps[i]]:=by rw [bu,aB hlt];rfl
  repeat' ((conv=>whnf);first | exact zf | refine zm ?_ | refine ⟨_,⟨by omega,hr,rfl⟩,?_⟩ | refine zc h2 ?_ | refine zi0 ?_ | refine zt ?_ | refine zu ?_ | intro _)
  exact ⟨i+1,by omega,by omega,zzz,⟨aU (by rw [htk];unfold ji;rw [bY,bY];rfl),trivial⟩,rfl⟩
 ·have hge:i=ps.length:=by have:=ι hge;omega
  subst hge
  repeat' ((conv=>whnf);first | exact zf | refine zm ?_ | intro _)
  rw [cu];rfl
theorem G7 (s:List UInt8) (ps:List Nat) (hp:Z0 190 [.d (.str s)] (.d (.sl 1 (ji ps)))) (h0:0<ps.length):Z0 118 [.d (.str s)] (.d (.bool true)):=by
 have hl:(ji ps).length=ps.length:=aI _;refine sh0 Tryz.f118 ?_
 repeat' ((conv=>whnf);first | exact zf | refine zm ?_ | refine zc hp ?_ | intro _)
 rw [show decide (((ji ps).length:Int)>0)=true by simp;omega];rfl
theorem Gw {K:KT} (a b:List UInt8) (x y:List Nat) (hx:Z0 190 [.d (.str a)] (.d (.sl 1 (ji x)))) (hy:Z0 190 [.d (.str b)] (.d (.sl 1 (ji y)))) (x0:0<x.length) (y0:0<y.length) (x1:x.length<100) (y1:y.length<100)
  (hk:∀r:Int,K (.ret (.d (.int .i64 r))) []):Z1 121 [.d (.str a),.d (.str b)] [] K:=by
 have lix:(ji x).length=x.length:=aI _;have liy:(ji y).length=y.length:=aI _;have gx:∀i,i<x.length→(ji x)[(i:Int).toNat]? = some [.int .i64 x[i]!]:=λi hi=>by
  unfold ji;rw [show (i:Int).toNat=i by omega,aC,aB hi];simp [hi]
 have gy:∀i,i<y.length→(ji y)[(i:Int).toNat]? = some [.int .i64 y[i]!]:=λi hi=>by
  unfold ji;rw [show (i:Int).toNat=i by omega,aC,aB hi];simp [hi]
 refine sh0 Tryz.f121 ?_
 repeat' ((conv=>whnf);first | exact zf | refine zm ?_ | refine zc hx ?_ | refine zc hy ?_ | refine zt ?_ | refine zu ?_ | intro _)
 conv=>whnf
 refine bN [(5,.d (.sl 1 (ji x))),(6,.d (.sl 1 (ji y)))] (λi:Nat=>i≤x.length) (λi=>[(7,.d (.int .i64 i))]) (λ_=>[]) (λi=>x.length - i) 0 (ah _) ?_ ?_ ?_ (λi hi=>?_)
 ·exact zzz
 ·exact zzz
 ·exact rfl
 by_cases hlx:i<x.length
 ·have tx:decide ((i:Int)<((ji x).length:Int))=true:=by simp;omega
  have qx:=gx i hlx
  by_cases hly:i<y.length
  ·have ty:decide ((i:Int)<((ji y).length:Int))=true:=by simp;omega
   have qy:=gy i hly
   repeat' ((conv=>whnf);first | exact zf | refine zm ?_ | refine (ft tx ?_) | refine (ft ty ?_) | refine ⟨_,⟨by omega,qx,rfl⟩,?_⟩ | refine ⟨_,⟨by omega,qy,rfl⟩,?_⟩ | refine zi0 ?_ | refine aX (λhb=>?_) (λhb=>?_) | intro _)
   all_goals first
    |exact hk _
    |exact ⟨i+1,by omega,by omega,zzz,zzz,rfl⟩
  ·have ty:decide ((i:Int)<((ji y).length:Int))=false:=by simp;omega
   repeat' ((conv=>whnf);first | exact zf | refine zm ?_ | refine (ft tx ?_) | refine (ga ty ?_) | refine zi0 ?_ | refine aX (λhb=>?_) (λhb=>?_) | intro _)
   exact hk _
 ·have tx:decide ((i:Int)<((ji x).length:Int))=false:=by simp;omega
  repeat' ((conv=>whnf);first | exact zf | refine zm ?_ | refine (ga tx ?_) | refine zi0 ?_ | refine aX (λhb=>?_) (λhb=>?_) | intro _)
  exact hk _
def numsOf:List (List (Nat×List UInt8)):=[[(0,[48])],[(1,[49])],[(0,[48]),(0,[48])],[(0,[48]),(1,[49])],[(2,[50])],[(10,[49,48])],[(1,[49]),(0,[48])],[(0,[48]),(0,[48]),(0,[48])]]
theorem rP:∀s∈gz,∃x:List Nat,Z0 190 [.d (.str s)] (.d (.sl 1 (ji x)))∧0<x.length∧x.length<100:=by
 have key:∀s∈gz,∃ps∈numsOf,s.length≤1000∧(mL s (s.length+1)).2=ps.map (·.2)∧(∀p∈ps,p∈vD)∧ps.length≤24∧0<ps.length:=by decide
 intro s hs;obtain ⟨ps,_,h1,h2,h3,h4,h5⟩:=key s hs;exact ⟨_,Gq s ps h1 h2 h3 h4,by rw [aI];exact h5,by rw [aI];omega⟩
def nF (p:List UInt8×Ob):List D:=.str p.1 :: ek p.2
def TT (l:List (List UInt8×Ob)):Prop:=∀p∈l,p.1∈gz
def NS (l:List (List UInt8×Ob)):H:=[.cells [.d (.sl 20 (l.map nF))]]
theorem MS {K:KT} (l:List (List UInt8×Ob)) (s:List UInt8) (hl:l.length≤1000) (hk:∀r:Int,K (.ret (.d (.int .i64 r))) (NS l)):Z1 120 [.p 0 0,.d (.str s)] (NS l) K:=by
 have hm:(l.map nF).length=l.length:=aI _;refine sh0 Tryz.f120 ?_
 repeat' ((conv=>whnf);first | exact zf | refine zm ?_ | refine zt ?_ | refine zu ?_ | intro _)
 conv=>whnf
 refine bN [(0,.p 0 0),(1,.d (.str s))] (λi:Nat=>i≤l.length) (λi=>[(5,.d (.int .i64 i))]) (λ_=>NS l) (λi=>l.length - i) 0 (ah _) ?_ ?_ ?_ (λi hi=>?_)
 ·exact zzz
 ·exact zzz
 ·exact rfl
 repeat' ((conv=>whnf);first | exact zf | refine zm ?_ | intro _)
 refine aX (λhlt=>?_) (λhge=>?_)
 ·have hlt:i<l.length:=by have:=θ hlt;omega
  have hg:(l.map nF)[(i:Int).toNat]? = some (.str l[i].1 :: ek l[i].2):=by rw [show (i:Int).toNat=i by omega,aC,aB hlt];rfl
  repeat' ((conv=>whnf);first | exact zf | refine zm ?_ | refine ⟨_,⟨by omega,hg,rfl⟩,?_⟩ | refine zi0 ?_ | refine aX (λhb=>?_) (λhb=>?_) | intro _)
  all_goals first
   |exact hk _
   |exact ⟨i+1,by omega,by omega,zzz,zzz,rfl⟩
 ·skip
  repeat' ((conv=>whnf);first | exact zf | refine zm ?_ | refine zi0 ?_ | refine aX (λhb=>?_) (λhb=>?_) | intro _)
  exact hk _
theorem RU {K:KT} (l:List (List UInt8×Ob)) (s:List UInt8) (o:Ob) (hr:TT l) (hs:s∈gz) (h1:o.l.s.length≤1000) (h2:o.l.i.length≤1000)
  (hn:l.length≤500) (hk:∀e:Int,K (.ret (.d (.int .i64 e))) (NS l)) (hkB:∀l',TT l'→l'.length≤l.length+1→K (.ret (.d (.int .i64 0))) [.cells [.os 1],.rows 20 (l'.map nF)]):Z1 78 [.p 0 0,.d (.str s),fz o] (NS l) K:=by
 obtain ⟨x,hx,x0,x1⟩:=rP s hs;have hm:(l.map nF).length=l.length:=aI _;have h118:=G7 s x hx x0;have h119:=λ{K:KT}=>G6 (K:=K) o.l h1 h2;have h120:=λ{K:KT}=>MS (K:=K) l s (by omega);have hB:∀i:Nat,K (.ret (.d (.int .i64 0))) [.cells [.os 1],.rows 20 (List.drop (Int.toNat 0) (List.take (i:Int).toNat (l.map nF)) ++ [.str s :: ek o]++List.drop (i:Int).toNat (l.map nF))]:=λi=>by
  have h1:=hkB (l.take i++(s,o) :: l.drop i) (λp hp=>by
   rcases aS.1 hp with h | h
   ·exact hr p (dR h)
   ·rcases a8.1 h with h | h
    ·rw [h];exact hs
    ·exact hr p (dS h)) (by rw [aL,aV,af,cE];omega)
  have e:(l.take i++(s,o) :: l.drop i).map nF=List.drop (Int.toNat 0) (List.take (i:Int).toNat (l.map nF)) ++ [.str s :: ek o]++List.drop (i:Int).toNat (l.map nF):=by
   rw [show (i:Int).toNat=i by omega,bY,cH,fo,pQ,bO];rfl
  rw [e] at h1;exact h1
 by_cases k3:o.k<3
 ·have t3:decide (o.k<3)=true:=by simp [k3]
  refine sh0 Tryz.f78 ?_
  repeat' ((conv=>whnf);first | exact zf | refine zm ?_ | refine zc h118 ?_ | refine (ft t3 ?_) | refine zr0 ?_ | intro _)
  exact hk _
 ·have t3:decide (o.k<3)=false:=by simp;omega
  by_cases k7:7<o.k
  ·have t7:decide (o.k>7)=true:=by simp [k7]
   refine sh0 Tryz.f78 ?_
   repeat' ((conv=>whnf);first | exact zf | refine zm ?_ | refine zc h118 ?_ | refine (ga t3 ?_) | refine (ft t7 ?_) | refine zr0 ?_ | intro _)
   exact hk _
  ·have t7:decide (o.k>7)=false:=by simp;omega
   refine sh0 Tryz.f78 ?_
   repeat' ((conv=>whnf);first | exact zf | refine zm ?_ | refine zc h118 ?_ | refine (ga t3 ?_) | refine (ga t7 ?_) | refine (h119 (λb=>?_)) | intro _)
   cases b with
   |false=>
    repeat' ((conv=>whnf);first | exact zf | refine zm ?_ | intro _)
    exact hk _
   |true=>
    repeat' ((conv=>whnf);first | exact zf | refine zm ?_ | refine zr0 ?_ | refine (h120 (λr=>?_)) | intro _)
    refine aX (λhlt=>?_) (λhge=>?_)
    ·skip
     repeat' ((conv=>whnf);first | exact zf | refine zm ?_ | intro _)
     exact hk _
    ·skip
     repeat' ((conv=>whnf);first | exact zf | refine zm ?_ | intro _)
     conv=>whnf
     refine bN [(0,.p 0 0),(1,.d (.str s)),(5,.p 1 0)] (λi:Nat=>i≤l.length) (λi=>[(7,.d (.int .i64 i))]) (λ_=>[.cells [.d (.sl 20 (l.map nF))],.cells ((ek o).map .d)]) (λi=>l.length - i) 0 (ah _) ?_ ?_ ?_ (λi hi=>?_)
     ·exact zzz
     ·exact zzz
     ·exact rfl
     by_cases hlt:i<l.length
     ·have tx:decide ((i:Int)<((l.map nF).length:Int))=true:=by simp;omega
      have hg:(l.map nF)[(i:Int).toNat]? = some (.str l[i].1 :: ek l[i].2):=by rw [show (i:Int).toNat=i by omega,aC,aB hlt];rfl
      obtain ⟨y,hy,y0,y1⟩:=rP l[i].1 (hr _ (cL hlt));have h121:=λ{K:KT}=>Gw (K:=K) l[i].1 s y x hy hx y0 x0 y1 x1
      repeat' ((conv=>whnf);first | exact zf | refine zm ?_ | refine (ft tx ?_) | refine ⟨_,⟨by omega,hg,rfl⟩,?_⟩ | refine (h121 (λr=>?_)) | intro _)
      refine aX (λhlt=>?_) (λhge=>?_)
      ·skip
       repeat' ((conv=>whnf);first | exact zf | refine zm ?_ | refine zi0 ?_ | intro _)
       exact ⟨i+1,by omega,by omega,zzz,zzz,rfl⟩
      ·skip
       repeat' ((conv=>whnf);first | exact zf | refine (c_ (c_ ?_)) | refine zm ?_ | refine And.intro ?_ ?_ | intro _)
       all_goals exact hB i
     ·have tx:decide ((i:Int)<((l.map nF).length:Int))=false:=by simp;omega
      repeat' ((conv=>whnf);first | exact zf | refine (c_ (c_ ?_)) | refine zm ?_ | refine (ga tx ?_) | refine And.intro ?_ ?_ | intro _)
      all_goals exact hB i
theorem EG {P:Program} {f:Nat} {vs:List V} {h:H} {K:KT} (hs:vI P f vs h λo h'=>K o h'∨∃id z rs x,h'[id]? = some (.rows z rs)∧o = .ret (.d x)∧K o (oP id (.d (.sl z rs)) h')):vI P f vs h K:=by
 refine ⟨hs.1,λG w ρ vs0 h1 h2 h3=>(hs.2 G w ρ vs0 h1 h2 h3).mono λe w' ⟨G',ρ',h',out,hO,hrep,hk⟩=>?_⟩;rcases hk with hk | ⟨id,z,rs,x,hid,rfl,hk⟩
 ·exact ⟨G',ρ',h',out,hO,hrep,hk⟩
 ·have hi:id<ρ'.length:=by rw [hO.hr.len];exact (aA.1 hid).1
  obtain ⟨v,e1,hv⟩:=hrep;exact ⟨_,ρ',oP id (.d (.sl z rs)) h',.ret (.d x),hO.free (aB hi) hid,⟨v,e1,hv.mono (λ_ h=>.inl h) (λ_ _=>rfl) (λ_ _=>rfl)⟩,hk⟩
theorem UK {K:KT} (l:List (List UInt8×Ob)) (s:List UInt8) (o:Ob) (hr:TT l) (hs:s∈gz) (h1:o.l.s.length≤1000) (h2:o.l.i.length≤1000)
  (hn:l.length≤500) (hk:∀e:Int,K (.ret (.d (.int .i64 e))) (NS l)) (hk2:∀l',TT l'→l'.length≤l.length+1→K (.ret (.d (.int .i64 0))) [.cells [.d (.sl 20 (l'.map nF))],.no]):Z1 78 [.p 0 0,.d (.str s),fz o] (NS l) K:=
 .inl (EG ((RU (K:=λo h'=>K o h'∨∃id z rs x,h'[id]? = some (.rows z rs)∧o = .ret (.d x)∧K o (oP id (.d (.sl z rs)) h')) l s o hr hs h1 h2 hn (λe=>.inl (hk e)) λl' a b=>.inr ⟨1,20,l'.map nF,_,rfl,rfl,hk2 l' a b⟩).fn (by decide)))
theorem Me (l:List (List D)) (hl:l.length<100000000):Z0 85 [.d (.sl 7 l)] (.d (.sl 7 l)):=by
 refine sh0 Tryz.f85 ?_;cases l with
 |nil=>
  repeat' ((conv=>whnf);first | exact zf | refine zm ?_ | refine And.intro ?_ ?_ | intro _)
 |cons r l=>
  exact zj0
theorem uU (o:Ob) (hl:o.va.q.length<100000000):Z0 45 [fz o] (fz o):=by
 have h1:=Me (o.va.q.map dX) (by rw [aI];exact hl);refine sh0 Tryz.f45 ?_
 exact zj1 h1
def iy (l:List (List UInt8×Ob)):List (D×Bool×List D):=l.map λp=>(.str p.1,true,ek p.2)
def bI (key:List UInt8):List (List UInt8×Ob)→Option (Nat×Ob)
 |[]=>none
 |p :: r=>if key=p.1 then some (0,p.2) else (bI key r).map λx=>(x.1+1,x.2)
theorem pJ (key:List UInt8):∀(l:List (List UInt8×Ob)) (i:Nat),qZ [2] [.d (.str key)] (g_ (iy l)) i=some ((bI key l).map λx=>(x.1+i,fz x.2))
 |[],i=>rfl
 |p :: r,i=>by
  have ih:=pJ key r (i+1);show (bif true then (match some ((key==p.1)&&true) with
   |some b=>bif b then some (some (i,fz p.2)) else qZ [2] [.d (.str key)] (g_ (iy r)) (i+1)
   |none=>none) else none)=_
  rw [bI]
  by_cases h:key=p.1
  ·rw [ζ h,h];simp
  ·rw [η h,ih];have:(key==p.1)=false:=by simpa using h
   rw [this];simp only [δ,ε,nh,Option.map_map];congr 1;congr 1
   funext x
   simp only [mU];rw [show x.1+1+i=x.1+(i+1) by omega]
abbrev kW:=List (Lb×Option Nat×List (List Nat))
def kh (l:kW):List ME:=l.map λp=>((p.1.s,p.1.i),some (p.2.1,dM (p.2.2.map cR)))
structure b8 where
  th:List (List UInt8×Ob)
  nm:kW
def j6 (s:b8):H:=[.cells [.mp 1,.mp 2],.dm (iy s.th),.ms 1 (kh s.nm) none none]
theorem N9 {K:KT} (hk:K (.ret (.p 0 0)) (j6 ⟨[],[]⟩)):Z1 18 [] [] K:=by
 exact s18.go (keep:=false) rfl (zh0 hk)
def ic (s:b8) (key:List UInt8):Ob:=((bI key s.th).map (·.2)).getD fT
def mX (s:b8) (key:List UInt8):Bool:=(bI key s.th).isSome
theorem rW {K:KT} (s:b8) (key:List UInt8) (hq:(ic s key).va.q.length<100000000) (hk:K (.ret (.tu [fz (ic s key),.d (.bool (mX s key))])) (j6 s)):Z1 16 [.p 0 0,.d (.str key)] (j6 s) K:=by
 have hc:=uU (ic s key) hq;have hf:=pJ key s.th 0;unfold ic mX at *;cases h:bI key s.th with
 |none=>
  rw [h] at hk hc hf;refine sh0 Tryz.f16 ?_
  repeat' ((conv=>whnf);first | exact zf | refine zm ?_ | intro _)
  refine ⟨_,hf,?_⟩
  exact zh1 hk hc
 |some p=>
  rw [h] at hk hc hf;refine sh0 Tryz.f16 ?_
  repeat' ((conv=>whnf);first | exact zf | refine zm ?_ | intro _)
  refine ⟨_,hf,?_⟩
  exact zh1 hk hc
theorem Kn (l:List (List UInt8×Ob)) (i:Nat) (key:List UInt8) (o:Ob):(iy l).set i (.str key,true,ek o)=iy (l.set i (key,o)):=by
 simp [iy]
def jx (s:b8) (i:Nat) (key:List UInt8) (o:Ob):b8:={ s with th:=s.th.set i (key,o) }
theorem ly {K:KT} (s:b8) (key:List UInt8) (i:Nat) (o gL:Ob) (hf:bI key s.th=some (i,gL)) (h1:gL.k=o.k) (h2:gL.l=o.l) (hq:o.va.q.length<100000000) (hk:K (.ret (.d (.int .i64 0))) (j6 (jx s i key o))) :
  Z1 111 [.p 0 0,.d (.str key),fz o] (j6 s) K:=by
 have hc:=uU o hq;have hm:=pJ key s.th 0;rw [hf] at hm;unfold jx j6 at hk;simp only [←Kn] at hk;have e1:(gL.k != o.k)=false:=by simp [h1]
 have e2:(gL.l.s==o.l.s&&(gL.l.i==o.l.i&&true))=true:=by simp [h2]
 refine s111.go (keep:=false) rfl ?_
 repeat' ((conv=>whnf);first | exact zf | refine zm ?_ | intro _)
 refine ⟨_,hm,?_⟩
 repeat' ((conv=>whnf);first | exact zf | refine zm ?_ | refine zc hc ?_ | refine zt ?_ | refine zu ?_ | intro _)
 refine ⟨_,hm,?_⟩
 repeat' ((conv=>whnf);first | exact zf | refine zm ?_ | refine zt ?_ | refine zu ?_ | intro _)
 exact hk
def Ua (l:List (List Nat)) (key:List Nat) (i:Nat):Bool:=match l[i]? with
 |some x=>decide (cmpL x key<0)
 |none=>false
def xe (l:List (List Nat)) (key:List Nat):Nat→Nat→Nat→Nat
 |0,i,_=>i
 |f+1,i,j=>bif decide (i<j) then (bif Ua l key ((i+j) / 2) then xe l key f ((i+j) / 2+1) j else xe l key f i ((i+j) / 2)) else i
def gS (l:List Nat):Prop:=l≠[]∧l.length≤24∧∀n∈l,n<100
theorem GR (a:Nat):Af .shr .u64 (a:Int) 1=((a / 2:Nat):Int):=by
 show (a:Int).fdiv (2 ^ min (1:Int).toNat IntKind.u64.bits)=_;rw [show min (1:Int).toNat IntKind.u64.bits=1 by decide,show (2:Int) ^ 1=2 by decide,Int.fdiv_eq_ediv_of_nonneg _ (by omega)];omega
def ry (l:List (List Nat)) (key:List Nat):Nat:=xe l key l.length 0 l.length
def UF (l:List (List Nat)) (key:List Nat):Bool:=match l[ry l key]? with
 |some x=>cmpL x key==0
 |none=>false
theorem xd (l:List (List Nat)) (key:List Nat):∀f i j,i≤j→j≤l.length→xe l key f i j≤l.length
 |0,i,j,h1,h2=>by rw [xe];omega
 |f+1,i,j,h1,h2=>by
  rw [xe];cases hd:decide (i<j) with
  |false=>rw [ε];omega
  |true=>
   have hd:=θ hd;rw [δ];cases Ua l key ((i+j) / 2)
   ·exact xd l key f i _ (by omega) (by omega)
   ·exact xd l key f _ j (by omega) h2
theorem zk (l:List (List Nat)) (key:List Nat) (hl:∀x∈l,gS x) (hk:gS key) (hn:l.length<1000000000) :
  Z0 46 [.d (.sl 1 (dM (l.map cR))),.d (.str (cR key)),.d (.fn 47)] (.tu [.d (.int .i64 (ry l key)),.d (.bool (UF l key))]):=by
 have e1:(dM (l.map cR)).length=l.length:=by rw [jo,aI]
 have hrow:∀(i:Nat) (x:List Nat),l[i]? = some x→(dM (l.map cR))[i]? = some [D.str (cR x)]:=λi x h=>by simp [dM,h]
 refine sh0 Tryz.f46 ?_
 repeat' ((conv=>whnf);first | exact zf | refine zm ?_ | intro _)
 conv=>whnf
 refine bN [(0,.d (.sl 1 (dM (l.map cR)))),(1,.d (.str (cR key))),(2,.d (.fn 47)),(8,.d (.int .i64 (dM (l.map cR)).length))] (λp:Nat×Nat=>(p.1≤p.2∧p.2≤l.length)∧∃f,p.2 - p.1≤f∧xe l key f p.1 p.2=ry l key) (λp=>[(9,.d (.int .i64 p.1)),(10,.d (.int .i64 p.2))]) (λ_=>[]) (λp=>p.2 - p.1) (0,l.length) ⟨⟨ah _,aR _⟩,l.length,by simp,rfl⟩ ?_ ?_ ?_ (λ⟨i,j⟩ hi=>?_)
 ·exact ⟨rfl,κ (λx:Nat=>V.d (D.int .i64 x)) e1,rfl,rfl,rfl,rfl,trivial⟩
 ·exact zzz
 ·exact zx0
 obtain ⟨⟨h1,h2⟩,f,h3,h4⟩:=hi;simp only at h1 h2 h3 h4
 repeat' ((conv=>whnf);first | exact zf | refine zm ?_ | intro _)
 refine aX (λhlt=>?_) (λhge=>?_)
 ·have hlt:i<j:=by have:=θ hlt;omega
  have hsh:Af .shr .u64 ((i:Int)+(j:Int)) 1=(((i+j) / 2:Nat):Int):=by rw [show (i:Int)+(j:Int)=((i+j:Nat):Int) by omega];exact GR _
  have hm:(i+j) / 2<l.length:=by omega
  obtain ⟨x,hx⟩:∃x,l[(i+j) / 2]? = some x:=⟨_,aB hm⟩
  have hgx:=hl x (aH hx);have ho:=C6 x key hgx.1 hgx.2.1 hgx.2.2 hk.1 hk.2.1 hk.2.2;have hlt':Ua l key ((i+j) / 2)=decide (cmpL x key<0):=by unfold Ua;rw [hx]
  obtain ⟨f,rfl⟩:∃f',f=f'+1:=⟨f - 1,by omega⟩
  rw [xe,φ hlt,δ,hlt'] at h4
  repeat' ((conv=>whnf);first | exact zf | refine zm ?_ | refine zi0 ?_ | refine ⟨[.str (cR x)],⟨by dsimp only;omega,by dsimp only;rw [hsh];exact hrow _ _ hx,rfl⟩,?_⟩ | refine zc ho ?_ | intro _)
  refine aX (λhb=>?_) (λhb=>?_)
  ·rw [show decide (cmpL x key<0)=true from hb,δ] at h4;have hs1:Af .shr .u64 ((i:Int)+(j:Int)) 1+1=(((i+j) / 2+1:Nat):Int):=by rw [hsh];rfl
   repeat' ((conv=>whnf);first | exact zf | refine zm ?_ | refine zi0 ?_ | intro _)
   exact ⟨((i+j) / 2+1,j),⟨⟨by dsimp only;omega,h2⟩,f,by dsimp only;omega,h4⟩,by dsimp only;omega,⟨κ (λx:Int=>V.d (D.int .i64 x)) hs1,rfl,rfl,rfl,rfl,rfl,trivial⟩,zzz,rfl⟩
  ·rw [show decide (cmpL x key<0)=false from hb,ε] at h4
   repeat' ((conv=>whnf);first | exact zf | refine zm ?_ | intro _)
   exact ⟨(i,(i+j) / 2),⟨⟨by dsimp only;omega,by dsimp only;omega⟩,f,by dsimp only;omega,h4⟩,by dsimp only;omega,⟨rfl,κ (λx:Int=>V.d (D.int .i64 x)) hsh,rfl,rfl,rfl,rfl,trivial⟩,zzz,rfl⟩
 ·have hij:i=j:=by have:=ι hge;omega
  subst hij;have hb:ry l key=i:=by
   rw [←h4];cases f with
   |zero=>rfl
   |succ f=>rw [xe,τ (Nat.lt_irrefl i),ε]
  unfold UF;rw [hb];cases hx:l[i]? with
  |none=>
   have hil:¬i<l.length:=by rw [List.getElem?_eq_none_iff] at hx;omega
   exact zk0
  |some x=>
   have hil:=(aA.1 hx).1;have hgx:=hl x (aH hx);have ho:=C6 x key hgx.1 hgx.2.1 hgx.2.2 hk.1 hk.2.1 hk.2.2
   repeat' ((conv=>whnf);first | exact zf | refine zm ?_ | refine zc ho ?_ | refine ⟨[.str (cR x)],⟨by dsimp only;omega,hrow _ _ hx,rfl⟩,?_⟩ | refine zt ?_ | refine zu ?_ | intro _)
def uA (ns:List (List Nat)) (kp:List Nat):List (List Nat):=ns.take (ry ns kp)++kp :: ns.drop (ry ns kp)
def ru (l:Lb):kW→Option Nat
 |[]=>none
 |p :: r=>if p.1.s=l.s∧p.1.i=l.i then some 0 else (ru l r).map (· + 1)
def qR (nm:kW) (l:Lb) (kp:List Nat) (b:Option Nat):kW:=
 match ru l nm with
 |some i=>nm.modify i λp=>(p.1,b,uA p.2.2 kp)
 |none=>nm ++ [(l,b,[kp])]
def qP (s:b8) (kp:List Nat) (o:Ob) (b:Option Nat):b8:=⟨s.th ++ [(cR kp,o)],qR s.nm o.l kp b⟩
def lY (s:b8):Prop:=s.nm.length<1000000000∧∀p∈s.nm,p.2.2.length<100000000∧∀x∈p.2.2,gS x
theorem Df {K:KT} (s:b8) (kp:List Nat) (o:Ob) (hkp:gS kp) (hl:cI o.l) (h:(o.k<3∨7<o.k)∨kf o.l=false) (hk:K (.ret (.d (.int .i64 1))) (j6 s)) :
  Z1 14 [.p 0 0,.d (.str (cR kp)),fz o] (j6 s) K:=by
 have h1:=wo kp hkp.1 hkp.2.1 hkp.2.2;have h2:=qc o.l hl
 by_cases ha:o.k<3
 ·refine s14.go (keep:=false) rfl ?_
  repeat' ((conv=>whnf);first | exact zf | refine zm ?_ | refine zc h1 ?_ | refine zt ?_ | refine zu ?_ | intro _)
  exact hk
 ·by_cases hb:7<o.k
  ·refine s14.go (keep:=false) rfl ?_
   repeat' ((conv=>whnf);first | exact zf | refine zm ?_ | refine zc h1 ?_ | refine zt ?_ | refine zu ?_ | intro _)
   exact hk
  ·have hc:kf o.l=false:=h.resolve_left λh=>h.elim ha hb;rw [hc] at h2;refine s14.go (keep:=false) rfl ?_
   repeat' ((conv=>whnf);first | exact zf | refine zm ?_ | refine zc h1 ?_ | refine zc h2 ?_ | refine zt ?_ | refine zu ?_ | intro _)
   exact hk
theorem F3 {K:KT} (s:b8) (kp:List Nat) (o gL:Ob) (i:Nat) (hkp:gS kp) (hl:cI o.l) (h3:3≤o.k) (h7:o.k≤7) (hr:kf o.l=true) (hf:bI (cR kp) s.th=some (i,gL)) (hk:K (.ret (.d (.int .i64 12))) (j6 s)) :
  Z1 14 [.p 0 0,.d (.str (cR kp)),fz o] (j6 s) K:=by
 have h1:=wo kp hkp.1 hkp.2.1 hkp.2.2;have h2:=qc o.l hl;rw [hr] at h2;have hm:=pJ (cR kp) s.th 0;rw [hf] at hm;refine s14.go (keep:=false) rfl ?_
 repeat' ((conv=>whnf);first | exact zf | refine zm ?_ | refine zc h1 ?_ | refine zc h2 ?_ | refine zt ?_ | refine zu ?_ | intro _)
 refine ⟨_,hm,?_⟩
 repeat' ((conv=>whnf);first | exact zf | refine zm ?_ | refine zt ?_ | refine zu ?_ | intro _)
 exact hk
theorem H3 (l:Lb):∀nm:kW,lS (l.s,l.i) (kh nm)=ru l nm
 |[]=>rfl
 |p :: r=>by
  have ih:=H3 l r;unfold lS kh at *;rw [cH,gX,ih,ru]
  by_cases h:p.1.s=l.s∧p.1.i=l.i
  ·rw [ζ h];simp [h.1,h.2]
  ·rw [η h];have:((p.1.s,p.1.i)==(l.s,l.i))=false:=by
    rw [beq_eq_false_iff_ne];intro e;exact h ⟨κ (·.1) e,κ (·.2) e⟩
   simp [this]
theorem vn {l:Lb}:∀{nm:kW} {i:Nat},ru l nm=some i→∃p,nm[i]? = some p∧p.1=l
 |[],_,h=>by cases h
 |p :: r,i,h=>by
  rw [ru] at h;split at h
  ·rename_i hp;cases h;refine ⟨p,rfl,?_⟩;obtain ⟨⟨a,b⟩,q⟩:=p;cases l;simp only at hp;rw [hp.1,hp.2]
  ·cases hr:ru l r with
   |none=>rw [hr] at h;cases h
   |some j=>
    rw [hr] at h;cases h;obtain ⟨q,h1,h2⟩:=vn hr;exact ⟨q,by simpa using h1,h2⟩
theorem yr {k:List UInt8×List UInt8} {x:Option (Option Nat×List (List D))}:∀{es:List ME} {i:Nat},lS k (eX i x es)=lS k es
 |[],i=>by cases i<;>rfl
 |e :: es,0=>by simp [lS,eX,gX]
 |e :: es,i+1=>by
  have ih:=yr (k:=k) (x:=x) (es:=es) (i:=i);unfold lS eX at *;rw [List.modify_succ_cons,gX,gX,ih]
theorem ve {i:Nat} {x y:Option (Option Nat×List (List D))} {es:List ME}:eX i x (eX i y es)=eX i x es:=by
 apply cj;intro j;rw [fe,fe,fe]
 by_cases h:i=j
 ·rw [ζ h,ζ h,ζ h];cases es[j]?<;>rfl
 ·rw [η h,η h,η h]
theorem Le (nm:kW) (l:Lb) (b:Option Nat) (kp:List Nat):kh (nm ++ [(l,b,[kp])])=kh nm ++ [((l.s,l.i),some (b,dM [cR kp]))]:=by simp [kh]
theorem CM (t:List (List UInt8×Ob)) (k:List UInt8) (o:Ob):iy (t ++ [(k,o)])=iy t ++ [(.str k,true,ek o)]:=by simp [iy]
theorem Ld (nm:kW) (i:Nat) (l:Lb) (g b:Option Nat) (ns:List (List Nat)) (kp:List Nat) (h:nm[i]? = some (l,g,ns)) :
  kh (nm.modify i λp=>(p.1,b,uA p.2.2 kp))=eX i (some (b,dM ((ns.map cR).take (ry ns kp)++cR kp :: (ns.map cR).drop (ry ns kp)))) (kh nm):=by
 apply cj;intro j;rw [fe];unfold kh;rw [aC,aC,l9]
 by_cases hj:i=j
 ·subst hj;rw [h,ζ rfl];simp [uA]
 ·simp [hj]
theorem KN {K:KT} (s:b8) (kp:List Nat) (o:Ob) (hkp:gS kp) (hs:lY s) (hl:cI o.l) (h3:3≤o.k) (h7:o.k≤7) (hr:kf o.l=true) (hq:o.va.q.length<100000000) (hf:bI (cR kp) s.th=none) (hk:∀b,K (.ret (.d (.int .i64 0))) (j6 (qP s kp o b))) :
  Z1 14 [.p 0 0,.d (.str (cR kp)),fz o] (j6 s) K:=by
 have h1:=wo kp hkp.1 hkp.2.1 hkp.2.2;have h2:=qc o.l hl;rw [hr] at h2;have hm:=pJ (cR kp) s.th 0;rw [hf] at hm;have hc:=uU o hq;have hmf:=H3 o.l s.nm;cases hi:ru o.l s.nm with
 |none=>
  rw [hi] at hmf;have hb:=zk [] kp (λ_ h=>nomatch h) hkp (by simp);have hins:=DB [] (cR kp) 0 (aR _) (by simp);refine s14.go (keep:=false) rfl ?_
  repeat' ((conv=>whnf);first | exact zf | refine zm ?_ | refine zc h1 ?_ | refine zc h2 ?_ | refine zt ?_ | refine zu ?_ | intro _)
  refine ⟨_,hm,?_⟩
  repeat' ((conv=>whnf);first | exact zf | refine zm ?_ | refine zc hc ?_ | refine zt ?_ | refine zu ?_ | intro _)
  refine ⟨_,hm,?_⟩
  repeat' ((conv=>whnf);first | exact zf | refine zm ?_ | refine zt ?_ | refine zu ?_ | intro _)
  refine .inr ⟨⟨hmf,rfl⟩,?_⟩
  repeat' ((conv=>whnf);first | exact zf | refine (gj 2 ?_) | refine (xc ?_) | refine (bp (bp (.inr ?_)):eZ _ (eZ _ (_∨U6 _ _ 48 _ _ _ _ _ _ _))) | refine zm ?_ | refine (.inl ⟨_,hb,rfl,?_⟩) | refine ⟨_,_,hins,?_⟩ | refine zt ?_ | refine zu ?_ | intro _)
  refine .inr ⟨⟨hmf,rfl,rfl⟩,λb=>?_⟩;have hk2:K (.ret (.d (.int .i64 0))) [.cells [.mp 1,.mp 2],.dm (iy s.th ++ [(.str (cR kp),true,ek o)]),.ms 1 (kh s.nm ++ [((o.l.s,o.l.i),some (b,dM [cR kp]))]) none none]:=by
   have:=hk b;unfold qP qR j6 at this;simp only [hi,Le,CM] at this;exact this
  repeat' ((conv=>whnf);first | exact zf | refine zm ?_ | refine zt ?_ | refine zu ?_ | intro _)
  exact hk2
 |some i=>
  rw [hi] at hmf;obtain ⟨⟨l,g,ns⟩,hp,hpl⟩:=vn hi;simp only at hpl;subst hpl;obtain ⟨hn1,hn2⟩:=hs.2 _ (aH hp);simp only at hn1 hn2;have hb:=zk ns kp hn2 hkp (by omega);have hble:=xd ns kp ns.length 0 ns.length (ah _) (aR _);have hins:=DB (ns.map cR) (cR kp) (ry ns kp) (by rw [aI];exact hble) (by rw [aI];omega);have hent:((kh s.nm)[i]?).map (·.2)=some (some (g,dM (ns.map cR))):=by simp [kh,hp]
  refine s14.go (keep:=false) rfl ?_
  repeat' ((conv=>whnf);first | exact zf | refine zm ?_ | refine zc h1 ?_ | refine zc h2 ?_ | refine zt ?_ | refine zu ?_ | intro _)
  refine ⟨_,hm,?_⟩
  repeat' ((conv=>whnf);first | exact zf | refine zm ?_ | refine zc hc ?_ | refine zt ?_ | refine zu ?_ | intro _)
  refine ⟨_,hm,?_⟩
  repeat' ((conv=>whnf);first | exact zf | refine zm ?_ | refine zt ?_ | refine zu ?_ | intro _)
  refine .inl ⟨i,g,dM (ns.map cR),⟨hmf,hent⟩,?_⟩
  repeat' ((conv=>whnf);first | exact zf | refine (gj 2 ?_) | refine (xc ?_) | refine (bp (bp (.inr ?_)):eZ _ (eZ _ (_∨U6 _ _ 48 _ _ _ _ _ _ _))) | refine zm ?_ | refine (.inl ⟨_,hb,rfl,?_⟩) | refine ⟨_,_,hins,?_⟩ | refine zt ?_ | refine zu ?_ | intro _)
  refine .inl ⟨i,⟨yr.trans hmf,λj v h=>(κ (·.1) (an h)).symm⟩,λb=>?_⟩;have hk2:K (.ret (.d (.int .i64 0))) [.cells [.mp 1,.mp 2],.dm (iy s.th ++ [(.str (cR kp),true,ek o)]),.ms 1 (eX i (some (b,dM ((ns.map cR).take (ry ns kp)++cR kp :: (ns.map cR).drop (ry ns kp)))) (eX i none (kh s.nm))) none none]:=by
   have:=hk b;unfold qP qR j6 at this;simp only [hi,Ld _ _ _ _ _ _ _ hp,CM] at this;rw [ve];exact this
  repeat' ((conv=>whnf);first | exact zf | refine zm ?_ | refine zt ?_ | refine zu ?_ | intro _)
  exact hk2
end Go.Proofs.YtjpgfgajkjhonaaGreatDoor