/- The document's own store, as far as it goes: that its functions return. Conditions: none. -/
import Derived.Test.YtjpgfgajkjhonaaGreatDoorQEAY
import Derived.Test.YtjpgfgajkjhonaaGreatDoorQEAT
import Derived.Test.YtjpgfgajkjhonaaGreatDoorQEAX
import Derived.Test.YtjpgfgajkjhonaaGreatDoorQEAZ
namespace Go.Proofs.YtjpgfgajkjhonaaGreatDoor
open Go.Vx
set_option maxRecDepth 100000
theorem Qy {K:Out→H→Prop} (a b:Int) (hk:∀v:Bool,K (.ret (.d (.bool v))) []):Sat Tryz.prog 327 [.d (.int .u8 a),.d (.int .u8 b)] [] K:=by
 refine s327.go (keep:=false) rfl ?_
 repeat' ((conv=>whnf);first | exact zf | refine zm ?_ | intro _)
 exact hk _
set_option maxHeartbeats 4000000 in
theorem FO {K:Out→H→Prop} (l:List UInt8) (hl:l.length≤1000) (hk:∀s:List UInt8,s.length≤256→K (.ret (.d (.str s))) []):Sat Tryz.prog 297 [.d (.str l)] [] K:=by
 refine s297.go (keep:=false) rfl ?_
 repeat' ((conv=>whnf);first | exact zf | refine zm ?_ | intro _)
 conv=>whnf
 refine bV [(0,.d (.str l))] (λp:Nat×List UInt8=>p.1≤256∧p.2.length≤p.1) (λp=>[(4,.d (.int .i64 p.1)),(3,.d (.str p.2))]) (λ_=>[]) (λp=>256 - p.1) (0,[]) ⟨ak _,aQ _⟩ ?_ ?_ ?_ (λp hp=>?_)
 ·exact zzz
 ·exact zzz
 ·exact rfl
 obtain ⟨v,out⟩:=p;dsimp only at hp ⊢
 repeat' ((conv=>whnf);first | exact zf | refine zm ?_ | intro _)
 refine aW (λhlt=>?_) (λhge=>?_)
 ·have hlt:v<256:=by have:=of_decide_eq_true hlt;omega
  repeat' ((conv=>whnf);first | exact zf | refine zm ?_ | intro _)
  conv=>whnf
  refine bV [(0,.d (.str l)),(3,.d (.str out)),(4,.d (.int .i64 v)),(5,.d (.int .u8 v))] (λp:Nat×Bool×Bool=>p.1≤l.length) (λp=>[(8,.d (.int .i64 p.1)),(6,.d (.bool p.2.1)),(7,.d (.bool p.2.2))]) (λ_=>[]) (λp=>l.length - p.1) (0,false,true) (ak _) ?_ ?_ ?_ (λq hq=>?_)
  ·exact zzz
  ·exact zzz
  ·exact rfl
  obtain ⟨i,th,le⟩:=q;have hq:i≤l.length:=hq;dsimp only
  repeat' ((conv=>whnf);first | exact zf | refine zm ?_ | intro _)
  refine aW (λhli=>?_) (λhgi=>?_)
  ·have hli:i<l.length:=by have:=of_decide_eq_true hli;omega
   have hb:=l[i].toNat_lt;have hli':(i:Int)<(l.length:Int):=by omega
   have hin:=λ{K:Out→H→Prop}=>Qy (K:=K) (l[i].toNat:Int) (v:Int);have fin:∀x y:Bool,∃z:Nat×Bool×Bool,z.1≤l.length∧l.length - z.1<l.length - i∧z=(i+1,x,y):=λx y=>⟨(i+1,x,y),hli,by dsimp only;omega,rfl⟩
   have h5:∀{Q:UInt8→Prop},Q l[i]→∃b,(0≤(i:Int)∧l[(i:Int).toNat]? = some b)∧Q b:=λhQ=>⟨l[i],⟨by omega,by simp [hli]⟩,hQ⟩
   cases th<;>cases le
   all_goals
    repeat' ((conv=>whnf);first | exact zf | refine zm ?_ | refine (h5 ?_) | refine (.inl ⟨by unfold eN;omega,?_⟩) | refine (hin (λv=>?_)) | refine aW (λhb=>?_) (λhb=>?_) | intro _)
    all_goals exact ⟨(i+1,_,_),hli,(by show l.length - (i+1)<l.length - i;omega),zzz,zzz,rfl⟩
  ·cases th<;>cases le
   all_goals
    repeat' ((conv=>whnf);first | exact zf | refine zm ?_ | refine (.inl ⟨by unfold eN;omega,?_⟩) | refine ⟨[UInt8.ofNat v],by simp [dq hlt],?_⟩ | refine aW (λhb=>?_) (λhb=>?_) | intro _)
    all_goals first
     |exact ⟨(v+1,out),⟨hlt,by show out.length≤v+1;omega⟩,(by show 256 - (v+1)<256 - v;omega),⟨rfl,rfl,rfl,trivial⟩,trivial,rfl⟩
     |exact ⟨(v+1,out ++ [UInt8.ofNat v]),⟨hlt,by show (out ++ [UInt8.ofNat v]).length≤v+1;rw [aK];show out.length+1≤v+1;omega⟩,(by show 256 - (v+1)<256 - v;omega),⟨rfl,rfl,rfl,trivial⟩,trivial,rfl⟩
 ·skip
  repeat' ((conv=>whnf);first | exact zf | refine zm ?_ | intro _)
  exact hk _ (by omega)
theorem Au {K:Out→H→Prop} (l:List UInt8) (hl:l.length≤1000) (hk:∀s:List UInt8,s.length≤256→K (.ret (.d (.str s))) []):Sat Tryz.prog 261 [.d (.str l)] [] K:=by
 refine s261.go (keep:=false) rfl ?_
 repeat' ((conv=>whnf);first | exact zf | refine zm ?_ | intro _)
 conv=>whnf
 refine bV [(0,.d (.str l))] (λp:Nat×List UInt8=>p.1≤l.length∧p.2.length≤p.1) (λp=>[(4,.d (.int .i64 p.1)),(3,.d (.str p.2))]) (λ_=>[]) (λp=>l.length - p.1) (0,[]) ⟨ak _,aQ _⟩ ?_ ?_ ?_ (λp hp=>?_)
 ·exact zzz
 ·exact zzz
 ·exact rfl
 obtain ⟨i,out⟩:=p;dsimp only at hp ⊢
 repeat' ((conv=>whnf);first | exact zf | refine zm ?_ | intro _)
 refine aW (λhlt=>?_) (λhge=>?_)
 ·have hlt:i<l.length:=by have:=of_decide_eq_true hlt;omega
  have hb:=l[i].toNat_lt;have h5:∀{Q:UInt8→Prop},Q l[i]→∃b,(0≤(i:Int)∧l[(i:Int).toNat]? = some b)∧Q b:=λhQ=>⟨l[i],⟨by omega,by simp [hlt]⟩,hQ⟩
  repeat' ((conv=>whnf);first | exact zf | refine zm ?_ | refine (h5 ?_) | refine (.inl ⟨by unfold eN;omega,?_⟩) | refine ⟨[l[i] &&& 63],congrArg (λx=>[[D.int .u8 x]]) (wD l[i] 63),?_⟩ | intro _)
  exact ⟨(i+1,out ++ [l[i] &&& 63]),⟨hlt,by show (out ++ [l[i] &&& 63]).length≤i+1;rw [aK];show out.length+1≤i+1;omega⟩,(by show l.length - (i+1)<l.length - i;omega),⟨rfl,rfl,rfl,trivial⟩,trivial,rfl⟩
 ·have h1:=λ{K:Out→H→Prop}=>FO (K:=K) out (by omega)
  repeat' ((conv=>whnf);first | exact zf | refine zm ?_ | refine (h1 (λs hs=>?_)) | intro _)
  exact hk _ hs
theorem JL {K:Out→H→Prop} (L:Lb) (h1:L.s.length≤1000) (h2:L.i.length≤1000) (hk:∀l:Lb,K (.ret (jr l)) []):Sat Tryz.prog 191 [jr L] [] K:=by
 have a1:=λ{K:Out→H→Prop}=>Au (K:=K) L.s h1;have a2:=λ{K:Out→H→Prop}=>Au (K:=K) L.i h2;refine s191.go (keep:=false) rfl ?_
 repeat' ((conv=>whnf);first | exact zf | refine (dp (dp ?_)) | refine zm ?_ | refine (a1 (λs hs=>?_)) | refine (a2 (λt ht=>?_)) | refine And.intro ?_ ?_ | intro _)
 all_goals exact hk ⟨s,t⟩
theorem ER {K:Out→H→Prop} (L:Lb) (h1:L.s.length≤1000) (h2:L.i.length≤1000) (hk:∀b:Bool,K (.ret (.d (.bool b))) []):Sat Tryz.prog 119 [jr L] [] K:=by
 have a1:=λ{K:Out→H→Prop}=>JL (K:=K) L h1 h2;refine s119.go (keep:=false) rfl ?_
 repeat' ((conv=>whnf);first | exact zf | refine (dp (dp ?_)) | refine zm ?_ | refine (a1 (λl=>?_)) | refine And.intro ?_ ?_ | intro _)
 all_goals exact hk _
def tX:List (Nat×List UInt8):=[(0,[48]),(1,[49]),(2,[50]),(10,[49,48])]
theorem DI (n:Nat) (d:List UInt8) (h:(n,d)∈tX):bJ Tryz.prog 326 [.d (.int .u64 n)] (.d (.str d)):=by
 have hd:n<100∧d=bif decide (9<n) then [UInt8.ofNat (48+n / 10),UInt8.ofNat (48+n % 10)] else [UInt8.ofNat (48+n)]:=by
  simp only [tX,ae,ck,cT,or_false] at h;rcases h with ⟨rfl,rfl⟩ | ⟨rfl,rfl⟩ | ⟨rfl,rfl⟩ | ⟨rfl,rfl⟩<;>decide
 obtain ⟨hn,rfl⟩:=hd;refine s326.go (keep:=false) rfl ?_
 repeat' ((conv=>whnf);first | exact zf | refine zm ?_ | intro _)
 conv=>whnf
 refine bV [] (λp:Nat×List UInt8=>(p.1≤n∧p.2 = []∧p.1=n)∨(9<n∧p.1=n / 10∧p.2 = [UInt8.ofNat (48+n % 10)])) (λp=>[(0,.d (.int .u64 p.1)),(3,.d (.str p.2))]) (λ_=>[]) (λp=>p.1) (n,[]) (.inl ⟨aQ _,rfl,rfl⟩) ?_ ?_ ?_ (λp hp=>?_)
 ·exact zzz
 ·exact zzz
 ·exact rfl
 obtain ⟨u,s⟩:=p;dsimp only at hp ⊢
 repeat' ((conv=>whnf);first | exact zf | refine zm ?_ | intro _)
 refine aW (λhlt=>?_) (λhge=>?_)
 ·have hlt:9<u:=by have:=of_decide_eq_true hlt;omega
  have hu:u=n∧s = []:=by
   rcases hp with h | h
   ·exact ⟨h.2.2,h.2.1⟩
   ·omega
  obtain ⟨rfl,rfl⟩:=hu;have m1:(u:Int).tmod 10=((u % 10:Nat):Int):=by rw [bE (by omega)];omega
  have m2:(u:Int).tdiv 10=((u / 10:Nat):Int):=by rw [Int.tdiv_eq_ediv_of_nonneg (by omega)];omega
  have hw:(48+(u % 10)) % 256=48+u % 10:=by omega
  repeat' ((conv=>whnf);first | exact zf | refine zm ?_ | refine (.inl ⟨by unfold eN;omega,?_⟩) | refine ⟨[UInt8.ofNat (48+u % 10)],by simp only [m1];simp [hw],?_⟩ | intro _)
  exact ⟨(u / 10,[UInt8.ofNat (48+u % 10)]),.inr ⟨hlt,rfl,rfl⟩,(by show u / 10<u;omega),⟨gg (by show V.d (.int .u64 ((u:Int).tdiv 10))=_;rw [m2]),rfl,trivial⟩,trivial,rfl⟩
 ·have hge:u≤9:=by have:=of_decide_eq_false hge;omega
  have hw:(48+u) % 256=48+u:=by omega
  rcases hp with h | h
  ·obtain ⟨_,rfl,rfl⟩:=h;rw [show decide (9<u)=false by simp;omega]
   repeat' ((conv=>whnf);first | exact zf | refine zm ?_ | refine (.inl ⟨by unfold eN;omega,?_⟩) | refine ⟨[UInt8.ofNat (48+u)],by simp [hw],?_⟩ | intro _)
  ·obtain ⟨h9,rfl,rfl⟩:=h;rw [show decide (9<n)=true by simp;omega]
   repeat' ((conv=>whnf);first | exact zf | refine zm ?_ | refine (.inl ⟨by unfold eN;omega,?_⟩) | refine ⟨[UInt8.ofNat (48+n / 10)],by simp [hw],?_⟩ | intro _)
theorem H0 (n:Nat) (d:List UInt8) (h:(n,d)∈tX):bJ Tryz.prog 296 [.d (.int .i64 n)] (.d (.str d)):=by
 have h1:=DI n d h;have hn:n<100:=by
  simp only [tX,ae,ck,cT,or_false] at h;rcases h with ⟨rfl,rfl⟩ | ⟨rfl,rfl⟩ | ⟨rfl,rfl⟩ | ⟨rfl,rfl⟩<;>decide
 refine s296.go (keep:=false) rfl ?_
 repeat' ((conv=>whnf);first | exact zf | refine zm ?_ | refine zc h1 ?_ | refine zt ?_ | refine zu ?_ | intro _)
def Hy (n:Nat) (d:List UInt8) (i:Nat):Int:=bif Nat.beq i 0 then 0 else bif Nat.beq i d.length then n else n / 10
theorem Ec (n:Nat) (d:List UInt8) (h:(n,d)∈tX):bJ Tryz.prog 260 [.d (.str d)] (.tu [.d (.int .i64 n),.d (.bool true)]):=by
 have h1:=H0 n d h;simp only [tX,ae,ck,cT,or_false] at h;rcases h with ⟨rfl,rfl⟩ | ⟨rfl,rfl⟩ | ⟨rfl,rfl⟩ | ⟨rfl,rfl⟩
 all_goals
  refine s260.go (keep:=false) rfl ?_
  repeat' ((conv=>whnf);first | exact zf | refine zm ?_ | refine zt ?_ | refine zu ?_ | intro _)
  conv=>whnf
 ·skip
  refine bV [(0,.d (.str [48]))] (λi:Nat=>i≤1) (λi=>[(5,.d (.int .i64 i)),(4,.d (.int .u64 (Hy 0 [48] i)))]) (λ_=>[]) (λi=>1 - i) 0 (ak _) ?_ ?_ ?_ (λi hi=>?_)
  ·exact zzz
  ·exact zzz
  ·exact rfl
  match i,hi with
  |0,_=>
   repeat' ((conv=>whnf);first | exact zf | refine zm ?_ | refine (gG (by decide) ?_) | refine (gY (by decide) ?_) | refine ⟨_,⟨by decide,rfl⟩,?_⟩ | refine (.inl ⟨by unfold eN;decide,?_⟩) | intro _)
   exact ⟨1,by decide,by decide,zzz,zzz,rfl⟩
  |1,_=>
   repeat' ((conv=>whnf);first | exact zf | refine zm ?_ | refine (gG (by decide) ?_) | refine (gY (by decide) ?_) | refine ⟨_,⟨by decide,rfl⟩,?_⟩ | refine (.inl ⟨by unfold eN;decide,?_⟩) | refine zc h1 ?_ | intro _)
 ·skip
  refine bV [(0,.d (.str [49]))] (λi:Nat=>i≤1) (λi=>[(5,.d (.int .i64 i)),(4,.d (.int .u64 (Hy 1 [49] i)))]) (λ_=>[]) (λi=>1 - i) 0 (ak _) ?_ ?_ ?_ (λi hi=>?_)
  ·exact zzz
  ·exact zzz
  ·exact rfl
  match i,hi with
  |0,_=>
   repeat' ((conv=>whnf);first | exact zf | refine zm ?_ | refine (gG (by decide) ?_) | refine (gY (by decide) ?_) | refine ⟨_,⟨by decide,rfl⟩,?_⟩ | refine (.inl ⟨by unfold eN;decide,?_⟩) | intro _)
   exact ⟨1,by decide,by decide,zzz,zzz,rfl⟩
  |1,_=>
   repeat' ((conv=>whnf);first | exact zf | refine zm ?_ | refine (gG (by decide) ?_) | refine (gY (by decide) ?_) | refine ⟨_,⟨by decide,rfl⟩,?_⟩ | refine (.inl ⟨by unfold eN;decide,?_⟩) | refine zc h1 ?_ | intro _)
 ·skip
  refine bV [(0,.d (.str [50]))] (λi:Nat=>i≤1) (λi=>[(5,.d (.int .i64 i)),(4,.d (.int .u64 (Hy 2 [50] i)))]) (λ_=>[]) (λi=>1 - i) 0 (ak _) ?_ ?_ ?_ (λi hi=>?_)
  ·exact zzz
  ·exact zzz
  ·exact rfl
  match i,hi with
  |0,_=>
   repeat' ((conv=>whnf);first | exact zf | refine zm ?_ | refine (gG (by decide) ?_) | refine (gY (by decide) ?_) | refine ⟨_,⟨by decide,rfl⟩,?_⟩ | refine (.inl ⟨by unfold eN;decide,?_⟩) | intro _)
   exact ⟨1,by decide,by decide,zzz,zzz,rfl⟩
  |1,_=>
   repeat' ((conv=>whnf);first | exact zf | refine zm ?_ | refine (gG (by decide) ?_) | refine (gY (by decide) ?_) | refine ⟨_,⟨by decide,rfl⟩,?_⟩ | refine (.inl ⟨by unfold eN;decide,?_⟩) | refine zc h1 ?_ | intro _)
 ·skip
  refine bV [(0,.d (.str [49,48]))] (λi:Nat=>i≤2) (λi=>[(5,.d (.int .i64 i)),(4,.d (.int .u64 (Hy 10 [49,48] i)))]) (λ_=>[]) (λi=>2 - i) 0 (ak _) ?_ ?_ ?_ (λi hi=>?_)
  ·exact zzz
  ·exact zzz
  ·exact rfl
  match i,hi with
  |0,_=>
   repeat' ((conv=>whnf);first | exact zf | refine zm ?_ | refine (gG (by decide) ?_) | refine (gY (by decide) ?_) | refine ⟨_,⟨by decide,rfl⟩,?_⟩ | refine (.inl ⟨by unfold eN;decide,?_⟩) | intro _)
   exact ⟨1,by decide,by decide,zzz,zzz,rfl⟩
  |1,_=>
   repeat' ((conv=>whnf);first | exact zf | refine zm ?_ | refine (gG (by decide) ?_) | refine (gY (by decide) ?_) | refine ⟨_,⟨by decide,rfl⟩,?_⟩ | refine (.inl ⟨by unfold eN;decide,?_⟩) | intro _)
   exact ⟨2,by decide,by decide,zzz,zzz,rfl⟩
  |2,_=>
   repeat' ((conv=>whnf);first | exact zf | refine zm ?_ | refine (gG (by decide) ?_) | refine (gY (by decide) ?_) | refine ⟨_,⟨by decide,rfl⟩,?_⟩ | refine (.inl ⟨by unfold eN;decide,?_⟩) | refine zc h1 ?_ | intro _)
def lQ (s:List UInt8):Nat→Nat×List (List UInt8)
 |0=>(0,[])
 |i+1=>bif Nat.beq i s.length||s[i]? == some 46 then (i+1,(lQ s i).2 ++ [(s.take i).drop (lQ s i).1]) else lQ s i
theorem B4 (s:List UInt8):∀i,(lQ s i).1≤i∧(lQ s i).2.length≤i
 |0=>⟨aQ _,aQ _⟩
 |i+1=>by
  have:=B4 s i;unfold lQ;cases Nat.beq i s.length||s[i]? == some 46
  ·exact ⟨by rw [cond_false];omega,by rw [cond_false];omega⟩
  ·rw [cond_true];exact ⟨aQ _,by rw [aK];show _+1≤_;omega⟩
def we (l:List (List UInt8)):List (List D):=l.map λx=>[.str x]
theorem NP (s:List UInt8) (hs:s.length≤1000):bJ Tryz.prog 259 [.d (.str s)] (.d (.sl 1 (we (lQ s (s.length+1)).2))):=by
 refine s259.go (keep:=false) rfl ?_
 repeat' ((conv=>whnf);first | exact zf | refine zm ?_ | intro _)
 conv=>whnf
 refine bV [(0,.d (.str s)),(3,.os 1)] (λi:Nat=>i≤s.length+1) (λi=>[(5,.d (.int .i64 i)),(4,.d (.int .i64 (lQ s i).1))]) (λi=>[.no,.rows 1 (we (lQ s i).2)]) (λi=>s.length+1 - i) 0 (ak _) ?_ ?_ ?_ (λi hi=>?_)
 ·exact zzz
 ·exact ⟨aZ rfl,trivial⟩
 ·exact (by kernel_rfl)
 obtain ⟨c1,c2⟩:=B4 s i;have hsu:lQ s (i+1)=bif Nat.beq i s.length||s[i]? == some 46 then (i+1,(lQ s i).2 ++ [(s.take i).drop (lQ s i).1]) else lQ s i:=rfl
 have hlr:(we (lQ s i).2).length=(lQ s i).2.length:=aL _
 repeat' ((conv=>whnf);first | exact zf | refine zm ?_ | intro _)
 refine aW (λhlt=>?_) (λhge=>?_)
 ·have hlt:i≤s.length:=by have:=of_decide_eq_true hlt;omega
  by_cases he:i=s.length
  ·rw [show Nat.beq i s.length=true by rw [he];exact ei _,Bool.true_or,cond_true] at hsu
   repeat' ((conv=>whnf);first | exact zf | refine zm ?_ | refine (.inl ⟨by unfold eN;omega,?_⟩) | refine zt ?_ | refine zu ?_ | intro _)
   exact ⟨i+1,by omega,by omega,⟨rfl,gg (by rw [hsu];rfl),rfl,rfl,trivial⟩,⟨aZ (by rw [hsu];exact (congrArg (B.rows 1) (bn (l₂ :=[(s.take i).drop (lQ s i).1]))).symm),trivial⟩,rfl⟩
  ·have hlt:i<s.length:=by omega
   have h5:∀{Q:UInt8→Prop},Q s[i]→∃b,(0≤(i:Int)∧s[(i:Int).toNat]? = some b)∧Q b:=λhQ=>⟨s[i],⟨by omega,by simp [hlt]⟩,hQ⟩
   rw [show Nat.beq i s.length=false from (by cases h:Nat.beq i s.length with | true=>exact absurd (dA h) he | false=>rfl),Bool.false_or,aB hlt] at hsu;have hb:((some s[i]==some (46:UInt8))=decide ((s[i].toNat:Int)=46)):=by
    rw [Bool.eq_iff_iff];simp only [beq_iff_eq,decide_eq_true_eq,aF];constructor
    ·intro h;rw [h];rfl
    ·intro h;exact UInt8.toNat.inj (by rw [show UInt8.toNat 46=46 from rfl];omega)
   rw [hb] at hsu
   by_cases h46:(s[i].toNat:Int)=46
   ·rw [decide_eq_true h46,cond_true] at hsu
    repeat' ((conv=>whnf);first | exact zf | refine zm ?_ | refine (h5 ?_) | refine (.inl ⟨by unfold eN;omega,?_⟩) | refine zt ?_ | refine zu ?_ | intro _)
    exact ⟨i+1,by omega,by omega,⟨rfl,gg (by rw [hsu];rfl),rfl,rfl,trivial⟩,⟨aZ (by rw [hsu];exact (congrArg (B.rows 1) (bn (l₂ :=[(s.take i).drop (lQ s i).1]))).symm),trivial⟩,rfl⟩
   ·rw [decide_eq_false h46,cond_false] at hsu
    repeat' ((conv=>whnf);first | exact zf | refine zm ?_ | refine (h5 ?_) | refine (.inl ⟨by unfold eN;omega,?_⟩) | refine zt ?_ | refine zu ?_ | intro _)
    exact ⟨i+1,by omega,by omega,⟨rfl,gg (by rw [hsu];rfl),rfl,rfl,trivial⟩,⟨aZ (by rw [hsu]),trivial⟩,rfl⟩
 ·have hge:i=s.length+1:=by have:=of_decide_eq_false hge;omega
  subst hge
  repeat' ((conv=>whnf);first | exact zf | refine zm ?_ | intro _)
def jR (l:List Nat):List (List D):=l.map λ(n:Nat)=>[.int .i64 (n:Int)]
theorem Eb (s:List UInt8) (ps:List (Nat×List UInt8)) (hs:s.length≤1000) (h:(lQ s (s.length+1)).2=ps.map (·.2)) (hp:∀p∈ps,p∈tX) (hl:ps.length≤24) :
  bJ Tryz.prog 190 [.d (.str s)] (.d (.sl 1 (jR (ps.map (·.1))))):=by
 have h1:=NP s hs;rw [h] at h1;have hlr:(we (ps.map (·.2))).length=ps.length:=by unfold we;rw [aL,aL]
 refine s190.go (keep:=false) rfl ?_
 repeat' ((conv=>whnf);first | exact zf | refine zm ?_ | refine zc h1 ?_ | intro _)
 conv=>whnf
 refine bV [(4,.d (.sl 1 (we (ps.map (·.2))))),(3,.os 1)] (λi:Nat=>i≤ps.length) (λi=>[(5,.d (.int .i64 i))]) (λi=>[.no,.rows 1 (jR ((ps.take i).map (·.1)))]) (λi=>ps.length - i) 0 (ak _) ?_ ?_ ?_ (λi hi=>?_)
 ·exact zzz
 ·exact ⟨aZ (by simp [jR]),trivial⟩
 ·exact (by kernel_rfl)
 have hlq:(jR ((ps.take i).map (·.1))).length≤24:=by unfold jR;rw [aL,aL,ah];omega
 repeat' ((conv=>whnf);first | exact zf | refine zm ?_ | intro _)
 refine aW (λhlt=>?_) (λhge=>?_)
 ·have hlt:i<ps.length:=by have:=of_decide_eq_true hlt;omega
  have hm:ps[i]∈tX:=hp _ (cZ hlt);have h2:=Ec ps[i].1 ps[i].2 hm;have hn:ps[i].1<100:=by
   have:∀q∈tX,q.1<100:=by decide
   exact this _ hm
  have hr:(we (ps.map (·.2)))[(i:Int).toNat]? = some [.str ps[i].2]:=by
   unfold we;rw [show (i:Int).toNat=i by omega,aC,aC,aB hlt];rfl
  have htk:ps.take (i+1)=ps.take i ++ [ps[i]]:=by rw [cF,aB hlt];rfl
  repeat' ((conv=>whnf);first | exact zf | refine zm ?_ | refine ⟨_,⟨by omega,hr,rfl⟩,?_⟩ | refine zc h2 ?_ | refine (.inl ⟨by unfold eN;omega,?_⟩) | refine zt ?_ | refine zu ?_ | intro _)
  exact ⟨i+1,by omega,by omega,zzz,⟨aZ (by rw [htk];unfold jR;rw [bn,bn];rfl),trivial⟩,rfl⟩
 ·have hge:i=ps.length:=by have:=of_decide_eq_false hge;omega
  subst hge
  repeat' ((conv=>whnf);first | exact zf | refine zm ?_ | intro _)
  rw [dP];rfl
theorem ES (s:List UInt8) (ps:List Nat) (hp:bJ Tryz.prog 190 [.d (.str s)] (.d (.sl 1 (jR ps)))) (h0:0<ps.length):bJ Tryz.prog 118 [.d (.str s)] (.d (.bool true)):=by
 have hl:(jR ps).length=ps.length:=aL _;refine s118.go (keep:=false) rfl ?_
 repeat' ((conv=>whnf);first | exact zf | refine zm ?_ | refine zc hp ?_ | intro _)
 rw [show decide (((jR ps).length:Int)>0)=true by simp;omega];rfl
theorem Eh {K:Out→H→Prop} (a b:List UInt8) (x y:List Nat) (hx:bJ Tryz.prog 190 [.d (.str a)] (.d (.sl 1 (jR x)))) (hy:bJ Tryz.prog 190 [.d (.str b)] (.d (.sl 1 (jR y)))) (x0:0<x.length) (y0:0<y.length) (x1:x.length<100) (y1:y.length<100)
  (hk:∀r:Int,K (.ret (.d (.int .i64 r))) []):Sat Tryz.prog 121 [.d (.str a),.d (.str b)] [] K:=by
 have lix:(jR x).length=x.length:=aL _;have liy:(jR y).length=y.length:=aL _;have gx:∀i,i<x.length→(jR x)[(i:Int).toNat]? = some [.int .i64 x[i]!]:=λi hi=>by
  unfold jR;rw [show (i:Int).toNat=i by omega,aC,aB hi];simp [hi]
 have gy:∀i,i<y.length→(jR y)[(i:Int).toNat]? = some [.int .i64 y[i]!]:=λi hi=>by
  unfold jR;rw [show (i:Int).toNat=i by omega,aC,aB hi];simp [hi]
 refine s121.go (keep:=false) rfl ?_
 repeat' ((conv=>whnf);first | exact zf | refine zm ?_ | refine zc hx ?_ | refine zc hy ?_ | refine zt ?_ | refine zu ?_ | intro _)
 conv=>whnf
 refine bV [(5,.d (.sl 1 (jR x))),(6,.d (.sl 1 (jR y)))] (λi:Nat=>i≤x.length) (λi=>[(7,.d (.int .i64 i))]) (λ_=>[]) (λi=>x.length - i) 0 (ak _) ?_ ?_ ?_ (λi hi=>?_)
 ·exact zzz
 ·exact zzz
 ·exact rfl
 by_cases hlx:i<x.length
 ·have tx:decide ((i:Int)<((jR x).length:Int))=true:=by simp;omega
  have qx:=gx i hlx
  by_cases hly:i<y.length
  ·have ty:decide ((i:Int)<((jR y).length:Int))=true:=by simp;omega
   have qy:=gy i hly
   repeat' ((conv=>whnf);first | exact zf | refine zm ?_ | refine (gG tx ?_) | refine (gG ty ?_) | refine ⟨_,⟨by omega,qx,rfl⟩,?_⟩ | refine ⟨_,⟨by omega,qy,rfl⟩,?_⟩ | refine (.inl ⟨by unfold eN;omega,?_⟩) | refine aW (λhb=>?_) (λhb=>?_) | intro _)
   all_goals first
    |exact hk _
    |exact ⟨i+1,by omega,by omega,zzz,zzz,rfl⟩
  ·have ty:decide ((i:Int)<((jR y).length:Int))=false:=by simp;omega
   repeat' ((conv=>whnf);first | exact zf | refine zm ?_ | refine (gG tx ?_) | refine (gY ty ?_) | refine (.inl ⟨by unfold eN;omega,?_⟩) | refine aW (λhb=>?_) (λhb=>?_) | intro _)
   exact hk _
 ·have tx:decide ((i:Int)<((jR x).length:Int))=false:=by simp;omega
  repeat' ((conv=>whnf);first | exact zf | refine zm ?_ | refine (gY tx ?_) | refine (.inl ⟨by unfold eN;omega,?_⟩) | refine aW (λhb=>?_) (λhb=>?_) | intro _)
  exact hk _
def numsOf:List (List (Nat×List UInt8)):=[[(0,[48])],[(1,[49])],[(0,[48]),(0,[48])],[(0,[48]),(1,[49])],[(2,[50])],[(10,[49,48])],[(1,[49]),(0,[48])],[(0,[48]),(0,[48]),(0,[48])]]
theorem qB:∀s∈gS,∃x:List Nat,bJ Tryz.prog 190 [.d (.str s)] (.d (.sl 1 (jR x)))∧0<x.length∧x.length<100:=by
 have key:∀s∈gS,∃ps∈numsOf,s.length≤1000∧(lQ s (s.length+1)).2=ps.map (·.2)∧(∀p∈ps,p∈tX)∧ps.length≤24∧0<ps.length:=by decide
 intro s hs;obtain ⟨ps,_,h1,h2,h3,h4,h5⟩:=key s hs;exact ⟨_,Eb s ps h1 h2 h3 h4,by rw [aL];exact h5,by rw [aL];omega⟩
def mB (p:List UInt8×Ob):List D:=.str p.1 :: fA p.2
def Q9 (l:List (List UInt8×Ob)):Prop:=∀p∈l,p.1∈gS
def Kh (l:List (List UInt8×Ob)):H:=[.cells [.d (.sl 20 (l.map mB))]]
theorem Jm {K:Out→H→Prop} (l:List (List UInt8×Ob)) (s:List UInt8) (hl:l.length≤1000) (hk:∀r:Int,K (.ret (.d (.int .i64 r))) (Kh l)):Sat Tryz.prog 120 [.p 0 0,.d (.str s)] (Kh l) K:=by
 have hm:(l.map mB).length=l.length:=aL _;refine s120.go (keep:=false) rfl ?_
 repeat' ((conv=>whnf);first | exact zf | refine zm ?_ | refine zt ?_ | refine zu ?_ | intro _)
 conv=>whnf
 refine bV [(0,.p 0 0),(1,.d (.str s))] (λi:Nat=>i≤l.length) (λi=>[(5,.d (.int .i64 i))]) (λ_=>Kh l) (λi=>l.length - i) 0 (ak _) ?_ ?_ ?_ (λi hi=>?_)
 ·exact zzz
 ·exact zzz
 ·exact rfl
 repeat' ((conv=>whnf);first | exact zf | refine zm ?_ | intro _)
 refine aW (λhlt=>?_) (λhge=>?_)
 ·have hlt:i<l.length:=by have:=of_decide_eq_true hlt;omega
  have hg:(l.map mB)[(i:Int).toNat]? = some (.str l[i].1 :: fA l[i].2):=by rw [show (i:Int).toNat=i by omega,aC,aB hlt];rfl
  repeat' ((conv=>whnf);first | exact zf | refine zm ?_ | refine ⟨_,⟨by omega,hg,rfl⟩,?_⟩ | refine (.inl ⟨by unfold eN;omega,?_⟩) | refine aW (λhb=>?_) (λhb=>?_) | intro _)
  all_goals first
   |exact hk _
   |exact ⟨i+1,by omega,by omega,zzz,zzz,rfl⟩
 ·skip
  repeat' ((conv=>whnf);first | exact zf | refine zm ?_ | refine (.inl ⟨by unfold eN;omega,?_⟩) | refine aW (λhb=>?_) (λhb=>?_) | intro _)
  exact hk _
set_option maxHeartbeats 4000000 in
theorem Na {K:Out→H→Prop} (l:List (List UInt8×Ob)) (s:List UInt8) (o:Ob) (hr:Q9 l) (hs:s∈gS) (h1:o.l.s.length≤1000) (h2:o.l.i.length≤1000)
  (hn:l.length≤500) (hk:∀e:Int,K (.ret (.d (.int .i64 e))) (Kh l)) (hkB:∀l',Q9 l'→l'.length≤l.length+1→K (.ret (.d (.int .i64 0))) [.cells [.os 1],.rows 20 (l'.map mB)]):Sat Tryz.prog 78 [.p 0 0,.d (.str s),fz o] (Kh l) K:=by
 obtain ⟨x,hx,x0,x1⟩:=qB s hs;have hm:(l.map mB).length=l.length:=aL _;have h118:=ES s x hx x0;have h119:=λ{K:Out→H→Prop}=>ER (K:=K) o.l h1 h2;have h120:=λ{K:Out→H→Prop}=>Jm (K:=K) l s (by omega);have hB:∀i:Nat,K (.ret (.d (.int .i64 0))) [.cells [.os 1],.rows 20 (List.drop (Int.toNat 0) (List.take (i:Int).toNat (l.map mB)) ++ [.str s :: fA o]++List.drop (i:Int).toNat (l.map mB))]:=λi=>by
  have h1:=hkB (l.take i++(s,o) :: l.drop i) (λp hp=>by
   rcases aT.1 hp with h | h
   ·exact hr p (eR h)
   ·rcases ae.1 h with h | h
    ·rw [h];exact hs
    ·exact hr p (dr h)) (by rw [aK,aU,ah,b_];omega)
  have e:(l.take i++(s,o) :: l.drop i).map mB=List.drop (Int.toNat 0) (List.take (i:Int).toNat (l.map mB)) ++ [.str s :: fA o]++List.drop (i:Int).toNat (l.map mB):=by
   rw [show (i:Int).toNat=i by omega,bn,cS,fX,List.map_drop,bK];rfl
  rw [e] at h1;exact h1
 by_cases k3:o.k<3
 ·have t3:decide (o.k<3)=true:=by simp [k3]
  refine s78.go (keep:=false) rfl ?_
  repeat' ((conv=>whnf);first | exact zf | refine zm ?_ | refine zc h118 ?_ | refine (gG t3 ?_) | refine (.inr ?_:(∃_,_)∨_) | intro _)
  exact hk _
 ·have t3:decide (o.k<3)=false:=by simp;omega
  by_cases k7:7<o.k
  ·have t7:decide (o.k>7)=true:=by simp [k7]
   refine s78.go (keep:=false) rfl ?_
   repeat' ((conv=>whnf);first | exact zf | refine zm ?_ | refine zc h118 ?_ | refine (gY t3 ?_) | refine (gG t7 ?_) | refine (.inr ?_:(∃_,_)∨_) | intro _)
   exact hk _
  ·have t7:decide (o.k>7)=false:=by simp;omega
   refine s78.go (keep:=false) rfl ?_
   repeat' ((conv=>whnf);first | exact zf | refine zm ?_ | refine zc h118 ?_ | refine (gY t3 ?_) | refine (gY t7 ?_) | refine (h119 (λb=>?_)) | intro _)
   cases b with
   |false=>
    repeat' ((conv=>whnf);first | exact zf | refine zm ?_ | intro _)
    exact hk _
   |true=>
    repeat' ((conv=>whnf);first | exact zf | refine zm ?_ | refine (.inr ?_:(∃_,_)∨_) | refine (h120 (λr=>?_)) | intro _)
    refine aW (λhlt=>?_) (λhge=>?_)
    ·skip
     repeat' ((conv=>whnf);first | exact zf | refine zm ?_ | intro _)
     exact hk _
    ·skip
     repeat' ((conv=>whnf);first | exact zf | refine zm ?_ | intro _)
     conv=>whnf
     refine bV [(0,.p 0 0),(1,.d (.str s)),(5,.p 1 0)] (λi:Nat=>i≤l.length) (λi=>[(7,.d (.int .i64 i))]) (λ_=>[.cells [.d (.sl 20 (l.map mB))],.cells ((fA o).map .d)]) (λi=>l.length - i) 0 (ak _) ?_ ?_ ?_ (λi hi=>?_)
     ·exact zzz
     ·exact zzz
     ·exact rfl
     by_cases hlt:i<l.length
     ·have tx:decide ((i:Int)<((l.map mB).length:Int))=true:=by simp;omega
      have hg:(l.map mB)[(i:Int).toNat]? = some (.str l[i].1 :: fA l[i].2):=by rw [show (i:Int).toNat=i by omega,aC,aB hlt];rfl
      obtain ⟨y,hy,y0,y1⟩:=qB l[i].1 (hr _ (cZ hlt));have h121:=λ{K:Out→H→Prop}=>Eh (K:=K) l[i].1 s y x hy hx y0 x0 y1 x1
      repeat' ((conv=>whnf);first | exact zf | refine zm ?_ | refine (gG tx ?_) | refine ⟨_,⟨by omega,hg,rfl⟩,?_⟩ | refine (h121 (λr=>?_)) | intro _)
      refine aW (λhlt=>?_) (λhge=>?_)
      ·skip
       repeat' ((conv=>whnf);first | exact zf | refine zm ?_ | refine (.inl ⟨by unfold eN;omega,?_⟩) | intro _)
       exact ⟨i+1,by omega,by omega,zzz,zzz,rfl⟩
      ·skip
       repeat' ((conv=>whnf);first | exact zf | refine (dp (dp ?_)) | refine zm ?_ | refine And.intro ?_ ?_ | intro _)
       all_goals exact hB i
     ·have tx:decide ((i:Int)<((l.map mB).length:Int))=false:=by simp;omega
      repeat' ((conv=>whnf);first | exact zf | refine (dp (dp ?_)) | refine zm ?_ | refine (gY tx ?_) | refine And.intro ?_ ?_ | intro _)
      all_goals exact hB i
theorem CO {P:Program} {f:Nat} {vs:List V} {h:H} {K:Out→H→Prop} (hs:tg P f vs h λo h'=>K o h'∨∃id z rs x,h'[id]? = some (.rows z rs)∧o = .ret (.d x)∧K o (nK id (.d (.sl z rs)) h')):tg P f vs h K:=by
 refine ⟨hs.1,λG w ρ vs0 h1 h2 h3=>(hs.2 G w ρ vs0 h1 h2 h3).mono λe w' ⟨G',ρ',h',out,hO,hrep,hk⟩=>?_⟩;rcases hk with hk | ⟨id,z,rs,x,hid,rfl,hk⟩
 ·exact ⟨G',ρ',h',out,hO,hrep,hk⟩
 ·have hi:id<ρ'.length:=by rw [hO.hr.len];exact (aA.1 hid).1
  obtain ⟨v,e1,hv⟩:=hrep;exact ⟨_,ρ',nK id (.d (.sl z rs)) h',.ret (.d x),hO.free (aB hi) hid,⟨v,e1,hv.mono (λ_ h=>.inl h) (λ_ _=>rfl) (λ_ _=>rfl)⟩,hk⟩
theorem R3 {K:Out→H→Prop} (l:List (List UInt8×Ob)) (s:List UInt8) (o:Ob) (hr:Q9 l) (hs:s∈gS) (h1:o.l.s.length≤1000) (h2:o.l.i.length≤1000)
  (hn:l.length≤500) (hk:∀e:Int,K (.ret (.d (.int .i64 e))) (Kh l)) (hk2:∀l',Q9 l'→l'.length≤l.length+1→K (.ret (.d (.int .i64 0))) [.cells [.d (.sl 20 (l'.map mB))],.no]):Sat Tryz.prog 78 [.p 0 0,.d (.str s),fz o] (Kh l) K:=
 .inl (CO ((Na (K:=λo h'=>K o h'∨∃id z rs x,h'[id]? = some (.rows z rs)∧o = .ret (.d x)∧K o (nK id (.d (.sl z rs)) h')) l s o hr hs h1 h2 hn (λe=>.inl (hk e)) λl' a b=>.inr ⟨1,20,l'.map mB,_,rfl,rfl,hk2 l' a b⟩).fn (by decide)))
end Go.Proofs.YtjpgfgajkjhonaaGreatDoor
namespace Go.Proofs.YtjpgfgajkjhonaaGreatDoor
open Go.Vx
set_option maxRecDepth 100000
theorem KG (l:List (List D)) (hl:l.length<100000000):bJ Tryz.prog 85 [.d (.sl 7 l)] (.d (.sl 7 l)):=by
 refine s85.go (keep:=false) rfl ?_;cases l with
 |nil=>
  repeat' ((conv=>whnf);first | exact zf | refine zm ?_ | refine And.intro ?_ ?_ | intro _)
 |cons r l=>
  repeat' ((conv=>whnf);first | exact zf | refine zm ?_ | intro _)
theorem sS (o:Ob) (hl:o.va.q.length<100000000):bJ Tryz.prog 45 [fz o] (fz o):=by
 have h1:=KG (o.va.q.map eK) (by rw [aL];exact hl);refine s45.go (keep:=false) rfl ?_
 repeat' ((conv=>whnf);first | exact zf | refine zm ?_ | refine zc h1 ?_ | intro _)
def q8 (l:List (List UInt8×Ob)):List (D×Bool×List D):=l.map λp=>(.str p.1,true,fA p.2)
def bN (key:List UInt8):List (List UInt8×Ob)→Option (Nat×Ob)
 |[]=>none
 |p :: r=>if key=p.1 then some (0,p.2) else (bN key r).map λx=>(x.1+1,x.2)
theorem sJ (key:List UInt8):∀(l:List (List UInt8×Ob)) (i:Nat),pI [2] [.d (.str key)] (ga (q8 l)) i=some ((bN key l).map λx=>(x.1+i,fz x.2))
 |[],i=>rfl
 |p :: r,i=>by
  have ih:=sJ key r (i+1);show (bif true then (match some ((key==p.1)&&true) with
   |some b=>bif b then some (some (i,fz p.2)) else pI [2] [.d (.str key)] (ga (q8 r)) (i+1)
   |none=>none) else none)=_
  rw [bN]
  by_cases h:key=p.1
  ·rw [if_pos h,h];simp
  ·rw [if_neg h,ih];have:(key==p.1)=false:=by simpa using h
   rw [this];simp only [cond_true,cond_false,mY,Option.map_map];congr 1;congr 1
   funext x
   simp only [Function.comp_apply];rw [show x.1+1+i=x.1+(i+1) by omega]
abbrev Bv:=List (Lb×Option Nat×List (List Nat))
def qA (l:Bv):List ME:=l.map λp=>((p.1.s,p.1.i),some (p.2.1,fM (p.2.2.map cr)))
structure bq where
  th:List (List UInt8×Ob)
  nm:Bv
def jn (s:bq):H:=[.cells [.mp 1,.mp 2],.dm (q8 s.th),.ms 1 (qA s.nm) none none]
theorem Ky {K:Out→H→Prop} (hk:K (.ret (.p 0 0)) (jn ⟨[],[]⟩)):Sat Tryz.prog 18 [] [] K:=by
 refine s18.go (keep:=false) rfl ?_
 repeat' ((conv=>whnf);first | exact zf | refine zm ?_ | intro _)
 exact hk
def gb (s:bq) (key:List UInt8):Ob:=((bN key s.th).map (·.2)).getD fG
def ke (s:bq) (key:List UInt8):Bool:=(bN key s.th).isSome
theorem oh {K:Out→H→Prop} (s:bq) (key:List UInt8) (hq:(gb s key).va.q.length<100000000) (hk:K (.ret (.tu [fz (gb s key),.d (.bool (ke s key))])) (jn s)):Sat Tryz.prog 16 [.p 0 0,.d (.str key)] (jn s) K:=by
 have hc:=sS (gb s key) hq;have hf:=sJ key s.th 0;unfold gb ke at *;cases h:bN key s.th with
 |none=>
  rw [h] at hk hc hf;refine s16.go (keep:=false) rfl ?_
  repeat' ((conv=>whnf);first | exact zf | refine zm ?_ | intro _)
  refine ⟨_,hf,?_⟩
  repeat' ((conv=>whnf);first | exact zf | refine zm ?_ | refine zc hc ?_ | intro _)
  exact hk
 |some p=>
  rw [h] at hk hc hf;refine s16.go (keep:=false) rfl ?_
  repeat' ((conv=>whnf);first | exact zf | refine zm ?_ | intro _)
  refine ⟨_,hf,?_⟩
  repeat' ((conv=>whnf);first | exact zf | refine zm ?_ | refine zc hc ?_ | intro _)
  exact hk
theorem HZ (l:List (List UInt8×Ob)) (i:Nat) (key:List UInt8) (o:Ob):(q8 l).set i (.str key,true,fA o)=q8 (l.set i (key,o)):=by
 simp [q8]
def kF (s:bq) (i:Nat) (key:List UInt8) (o:Ob):bq:={ s with th:=s.th.set i (key,o) }
theorem lB {K:Out→H→Prop} (s:bq) (key:List UInt8) (i:Nat) (o gA:Ob) (hf:bN key s.th=some (i,gA)) (h1:gA.k=o.k) (h2:gA.l=o.l) (hq:o.va.q.length<100000000) (hk:K (.ret (.d (.int .i64 0))) (jn (kF s i key o))) :
  Sat Tryz.prog 111 [.p 0 0,.d (.str key),fz o] (jn s) K:=by
 have hc:=sS o hq;have hm:=sJ key s.th 0;rw [hf] at hm;unfold kF jn at hk;simp only [←HZ] at hk;have e1:(gA.k != o.k)=false:=by simp [h1]
 have e2:(gA.l.s==o.l.s&&(gA.l.i==o.l.i&&true))=true:=by simp [h2]
 refine s111.go (keep:=false) rfl ?_
 repeat' ((conv=>whnf);first | exact zf | refine zm ?_ | intro _)
 refine ⟨_,hm,?_⟩
 repeat' ((conv=>whnf);first | exact zf | refine zm ?_ | refine zc hc ?_ | refine zt ?_ | refine zu ?_ | intro _)
 refine ⟨_,hm,?_⟩
 repeat' ((conv=>whnf);first | exact zf | refine zm ?_ | refine zt ?_ | refine zu ?_ | intro _)
 exact hk
def Rp (l:List (List Nat)) (key:List Nat) (i:Nat):Bool:=match l[i]? with
 |some x=>decide (cmpL x key<0)
 |none=>false
def wA (l:List (List Nat)) (key:List Nat):Nat→Nat→Nat→Nat
 |0,i,_=>i
 |f+1,i,j=>bif decide (i<j) then (bif Rp l key ((i+j) / 2) then wA l key f ((i+j) / 2+1) j else wA l key f i ((i+j) / 2)) else i
def gK (l:List Nat):Prop:=l≠[]∧l.length≤24∧∀n∈l,n<100
theorem ED (a:Nat):Aa .shr .u64 (a:Int) 1=((a / 2:Nat):Int):=by
 show (a:Int).fdiv (2 ^ min (1:Int).toNat IntKind.u64.bits)=_;rw [show min (1:Int).toNat IntKind.u64.bits=1 by decide,show (2:Int) ^ 1=2 by decide,Int.fdiv_eq_ediv_of_nonneg _ (by omega)];omega
def qV (l:List (List Nat)) (key:List Nat):Nat:=wA l key l.length 0 l.length
def RY (l:List (List Nat)) (key:List Nat):Bool:=match l[qV l key]? with
 |some x=>cmpL x key==0
 |none=>false
theorem v_ (l:List (List Nat)) (key:List Nat):∀f i j,i≤j→j≤l.length→wA l key f i j≤l.length
 |0,i,j,h1,h2=>by rw [wA];omega
 |f+1,i,j,h1,h2=>by
  rw [wA];cases hd:decide (i<j) with
  |false=>rw [cond_false];omega
  |true=>
   have hd:=of_decide_eq_true hd;rw [cond_true];cases Rp l key ((i+j) / 2)
   ·exact v_ l key f i _ (by omega) (by omega)
   ·exact v_ l key f _ j (by omega) h2
set_option maxHeartbeats 1000000 in
theorem xu (l:List (List Nat)) (key:List Nat) (hl:∀x∈l,gK x) (hk:gK key) (hn:l.length<1000000000) :
  bJ Tryz.prog 46 [.d (.sl 1 (fM (l.map cr))),.d (.str (cr key)),.d (.fn 47)] (.tu [.d (.int .i64 (qV l key)),.d (.bool (RY l key))]):=by
 have e1:(fM (l.map cr)).length=l.length:=by rw [mj,aL]
 have hrow:∀(i:Nat) (x:List Nat),l[i]? = some x→(fM (l.map cr))[i]? = some [D.str (cr x)]:=λi x h=>by simp [fM,h]
 refine s46.go (keep:=false) rfl ?_
 repeat' ((conv=>whnf);first | exact zf | refine zm ?_ | intro _)
 conv=>whnf
 refine bV [(0,.d (.sl 1 (fM (l.map cr)))),(1,.d (.str (cr key))),(2,.d (.fn 47)),(8,.d (.int .i64 (fM (l.map cr)).length))] (λp:Nat×Nat=>(p.1≤p.2∧p.2≤l.length)∧∃f,p.2 - p.1≤f∧wA l key f p.1 p.2=qV l key) (λp=>[(9,.d (.int .i64 p.1)),(10,.d (.int .i64 p.2))]) (λ_=>[]) (λp=>p.2 - p.1) (0,l.length) ⟨⟨ak _,aQ _⟩,l.length,by simp,rfl⟩ ?_ ?_ ?_ (λ⟨i,j⟩ hi=>?_)
 ·exact ⟨rfl,congrArg (λx:Nat=>V.d (D.int .i64 x)) e1,rfl,rfl,rfl,rfl,trivial⟩
 ·exact zzz
 ·exact (by kernel_rfl)
 obtain ⟨⟨h1,h2⟩,f,h3,h4⟩:=hi;simp only at h1 h2 h3 h4
 repeat' ((conv=>whnf);first | exact zf | refine zm ?_ | intro _)
 refine aW (λhlt=>?_) (λhge=>?_)
 ·have hlt:i<j:=by have:=of_decide_eq_true hlt;omega
  have hsh:Aa .shr .u64 ((i:Int)+(j:Int)) 1=(((i+j) / 2:Nat):Int):=by rw [show (i:Int)+(j:Int)=((i+j:Nat):Int) by omega];exact ED _
  have hm:(i+j) / 2<l.length:=by omega
  obtain ⟨x,hx⟩:∃x,l[(i+j) / 2]? = some x:=⟨_,aB hm⟩
  have hgx:=hl x (aH hx);have ho:=Ao x key hgx.1 hgx.2.1 hgx.2.2 hk.1 hk.2.1 hk.2.2;have hlt':Rp l key ((i+j) / 2)=decide (cmpL x key<0):=by unfold Rp;rw [hx]
  obtain ⟨f,rfl⟩:∃f',f=f'+1:=⟨f - 1,by omega⟩
  rw [wA,decide_eq_true hlt,cond_true,hlt'] at h4
  repeat' ((conv=>whnf);first | exact zf | refine zm ?_ | refine (.inl ⟨by unfold eN;(try dsimp only);omega,?_⟩) | refine ⟨[.str (cr x)],⟨by dsimp only;omega,by dsimp only;rw [hsh];exact hrow _ _ hx,rfl⟩,?_⟩ | refine zc ho ?_ | intro _)
  refine aW (λhb=>?_) (λhb=>?_)
  ·rw [show decide (cmpL x key<0)=true from hb,cond_true] at h4;have hs1:Aa .shr .u64 ((i:Int)+(j:Int)) 1+1=(((i+j) / 2+1:Nat):Int):=by rw [hsh];rfl
   repeat' ((conv=>whnf);first | exact zf | refine zm ?_ | refine (.inl ⟨by unfold eN;(try dsimp only);omega,?_⟩) | intro _)
   exact ⟨((i+j) / 2+1,j),⟨⟨by dsimp only;omega,h2⟩,f,by dsimp only;omega,h4⟩,by dsimp only;omega,⟨congrArg (λx:Int=>V.d (D.int .i64 x)) hs1,rfl,rfl,rfl,rfl,rfl,trivial⟩,zzz,rfl⟩
  ·rw [show decide (cmpL x key<0)=false from hb,cond_false] at h4
   repeat' ((conv=>whnf);first | exact zf | refine zm ?_ | intro _)
   exact ⟨(i,(i+j) / 2),⟨⟨by dsimp only;omega,by dsimp only;omega⟩,f,by dsimp only;omega,h4⟩,by dsimp only;omega,⟨rfl,congrArg (λx:Int=>V.d (D.int .i64 x)) hsh,rfl,rfl,rfl,rfl,trivial⟩,zzz,rfl⟩
 ·have hij:i=j:=by have:=of_decide_eq_false hge;omega
  subst hij;have hb:qV l key=i:=by
   rw [←h4];cases f with
   |zero=>rfl
   |succ f=>rw [wA,decide_eq_false (Nat.lt_irrefl i),cond_false]
  unfold RY;rw [hb];cases hx:l[i]? with
  |none=>
   have hil:¬i<l.length:=by rw [List.getElem?_eq_none_iff] at hx;omega
   repeat' ((conv=>whnf);first | exact zf | refine zm ?_ | refine zt ?_ | refine zu ?_ | intro _)
  |some x=>
   have hil:=(aA.1 hx).1;have hgx:=hl x (aH hx);have ho:=Ao x key hgx.1 hgx.2.1 hgx.2.2 hk.1 hk.2.1 hk.2.2
   repeat' ((conv=>whnf);first | exact zf | refine zm ?_ | refine zc ho ?_ | refine ⟨[.str (cr x)],⟨by dsimp only;omega,hrow _ _ hx,rfl⟩,?_⟩ | refine zt ?_ | refine zu ?_ | intro _)
def tW (ns:List (List Nat)) (kp:List Nat):List (List Nat):=ns.take (qV ns kp)++kp :: ns.drop (qV ns kp)
def qS (l:Lb):Bv→Option Nat
 |[]=>none
 |p :: r=>if p.1.s=l.s∧p.1.i=l.i then some 0 else (qS l r).map (· + 1)
def pe (nm:Bv) (l:Lb) (kp:List Nat) (b:Option Nat):Bv:=
 match qS l nm with
 |some i=>nm.modify i λp=>(p.1,b,tW p.2.2 kp)
 |none=>nm ++ [(l,b,[kp])]
def qZ (s:bq) (kp:List Nat) (o:Ob) (b:Option Nat):bq:=⟨s.th ++ [(cr kp,o)],pe s.nm o.l kp b⟩
def lW (s:bq):Prop:=s.nm.length<1000000000∧∀p∈s.nm,p.2.2.length<100000000∧∀x∈p.2.2,gK x
theorem Bp {K:Out→H→Prop} (s:bq) (kp:List Nat) (o:Ob) (hkp:gK kp) (hl:cL o.l) (h:(o.k<3∨7<o.k)∨jv o.l=false) (hk:K (.ret (.d (.int .i64 1))) (jn s)) :
  Sat Tryz.prog 14 [.p 0 0,.d (.str (cr kp)),fz o] (jn s) K:=by
 have h1:=vG kp hkp.1 hkp.2.1 hkp.2.2;have h2:=pO o.l hl
 by_cases ha:o.k<3
 ·refine s14.go (keep:=false) rfl ?_
  repeat' ((conv=>whnf);first | exact zf | refine zm ?_ | refine zc h1 ?_ | refine zt ?_ | refine zu ?_ | intro _)
  exact hk
 ·by_cases hb:7<o.k
  ·refine s14.go (keep:=false) rfl ?_
   repeat' ((conv=>whnf);first | exact zf | refine zm ?_ | refine zc h1 ?_ | refine zt ?_ | refine zu ?_ | intro _)
   exact hk
  ·have hc:jv o.l=false:=h.resolve_left λh=>h.elim ha hb;rw [hc] at h2;refine s14.go (keep:=false) rfl ?_
   repeat' ((conv=>whnf);first | exact zf | refine zm ?_ | refine zc h1 ?_ | refine zc h2 ?_ | refine zt ?_ | refine zu ?_ | intro _)
   exact hk
theorem DY {K:Out→H→Prop} (s:bq) (kp:List Nat) (o gA:Ob) (i:Nat) (hkp:gK kp) (hl:cL o.l) (h3:3≤o.k) (h7:o.k≤7) (hr:jv o.l=true) (hf:bN (cr kp) s.th=some (i,gA)) (hk:K (.ret (.d (.int .i64 12))) (jn s)) :
  Sat Tryz.prog 14 [.p 0 0,.d (.str (cr kp)),fz o] (jn s) K:=by
 have h1:=vG kp hkp.1 hkp.2.1 hkp.2.2;have h2:=pO o.l hl;rw [hr] at h2;have hm:=sJ (cr kp) s.th 0;rw [hf] at hm;refine s14.go (keep:=false) rfl ?_
 repeat' ((conv=>whnf);first | exact zf | refine zm ?_ | refine zc h1 ?_ | refine zc h2 ?_ | refine zt ?_ | refine zu ?_ | intro _)
 refine ⟨_,hm,?_⟩
 repeat' ((conv=>whnf);first | exact zf | refine zm ?_ | refine zt ?_ | refine zu ?_ | intro _)
 exact hk
theorem FF (l:Lb):∀nm:Bv,oY (l.s,l.i) (qA nm)=qS l nm
 |[]=>rfl
 |p :: r=>by
  have ih:=FF l r;unfold oY qA at *;rw [cS,jF,ih,qS]
  by_cases h:p.1.s=l.s∧p.1.i=l.i
  ·rw [if_pos h];simp [h.1,h.2]
  ·rw [if_neg h];have:((p.1.s,p.1.i)==(l.s,l.i))=false:=by
    rw [beq_eq_false_iff_ne];intro e;exact h ⟨congrArg (·.1) e,congrArg (·.2) e⟩
   simp [this]
theorem uP {l:Lb}:∀{nm:Bv} {i:Nat},qS l nm=some i→∃p,nm[i]? = some p∧p.1=l
 |[],_,h=>by cases h
 |p :: r,i,h=>by
  rw [qS] at h;split at h
  ·rename_i hp;cases h;refine ⟨p,rfl,?_⟩;obtain ⟨⟨a,b⟩,q⟩:=p;cases l;simp only at hp;rw [hp.1,hp.2]
  ·cases hr:qS l r with
   |none=>rw [hr] at h;cases h
   |some j=>
    rw [hr] at h;cases h;obtain ⟨q,h1,h2⟩:=uP hr;exact ⟨q,by simpa using h1,h2⟩
theorem xP {k:List UInt8×List UInt8} {x:Option (Option Nat×List (List D))}:∀{es:List ME} {i:Nat},oY k (eu i x es)=oY k es
 |[],i=>by cases i<;>rfl
 |e :: es,0=>by simp [oY,eu,jF]
 |e :: es,i+1=>by
  have ih:=xP (k:=k) (x:=x) (es:=es) (i:=i);unfold oY eu at *;rw [List.modify_succ_cons,jF,jF,ih]
theorem Cd {i:Nat} {x y:Option (Option Nat×List (List D))} {es:List ME}:eu i x (eu i y es)=eu i x es:=by
 apply dC;intro j;rw [fp,fp,fp]
 by_cases h:i=j
 ·rw [if_pos h,if_pos h,if_pos h];cases es[j]?<;>rfl
 ·rw [if_neg h,if_neg h,if_neg h]
theorem JO (nm:Bv) (l:Lb) (b:Option Nat) (kp:List Nat):qA (nm ++ [(l,b,[kp])])=qA nm ++ [((l.s,l.i),some (b,fM [cr kp]))]:=by simp [qA]
theorem A3 (t:List (List UInt8×Ob)) (k:List UInt8) (o:Ob):q8 (t ++ [(k,o)])=q8 t ++ [(.str k,true,fA o)]:=by simp [q8]
theorem JN (nm:Bv) (i:Nat) (l:Lb) (g b:Option Nat) (ns:List (List Nat)) (kp:List Nat) (h:nm[i]? = some (l,g,ns)) :
  qA (nm.modify i λp=>(p.1,b,tW p.2.2 kp))=eu i (some (b,fM ((ns.map cr).take (qV ns kp)++cr kp :: (ns.map cr).drop (qV ns kp)))) (qA nm):=by
 apply dC;intro j;rw [fp];unfold qA;rw [aC,aC,List.getElem?_modify]
 by_cases hj:i=j
 ·subst hj;rw [h,if_pos rfl];simp [tW]
 ·simp [hj]
set_option maxHeartbeats 4000000 in
theorem Gh {K:Out→H→Prop} (s:bq) (kp:List Nat) (o:Ob) (hkp:gK kp) (hs:lW s) (hl:cL o.l) (h3:3≤o.k) (h7:o.k≤7) (hr:jv o.l=true) (hq:o.va.q.length<100000000) (hf:bN (cr kp) s.th=none) (hk:∀b,K (.ret (.d (.int .i64 0))) (jn (qZ s kp o b))) :
  Sat Tryz.prog 14 [.p 0 0,.d (.str (cr kp)),fz o] (jn s) K:=by
 have h1:=vG kp hkp.1 hkp.2.1 hkp.2.2;have h2:=pO o.l hl;rw [hr] at h2;have hm:=sJ (cr kp) s.th 0;rw [hf] at hm;have hc:=sS o hq;have hmf:=FF o.l s.nm;cases hi:qS o.l s.nm with
 |none=>
  rw [hi] at hmf;have hb:=xu [] kp (λ_ h=>nomatch h) hkp (by simp);have hins:=BN [] (cr kp) 0 (aQ _) (by simp);refine s14.go (keep:=false) rfl ?_
  repeat' ((conv=>whnf);first | exact zf | refine zm ?_ | refine zc h1 ?_ | refine zc h2 ?_ | refine zt ?_ | refine zu ?_ | intro _)
  refine ⟨_,hm,?_⟩
  repeat' ((conv=>whnf);first | exact zf | refine zm ?_ | refine zc hc ?_ | refine zt ?_ | refine zu ?_ | intro _)
  refine ⟨_,hm,?_⟩
  repeat' ((conv=>whnf);first | exact zf | refine zm ?_ | refine zt ?_ | refine zu ?_ | intro _)
  refine .inr ⟨⟨hmf,rfl⟩,?_⟩
  repeat' ((conv=>whnf);first | exact zf | refine (h_ 2 ?_) | refine (vz ?_) | refine (bp (bp (.inr ?_)):eQ _ (eQ _ (_∨Rl _ _ 48 _ _ _ _ _ _ _))) | refine zm ?_ | refine (.inl ⟨_,hb,rfl,?_⟩) | refine ⟨_,_,hins,?_⟩ | refine zt ?_ | refine zu ?_ | intro _)
  refine .inr ⟨⟨hmf,rfl,rfl⟩,λb=>?_⟩;have hk2:K (.ret (.d (.int .i64 0))) [.cells [.mp 1,.mp 2],.dm (q8 s.th ++ [(.str (cr kp),true,fA o)]),.ms 1 (qA s.nm ++ [((o.l.s,o.l.i),some (b,fM [cr kp]))]) none none]:=by
   have:=hk b;unfold qZ pe jn at this;simp only [hi,JO,A3] at this;exact this
  repeat' ((conv=>whnf);first | exact zf | refine zm ?_ | refine zt ?_ | refine zu ?_ | intro _)
  exact hk2
 |some i=>
  rw [hi] at hmf;obtain ⟨⟨l,g,ns⟩,hp,hpl⟩:=uP hi;simp only at hpl;subst hpl;obtain ⟨hn1,hn2⟩:=hs.2 _ (aH hp);simp only at hn1 hn2;have hb:=xu ns kp hn2 hkp (by omega);have hble:=v_ ns kp ns.length 0 ns.length (ak _) (aQ _);have hins:=BN (ns.map cr) (cr kp) (qV ns kp) (by rw [aL];exact hble) (by rw [aL];omega);have hent:((qA s.nm)[i]?).map (·.2)=some (some (g,fM (ns.map cr))):=by simp [qA,hp]
  refine s14.go (keep:=false) rfl ?_
  repeat' ((conv=>whnf);first | exact zf | refine zm ?_ | refine zc h1 ?_ | refine zc h2 ?_ | refine zt ?_ | refine zu ?_ | intro _)
  refine ⟨_,hm,?_⟩
  repeat' ((conv=>whnf);first | exact zf | refine zm ?_ | refine zc hc ?_ | refine zt ?_ | refine zu ?_ | intro _)
  refine ⟨_,hm,?_⟩
  repeat' ((conv=>whnf);first | exact zf | refine zm ?_ | refine zt ?_ | refine zu ?_ | intro _)
  refine .inl ⟨i,g,fM (ns.map cr),⟨hmf,hent⟩,?_⟩
  repeat' ((conv=>whnf);first | exact zf | refine (h_ 2 ?_) | refine (vz ?_) | refine (bp (bp (.inr ?_)):eQ _ (eQ _ (_∨Rl _ _ 48 _ _ _ _ _ _ _))) | refine zm ?_ | refine (.inl ⟨_,hb,rfl,?_⟩) | refine ⟨_,_,hins,?_⟩ | refine zt ?_ | refine zu ?_ | intro _)
  refine .inl ⟨i,⟨xP.trans hmf,λj v h=>(congrArg (·.1) (aj h)).symm⟩,λb=>?_⟩;have hk2:K (.ret (.d (.int .i64 0))) [.cells [.mp 1,.mp 2],.dm (q8 s.th ++ [(.str (cr kp),true,fA o)]),.ms 1 (eu i (some (b,fM ((ns.map cr).take (qV ns kp)++cr kp :: (ns.map cr).drop (qV ns kp)))) (eu i none (qA s.nm))) none none]:=by
   have:=hk b;unfold qZ pe jn at this;simp only [hi,JN _ _ _ _ _ _ _ hp,A3] at this;rw [Cd];exact this
  repeat' ((conv=>whnf);first | exact zf | refine zm ?_ | refine zt ?_ | refine zu ?_ | intro _)
  exact hk2
end Go.Proofs.YtjpgfgajkjhonaaGreatDoor
