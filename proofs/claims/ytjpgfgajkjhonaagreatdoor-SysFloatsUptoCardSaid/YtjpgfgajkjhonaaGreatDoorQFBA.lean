/- The document's own store, as far as it goes: that its functions return. Conditions: none. -/
import Derived.Test.YtjpgfgajkjhonaaGreatDoorQFAY
import Derived.Test.YtjpgfgajkjhonaaGreatDoorQFAT
import Derived.Test.YtjpgfgajkjhonaaGreatDoorQFAX
import Derived.Test.YtjpgfgajkjhonaaGreatDoorQFAZ
namespace Go.Proofs.YtjpgfgajkjhonaaGreatDoor
open Go.Vx
set_option maxRecDepth 100000
theorem Rj {K:Out→H→Prop} (a b:Int) (hk:∀v:Bool,K (.ret (.d (.bool v))) []):Sat Tryz.prog 327 [.d (.int .u8 a),.d (.int .u8 b)] [] K:=by
 refine s327.go (keep:=false) rfl ?_
 repeat' ((conv=>whnf);first | exact zf | refine zm ?_ | intro _)
 exact hk _
set_option maxHeartbeats 4000000 in
theorem Fu {K:Out→H→Prop} (l:List UInt8) (hl:l.length≤1000) (hk:∀s:List UInt8,s.length≤256→K (.ret (.d (.str s))) []):Sat Tryz.prog 297 [.d (.str l)] [] K:=by
 refine s297.go (keep:=false) rfl ?_
 repeat' ((conv=>whnf);first | exact zf | refine zm ?_ | intro _)
 conv=>whnf
 refine bV [(0,.d (.str l))] (λp:Nat×List UInt8=>p.1≤256∧p.2.length≤p.1) (λp=>[(4,.d (.int .i64 p.1)),(3,.d (.str p.2))]) (λ_=>[]) (λp=>256 - p.1) (0,[]) ⟨aj _,aQ _⟩ ?_ ?_ ?_ (λp hp=>?_)
 ·exact zzz
 ·exact zzz
 ·exact rfl
 obtain ⟨v,out⟩:=p;dsimp only at hp ⊢
 repeat' ((conv=>whnf);first | exact zf | refine zm ?_ | intro _)
 refine aX (λhlt=>?_) (λhge=>?_)
 ·have hlt:v<256:=by have:=of_decide_eq_true hlt;omega
  repeat' ((conv=>whnf);first | exact zf | refine zm ?_ | intro _)
  conv=>whnf
  refine bV [(0,.d (.str l)),(3,.d (.str out)),(4,.d (.int .i64 v)),(5,.d (.int .u8 v))] (λp:Nat×Bool×Bool=>p.1≤l.length) (λp=>[(8,.d (.int .i64 p.1)),(6,.d (.bool p.2.1)),(7,.d (.bool p.2.2))]) (λ_=>[]) (λp=>l.length - p.1) (0,false,true) (aj _) ?_ ?_ ?_ (λq hq=>?_)
  ·exact zzz
  ·exact zzz
  ·exact rfl
  obtain ⟨i,th,le⟩:=q;have hq:i≤l.length:=hq;dsimp only
  repeat' ((conv=>whnf);first | exact zf | refine zm ?_ | intro _)
  refine aX (λhli=>?_) (λhgi=>?_)
  ·have hli:i<l.length:=by have:=of_decide_eq_true hli;omega
   have hb:=l[i].toNat_lt;have hli':(i:Int)<(l.length:Int):=by omega
   have hin:=λ{K:Out→H→Prop}=>Rj (K:=K) (l[i].toNat:Int) (v:Int);have fin:∀x y:Bool,∃z:Nat×Bool×Bool,z.1≤l.length∧l.length - z.1<l.length - i∧z=(i+1,x,y):=λx y=>⟨(i+1,x,y),hli,by dsimp only;omega,rfl⟩
   have h5:∀{Q:UInt8→Prop},Q l[i]→∃b,(0≤(i:Int)∧l[(i:Int).toNat]? = some b)∧Q b:=λhQ=>⟨l[i],⟨by omega,by simp [hli]⟩,hQ⟩
   cases th<;>cases le
   all_goals
    repeat' ((conv=>whnf);first | exact zf | refine zm ?_ | refine (h5 ?_) | refine (.inl ⟨by unfold eW;omega,?_⟩) | refine (hin (λv=>?_)) | refine aX (λhb=>?_) (λhb=>?_) | intro _)
    all_goals exact ⟨(i+1,_,_),hli,(by show l.length - (i+1)<l.length - i;omega),zzz,zzz,rfl⟩
  ·cases th<;>cases le
   all_goals
    repeat' ((conv=>whnf);first | exact zf | refine zm ?_ | refine (.inl ⟨by unfold eW;omega,?_⟩) | refine ⟨[UInt8.ofNat v],by simp [cT hlt],?_⟩ | refine aX (λhb=>?_) (λhb=>?_) | intro _)
    all_goals first
     |exact ⟨(v+1,out),⟨hlt,by show out.length≤v+1;omega⟩,(by show 256 - (v+1)<256 - v;omega),⟨rfl,rfl,rfl,trivial⟩,trivial,rfl⟩
     |exact ⟨(v+1,out ++ [UInt8.ofNat v]),⟨hlt,by show (out ++ [UInt8.ofNat v]).length≤v+1;rw [aL];show out.length+1≤v+1;omega⟩,(by show 256 - (v+1)<256 - v;omega),⟨rfl,rfl,rfl,trivial⟩,trivial,rfl⟩
 ·skip
  repeat' ((conv=>whnf);first | exact zf | refine zm ?_ | intro _)
  exact hk _ (by omega)
theorem B6 {K:Out→H→Prop} (l:List UInt8) (hl:l.length≤1000) (hk:∀s:List UInt8,s.length≤256→K (.ret (.d (.str s))) []):Sat Tryz.prog 261 [.d (.str l)] [] K:=by
 refine s261.go (keep:=false) rfl ?_
 repeat' ((conv=>whnf);first | exact zf | refine zm ?_ | intro _)
 conv=>whnf
 refine bV [(0,.d (.str l))] (λp:Nat×List UInt8=>p.1≤l.length∧p.2.length≤p.1) (λp=>[(4,.d (.int .i64 p.1)),(3,.d (.str p.2))]) (λ_=>[]) (λp=>l.length - p.1) (0,[]) ⟨aj _,aQ _⟩ ?_ ?_ ?_ (λp hp=>?_)
 ·exact zzz
 ·exact zzz
 ·exact rfl
 obtain ⟨i,out⟩:=p;dsimp only at hp ⊢
 repeat' ((conv=>whnf);first | exact zf | refine zm ?_ | intro _)
 refine aX (λhlt=>?_) (λhge=>?_)
 ·have hlt:i<l.length:=by have:=of_decide_eq_true hlt;omega
  have hb:=l[i].toNat_lt;have h5:∀{Q:UInt8→Prop},Q l[i]→∃b,(0≤(i:Int)∧l[(i:Int).toNat]? = some b)∧Q b:=λhQ=>⟨l[i],⟨by omega,by simp [hlt]⟩,hQ⟩
  repeat' ((conv=>whnf);first | exact zf | refine zm ?_ | refine (h5 ?_) | refine (.inl ⟨by unfold eW;omega,?_⟩) | refine ⟨[l[i] &&& 63],congrArg (λx=>[[D.int .u8 x]]) (w8 l[i] 63),?_⟩ | intro _)
  exact ⟨(i+1,out ++ [l[i] &&& 63]),⟨hlt,by show (out ++ [l[i] &&& 63]).length≤i+1;rw [aL];show out.length+1≤i+1;omega⟩,(by show l.length - (i+1)<l.length - i;omega),⟨rfl,rfl,rfl,trivial⟩,trivial,rfl⟩
 ·have h1:=λ{K:Out→H→Prop}=>Fu (K:=K) out (by omega)
  repeat' ((conv=>whnf);first | exact zf | refine zm ?_ | refine (h1 (λs hs=>?_)) | intro _)
  exact hk _ hs
theorem Jm {K:Out→H→Prop} (L:Lb) (h1:L.s.length≤1000) (h2:L.i.length≤1000) (hk:∀l:Lb,K (.ret (jU l)) []):Sat Tryz.prog 191 [jU L] [] K:=by
 have a1:=λ{K:Out→H→Prop}=>B6 (K:=K) L.s h1;have a2:=λ{K:Out→H→Prop}=>B6 (K:=K) L.i h2;refine s191.go (keep:=false) rfl ?_
 repeat' ((conv=>whnf);first | exact zf | refine (dp (dp ?_)) | refine zm ?_ | refine (a1 (λs hs=>?_)) | refine (a2 (λt ht=>?_)) | refine And.intro ?_ ?_ | intro _)
 all_goals exact hk ⟨s,t⟩
theorem FA {K:Out→H→Prop} (L:Lb) (h1:L.s.length≤1000) (h2:L.i.length≤1000) (hk:∀b:Bool,K (.ret (.d (.bool b))) []):Sat Tryz.prog 119 [jU L] [] K:=by
 have a1:=λ{K:Out→H→Prop}=>Jm (K:=K) L h1 h2;refine s119.go (keep:=false) rfl ?_
 repeat' ((conv=>whnf);first | exact zf | refine (dp (dp ?_)) | refine zm ?_ | refine (a1 (λl=>?_)) | refine And.intro ?_ ?_ | intro _)
 all_goals exact hk _
def uE:List (Nat×List UInt8):=[(0,[48]),(1,[49]),(2,[50]),(10,[49,48])]
theorem Dk (n:Nat) (d:List UInt8) (h:(n,d)∈uE):bJ Tryz.prog 326 [.d (.int .u64 n)] (.d (.str d)):=by
 have hd:n<100∧d=bif decide (9<n) then [UInt8.ofNat (48+n / 10),UInt8.ofNat (48+n % 10)] else [UInt8.ofNat (48+n)]:=by
  simp only [uE,ae,dy,cU,or_false] at h;rcases h with ⟨rfl,rfl⟩ | ⟨rfl,rfl⟩ | ⟨rfl,rfl⟩ | ⟨rfl,rfl⟩<;>decide
 obtain ⟨hn,rfl⟩:=hd;refine s326.go (keep:=false) rfl ?_
 repeat' ((conv=>whnf);first | exact zf | refine zm ?_ | intro _)
 conv=>whnf
 refine bV [] (λp:Nat×List UInt8=>(p.1≤n∧p.2 = []∧p.1=n)∨(9<n∧p.1=n / 10∧p.2 = [UInt8.ofNat (48+n % 10)])) (λp=>[(0,.d (.int .u64 p.1)),(3,.d (.str p.2))]) (λ_=>[]) (λp=>p.1) (n,[]) (.inl ⟨aQ _,rfl,rfl⟩) ?_ ?_ ?_ (λp hp=>?_)
 ·exact zzz
 ·exact zzz
 ·exact rfl
 obtain ⟨u,s⟩:=p;dsimp only at hp ⊢
 repeat' ((conv=>whnf);first | exact zf | refine zm ?_ | intro _)
 refine aX (λhlt=>?_) (λhge=>?_)
 ·have hlt:9<u:=by have:=of_decide_eq_true hlt;omega
  have hu:u=n∧s = []:=by
   rcases hp with h | h
   ·exact ⟨h.2.2,h.2.1⟩
   ·omega
  obtain ⟨rfl,rfl⟩:=hu;have m1:(u:Int).tmod 10=((u % 10:Nat):Int):=by rw [bC (by omega)];omega
  have m2:(u:Int).tdiv 10=((u / 10:Nat):Int):=by rw [Int.tdiv_eq_ediv_of_nonneg (by omega)];omega
  have hw:(48+(u % 10)) % 256=48+u % 10:=by omega
  repeat' ((conv=>whnf);first | exact zf | refine zm ?_ | refine (.inl ⟨by unfold eW;omega,?_⟩) | refine ⟨[UInt8.ofNat (48+u % 10)],by simp only [m1];simp [hw],?_⟩ | intro _)
  exact ⟨(u / 10,[UInt8.ofNat (48+u % 10)]),.inr ⟨hlt,rfl,rfl⟩,(by show u / 10<u;omega),⟨gY (by show V.d (.int .u64 ((u:Int).tdiv 10))=_;rw [m2]),rfl,trivial⟩,trivial,rfl⟩
 ·have hge:u≤9:=by have:=of_decide_eq_false hge;omega
  have hw:(48+u) % 256=48+u:=by omega
  rcases hp with h | h
  ·obtain ⟨_,rfl,rfl⟩:=h;rw [show decide (9<u)=false by simp;omega]
   repeat' ((conv=>whnf);first | exact zf | refine zm ?_ | refine (.inl ⟨by unfold eW;omega,?_⟩) | refine ⟨[UInt8.ofNat (48+u)],by simp [hw],?_⟩ | intro _)
  ·obtain ⟨h9,rfl,rfl⟩:=h;rw [show decide (9<n)=true by simp;omega]
   repeat' ((conv=>whnf);first | exact zf | refine zm ?_ | refine (.inl ⟨by unfold eW;omega,?_⟩) | refine ⟨[UInt8.ofNat (48+n / 10)],by simp [hw],?_⟩ | intro _)
theorem JF (n:Nat) (d:List UInt8) (h:(n,d)∈uE):bJ Tryz.prog 296 [.d (.int .i64 n)] (.d (.str d)):=by
 have h1:=Dk n d h;have hn:n<100:=by
  simp only [uE,ae,dy,cU,or_false] at h;rcases h with ⟨rfl,rfl⟩ | ⟨rfl,rfl⟩ | ⟨rfl,rfl⟩ | ⟨rfl,rfl⟩<;>decide
 refine s296.go (keep:=false) rfl ?_
 repeat' ((conv=>whnf);first | exact zf | refine zm ?_ | refine zc h1 ?_ | refine zt ?_ | refine zu ?_ | intro _)
def J8 (n:Nat) (d:List UInt8) (i:Nat):Int:=bif Nat.beq i 0 then 0 else bif Nat.beq i d.length then n else n / 10
theorem FV (n:Nat) (d:List UInt8) (h:(n,d)∈uE):bJ Tryz.prog 260 [.d (.str d)] (.tu [.d (.int .i64 n),.d (.bool true)]):=by
 have h1:=JF n d h;simp only [uE,ae,dy,cU,or_false] at h;rcases h with ⟨rfl,rfl⟩ | ⟨rfl,rfl⟩ | ⟨rfl,rfl⟩ | ⟨rfl,rfl⟩
 all_goals
  refine s260.go (keep:=false) rfl ?_
  repeat' ((conv=>whnf);first | exact zf | refine zm ?_ | refine zt ?_ | refine zu ?_ | intro _)
  conv=>whnf
 ·skip
  refine bV [(0,.d (.str [48]))] (λi:Nat=>i≤1) (λi=>[(5,.d (.int .i64 i)),(4,.d (.int .u64 (J8 0 [48] i)))]) (λ_=>[]) (λi=>1 - i) 0 (aj _) ?_ ?_ ?_ (λi hi=>?_)
  ·exact zzz
  ·exact zzz
  ·exact rfl
  match i,hi with
  |0,_=>
   repeat' ((conv=>whnf);first | exact zf | refine zm ?_ | refine (gZ (by decide) ?_) | refine (gr (by decide) ?_) | refine ⟨_,⟨by decide,rfl⟩,?_⟩ | refine (.inl ⟨by unfold eW;decide,?_⟩) | intro _)
   exact ⟨1,by decide,by decide,zzz,zzz,rfl⟩
  |1,_=>
   repeat' ((conv=>whnf);first | exact zf | refine zm ?_ | refine (gZ (by decide) ?_) | refine (gr (by decide) ?_) | refine ⟨_,⟨by decide,rfl⟩,?_⟩ | refine (.inl ⟨by unfold eW;decide,?_⟩) | refine zc h1 ?_ | intro _)
 ·skip
  refine bV [(0,.d (.str [49]))] (λi:Nat=>i≤1) (λi=>[(5,.d (.int .i64 i)),(4,.d (.int .u64 (J8 1 [49] i)))]) (λ_=>[]) (λi=>1 - i) 0 (aj _) ?_ ?_ ?_ (λi hi=>?_)
  ·exact zzz
  ·exact zzz
  ·exact rfl
  match i,hi with
  |0,_=>
   repeat' ((conv=>whnf);first | exact zf | refine zm ?_ | refine (gZ (by decide) ?_) | refine (gr (by decide) ?_) | refine ⟨_,⟨by decide,rfl⟩,?_⟩ | refine (.inl ⟨by unfold eW;decide,?_⟩) | intro _)
   exact ⟨1,by decide,by decide,zzz,zzz,rfl⟩
  |1,_=>
   repeat' ((conv=>whnf);first | exact zf | refine zm ?_ | refine (gZ (by decide) ?_) | refine (gr (by decide) ?_) | refine ⟨_,⟨by decide,rfl⟩,?_⟩ | refine (.inl ⟨by unfold eW;decide,?_⟩) | refine zc h1 ?_ | intro _)
 ·skip
  refine bV [(0,.d (.str [50]))] (λi:Nat=>i≤1) (λi=>[(5,.d (.int .i64 i)),(4,.d (.int .u64 (J8 2 [50] i)))]) (λ_=>[]) (λi=>1 - i) 0 (aj _) ?_ ?_ ?_ (λi hi=>?_)
  ·exact zzz
  ·exact zzz
  ·exact rfl
  match i,hi with
  |0,_=>
   repeat' ((conv=>whnf);first | exact zf | refine zm ?_ | refine (gZ (by decide) ?_) | refine (gr (by decide) ?_) | refine ⟨_,⟨by decide,rfl⟩,?_⟩ | refine (.inl ⟨by unfold eW;decide,?_⟩) | intro _)
   exact ⟨1,by decide,by decide,zzz,zzz,rfl⟩
  |1,_=>
   repeat' ((conv=>whnf);first | exact zf | refine zm ?_ | refine (gZ (by decide) ?_) | refine (gr (by decide) ?_) | refine ⟨_,⟨by decide,rfl⟩,?_⟩ | refine (.inl ⟨by unfold eW;decide,?_⟩) | refine zc h1 ?_ | intro _)
 ·skip
  refine bV [(0,.d (.str [49,48]))] (λi:Nat=>i≤2) (λi=>[(5,.d (.int .i64 i)),(4,.d (.int .u64 (J8 10 [49,48] i)))]) (λ_=>[]) (λi=>2 - i) 0 (aj _) ?_ ?_ ?_ (λi hi=>?_)
  ·exact zzz
  ·exact zzz
  ·exact rfl
  match i,hi with
  |0,_=>
   repeat' ((conv=>whnf);first | exact zf | refine zm ?_ | refine (gZ (by decide) ?_) | refine (gr (by decide) ?_) | refine ⟨_,⟨by decide,rfl⟩,?_⟩ | refine (.inl ⟨by unfold eW;decide,?_⟩) | intro _)
   exact ⟨1,by decide,by decide,zzz,zzz,rfl⟩
  |1,_=>
   repeat' ((conv=>whnf);first | exact zf | refine zm ?_ | refine (gZ (by decide) ?_) | refine (gr (by decide) ?_) | refine ⟨_,⟨by decide,rfl⟩,?_⟩ | refine (.inl ⟨by unfold eW;decide,?_⟩) | intro _)
   exact ⟨2,by decide,by decide,zzz,zzz,rfl⟩
  |2,_=>
   repeat' ((conv=>whnf);first | exact zf | refine zm ?_ | refine (gZ (by decide) ?_) | refine (gr (by decide) ?_) | refine ⟨_,⟨by decide,rfl⟩,?_⟩ | refine (.inl ⟨by unfold eW;decide,?_⟩) | refine zc h1 ?_ | intro _)
def l9 (s:List UInt8):Nat→Nat×List (List UInt8)
 |0=>(0,[])
 |i+1=>bif Nat.beq i s.length||s[i]? == some 46 then (i+1,(l9 s i).2 ++ [(s.take i).drop (l9 s i).1]) else l9 s i
theorem CG (s:List UInt8):∀i,(l9 s i).1≤i∧(l9 s i).2.length≤i
 |0=>⟨aQ _,aQ _⟩
 |i+1=>by
  have:=CG s i;unfold l9;cases Nat.beq i s.length||s[i]? == some 46
  ·exact ⟨by rw [cond_false];omega,by rw [cond_false];omega⟩
  ·rw [cond_true];exact ⟨aQ _,by rw [aL];show _+1≤_;omega⟩
def xM (l:List (List UInt8)):List (List D):=l.map λx=>[.str x]
theorem Ny (s:List UInt8) (hs:s.length≤1000):bJ Tryz.prog 259 [.d (.str s)] (.d (.sl 1 (xM (l9 s (s.length+1)).2))):=by
 refine s259.go (keep:=false) rfl ?_
 repeat' ((conv=>whnf);first | exact zf | refine zm ?_ | intro _)
 conv=>whnf
 refine bV [(0,.d (.str s)),(3,.os 1)] (λi:Nat=>i≤s.length+1) (λi=>[(5,.d (.int .i64 i)),(4,.d (.int .i64 (l9 s i).1))]) (λi=>[.no,.rows 1 (xM (l9 s i).2)]) (λi=>s.length+1 - i) 0 (aj _) ?_ ?_ ?_ (λi hi=>?_)
 ·exact zzz
 ·exact ⟨a8 rfl,trivial⟩
 ·exact (by kernel_rfl)
 obtain ⟨c1,c2⟩:=CG s i;have hsu:l9 s (i+1)=bif Nat.beq i s.length||s[i]? == some 46 then (i+1,(l9 s i).2 ++ [(s.take i).drop (l9 s i).1]) else l9 s i:=rfl
 have hlr:(xM (l9 s i).2).length=(l9 s i).2.length:=aK _
 repeat' ((conv=>whnf);first | exact zf | refine zm ?_ | intro _)
 refine aX (λhlt=>?_) (λhge=>?_)
 ·have hlt:i≤s.length:=by have:=of_decide_eq_true hlt;omega
  by_cases he:i=s.length
  ·rw [show Nat.beq i s.length=true by rw [he];exact ev _,Bool.true_or,cond_true] at hsu
   repeat' ((conv=>whnf);first | exact zf | refine zm ?_ | refine (.inl ⟨by unfold eW;omega,?_⟩) | refine zt ?_ | refine zu ?_ | intro _)
   exact ⟨i+1,by omega,by omega,⟨rfl,gY (by rw [hsu];rfl),rfl,rfl,trivial⟩,⟨a8 (by rw [hsu];exact (congrArg (B.rows 1) (bm (l₂ :=[(s.take i).drop (l9 s i).1]))).symm),trivial⟩,rfl⟩
  ·have hlt:i<s.length:=by omega
   have h5:∀{Q:UInt8→Prop},Q s[i]→∃b,(0≤(i:Int)∧s[(i:Int).toNat]? = some b)∧Q b:=λhQ=>⟨s[i],⟨by omega,by simp [hlt]⟩,hQ⟩
   rw [show Nat.beq i s.length=false from (by cases h:Nat.beq i s.length with | true=>exact absurd (dA h) he | false=>rfl),Bool.false_or,aB hlt] at hsu;have hb:((some s[i]==some (46:UInt8))=decide ((s[i].toNat:Int)=46)):=by
    rw [e7];simp only [beq_iff_eq,decide_eq_true_eq,aF];constructor
    ·intro h;rw [h];rfl
    ·intro h;exact UInt8.toNat.inj (by rw [show UInt8.toNat 46=46 from rfl];omega)
   rw [hb] at hsu
   by_cases h46:(s[i].toNat:Int)=46
   ·rw [decide_eq_true h46,cond_true] at hsu
    repeat' ((conv=>whnf);first | exact zf | refine zm ?_ | refine (h5 ?_) | refine (.inl ⟨by unfold eW;omega,?_⟩) | refine zt ?_ | refine zu ?_ | intro _)
    exact ⟨i+1,by omega,by omega,⟨rfl,gY (by rw [hsu];rfl),rfl,rfl,trivial⟩,⟨a8 (by rw [hsu];exact (congrArg (B.rows 1) (bm (l₂ :=[(s.take i).drop (l9 s i).1]))).symm),trivial⟩,rfl⟩
   ·rw [decide_eq_false h46,cond_false] at hsu
    repeat' ((conv=>whnf);first | exact zf | refine zm ?_ | refine (h5 ?_) | refine (.inl ⟨by unfold eW;omega,?_⟩) | refine zt ?_ | refine zu ?_ | intro _)
    exact ⟨i+1,by omega,by omega,⟨rfl,gY (by rw [hsu];rfl),rfl,rfl,trivial⟩,⟨a8 (by rw [hsu]),trivial⟩,rfl⟩
 ·have hge:i=s.length+1:=by have:=of_decide_eq_false hge;omega
  subst hge
  repeat' ((conv=>whnf);first | exact zf | refine zm ?_ | intro _)
def j4 (l:List Nat):List (List D):=l.map λ(n:Nat)=>[.int .i64 (n:Int)]
theorem FU (s:List UInt8) (ps:List (Nat×List UInt8)) (hs:s.length≤1000) (h:(l9 s (s.length+1)).2=ps.map (·.2)) (hp:∀p∈ps,p∈uE) (hl:ps.length≤24) :
  bJ Tryz.prog 190 [.d (.str s)] (.d (.sl 1 (j4 (ps.map (·.1))))):=by
 have h1:=Ny s hs;rw [h] at h1;have hlr:(xM (ps.map (·.2))).length=ps.length:=by unfold xM;rw [aK,aK]
 refine s190.go (keep:=false) rfl ?_
 repeat' ((conv=>whnf);first | exact zf | refine zm ?_ | refine zc h1 ?_ | intro _)
 conv=>whnf
 refine bV [(4,.d (.sl 1 (xM (ps.map (·.2))))),(3,.os 1)] (λi:Nat=>i≤ps.length) (λi=>[(5,.d (.int .i64 i))]) (λi=>[.no,.rows 1 (j4 ((ps.take i).map (·.1)))]) (λi=>ps.length - i) 0 (aj _) ?_ ?_ ?_ (λi hi=>?_)
 ·exact zzz
 ·exact ⟨a8 (by simp [j4]),trivial⟩
 ·exact (by kernel_rfl)
 have hlq:(j4 ((ps.take i).map (·.1))).length≤24:=by unfold j4;rw [aK,aK,ah];omega
 repeat' ((conv=>whnf);first | exact zf | refine zm ?_ | intro _)
 refine aX (λhlt=>?_) (λhge=>?_)
 ·have hlt:i<ps.length:=by have:=of_decide_eq_true hlt;omega
  have hm:ps[i]∈uE:=hp _ (cV hlt);have h2:=FV ps[i].1 ps[i].2 hm;have hn:ps[i].1<100:=by
   have:∀q∈uE,q.1<100:=by decide
   exact this _ hm
  have hr:(xM (ps.map (·.2)))[(i:Int).toNat]? = some [.str ps[i].2]:=by
   unfold xM;rw [show (i:Int).toNat=i by omega,aC,aC,aB hlt];rfl
  have htk:ps.take (i+1)=ps.take i ++ [ps[i]]:=by rw [cF,aB hlt];rfl
  repeat' ((conv=>whnf);first | exact zf | refine zm ?_ | refine ⟨_,⟨by omega,hr,rfl⟩,?_⟩ | refine zc h2 ?_ | refine (.inl ⟨by unfold eW;omega,?_⟩) | refine zt ?_ | refine zu ?_ | intro _)
  exact ⟨i+1,by omega,by omega,zzz,⟨a8 (by rw [htk];unfold j4;rw [bm,bm];rfl),trivial⟩,rfl⟩
 ·have hge:i=ps.length:=by have:=of_decide_eq_false hge;omega
  subst hge
  repeat' ((conv=>whnf);first | exact zf | refine zm ?_ | intro _)
  rw [dQ];rfl
theorem FB (s:List UInt8) (ps:List Nat) (hp:bJ Tryz.prog 190 [.d (.str s)] (.d (.sl 1 (j4 ps)))) (h0:0<ps.length):bJ Tryz.prog 118 [.d (.str s)] (.d (.bool true)):=by
 have hl:(j4 ps).length=ps.length:=aK _;refine s118.go (keep:=false) rfl ?_
 repeat' ((conv=>whnf);first | exact zf | refine zm ?_ | refine zc hp ?_ | intro _)
 rw [show decide (((j4 ps).length:Int)>0)=true by simp;omega];rfl
theorem FY {K:Out→H→Prop} (a b:List UInt8) (x y:List Nat) (hx:bJ Tryz.prog 190 [.d (.str a)] (.d (.sl 1 (j4 x)))) (hy:bJ Tryz.prog 190 [.d (.str b)] (.d (.sl 1 (j4 y)))) (x0:0<x.length) (y0:0<y.length) (x1:x.length<100) (y1:y.length<100)
  (hk:∀r:Int,K (.ret (.d (.int .i64 r))) []):Sat Tryz.prog 121 [.d (.str a),.d (.str b)] [] K:=by
 have lix:(j4 x).length=x.length:=aK _;have liy:(j4 y).length=y.length:=aK _;have gx:∀i,i<x.length→(j4 x)[(i:Int).toNat]? = some [.int .i64 x[i]!]:=λi hi=>by
  unfold j4;rw [show (i:Int).toNat=i by omega,aC,aB hi];simp [hi]
 have gy:∀i,i<y.length→(j4 y)[(i:Int).toNat]? = some [.int .i64 y[i]!]:=λi hi=>by
  unfold j4;rw [show (i:Int).toNat=i by omega,aC,aB hi];simp [hi]
 refine s121.go (keep:=false) rfl ?_
 repeat' ((conv=>whnf);first | exact zf | refine zm ?_ | refine zc hx ?_ | refine zc hy ?_ | refine zt ?_ | refine zu ?_ | intro _)
 conv=>whnf
 refine bV [(5,.d (.sl 1 (j4 x))),(6,.d (.sl 1 (j4 y)))] (λi:Nat=>i≤x.length) (λi=>[(7,.d (.int .i64 i))]) (λ_=>[]) (λi=>x.length - i) 0 (aj _) ?_ ?_ ?_ (λi hi=>?_)
 ·exact zzz
 ·exact zzz
 ·exact rfl
 by_cases hlx:i<x.length
 ·have tx:decide ((i:Int)<((j4 x).length:Int))=true:=by simp;omega
  have qx:=gx i hlx
  by_cases hly:i<y.length
  ·have ty:decide ((i:Int)<((j4 y).length:Int))=true:=by simp;omega
   have qy:=gy i hly
   repeat' ((conv=>whnf);first | exact zf | refine zm ?_ | refine (gZ tx ?_) | refine (gZ ty ?_) | refine ⟨_,⟨by omega,qx,rfl⟩,?_⟩ | refine ⟨_,⟨by omega,qy,rfl⟩,?_⟩ | refine (.inl ⟨by unfold eW;omega,?_⟩) | refine aX (λhb=>?_) (λhb=>?_) | intro _)
   all_goals first
    |exact hk _
    |exact ⟨i+1,by omega,by omega,zzz,zzz,rfl⟩
  ·have ty:decide ((i:Int)<((j4 y).length:Int))=false:=by simp;omega
   repeat' ((conv=>whnf);first | exact zf | refine zm ?_ | refine (gZ tx ?_) | refine (gr ty ?_) | refine (.inl ⟨by unfold eW;omega,?_⟩) | refine aX (λhb=>?_) (λhb=>?_) | intro _)
   exact hk _
 ·have tx:decide ((i:Int)<((j4 x).length:Int))=false:=by simp;omega
  repeat' ((conv=>whnf);first | exact zf | refine zm ?_ | refine (gr tx ?_) | refine (.inl ⟨by unfold eW;omega,?_⟩) | refine aX (λhb=>?_) (λhb=>?_) | intro _)
  exact hk _
def numsOf:List (List (Nat×List UInt8)):=[[(0,[48])],[(1,[49])],[(0,[48]),(0,[48])],[(0,[48]),(1,[49])],[(2,[50])],[(10,[49,48])],[(1,[49]),(0,[48])],[(0,[48]),(0,[48]),(0,[48])]]
theorem qU:∀s∈iY,∃x:List Nat,bJ Tryz.prog 190 [.d (.str s)] (.d (.sl 1 (j4 x)))∧0<x.length∧x.length<100:=by
 have key:∀s∈iY,∃ps∈numsOf,s.length≤1000∧(l9 s (s.length+1)).2=ps.map (·.2)∧(∀p∈ps,p∈uE)∧ps.length≤24∧0<ps.length:=by decide
 intro s hs;obtain ⟨ps,_,h1,h2,h3,h4,h5⟩:=key s hs;exact ⟨_,FU s ps h1 h2 h3 h4,by rw [aK];exact h5,by rw [aK];omega⟩
def mP (p:List UInt8×Ob):List D:=.str p.1 :: fF p.2
def RW (l:List (List UInt8×Ob)):Prop:=∀p∈l,p.1∈iY
def LX (l:List (List UInt8×Ob)):H:=[.cells [.d (.sl 20 (l.map mP))]]
theorem K1 {K:Out→H→Prop} (l:List (List UInt8×Ob)) (s:List UInt8) (hl:l.length≤1000) (hk:∀r:Int,K (.ret (.d (.int .i64 r))) (LX l)):Sat Tryz.prog 120 [.p 0 0,.d (.str s)] (LX l) K:=by
 have hm:(l.map mP).length=l.length:=aK _;refine s120.go (keep:=false) rfl ?_
 repeat' ((conv=>whnf);first | exact zf | refine zm ?_ | refine zt ?_ | refine zu ?_ | intro _)
 conv=>whnf
 refine bV [(0,.p 0 0),(1,.d (.str s))] (λi:Nat=>i≤l.length) (λi=>[(5,.d (.int .i64 i))]) (λ_=>LX l) (λi=>l.length - i) 0 (aj _) ?_ ?_ ?_ (λi hi=>?_)
 ·exact zzz
 ·exact zzz
 ·exact rfl
 repeat' ((conv=>whnf);first | exact zf | refine zm ?_ | intro _)
 refine aX (λhlt=>?_) (λhge=>?_)
 ·have hlt:i<l.length:=by have:=of_decide_eq_true hlt;omega
  have hg:(l.map mP)[(i:Int).toNat]? = some (.str l[i].1 :: fF l[i].2):=by rw [show (i:Int).toNat=i by omega,aC,aB hlt];rfl
  repeat' ((conv=>whnf);first | exact zf | refine zm ?_ | refine ⟨_,⟨by omega,hg,rfl⟩,?_⟩ | refine (.inl ⟨by unfold eW;omega,?_⟩) | refine aX (λhb=>?_) (λhb=>?_) | intro _)
  all_goals first
   |exact hk _
   |exact ⟨i+1,by omega,by omega,zzz,zzz,rfl⟩
 ·skip
  repeat' ((conv=>whnf);first | exact zf | refine zm ?_ | refine (.inl ⟨by unfold eW;omega,?_⟩) | refine aX (λhb=>?_) (λhb=>?_) | intro _)
  exact hk _
set_option maxHeartbeats 4000000 in
theorem PV {K:Out→H→Prop} (l:List (List UInt8×Ob)) (s:List UInt8) (o:Ob) (hr:RW l) (hs:s∈iY) (h1:o.l.s.length≤1000) (h2:o.l.i.length≤1000)
  (hn:l.length≤500) (hk:∀e:Int,K (.ret (.d (.int .i64 e))) (LX l)) (hkB:∀l',RW l'→l'.length≤l.length+1→K (.ret (.d (.int .i64 0))) [.cells [.os 1],.rows 20 (l'.map mP)]):Sat Tryz.prog 78 [.p 0 0,.d (.str s),gH o] (LX l) K:=by
 obtain ⟨x,hx,x0,x1⟩:=qU s hs;have hm:(l.map mP).length=l.length:=aK _;have h118:=FB s x hx x0;have h119:=λ{K:Out→H→Prop}=>FA (K:=K) o.l h1 h2;have h120:=λ{K:Out→H→Prop}=>K1 (K:=K) l s (by omega);have hB:∀i:Nat,K (.ret (.d (.int .i64 0))) [.cells [.os 1],.rows 20 (List.drop (Int.toNat 0) (List.take (i:Int).toNat (l.map mP)) ++ [.str s :: fF o]++List.drop (i:Int).toNat (l.map mP))]:=λi=>by
  have h1:=hkB (l.take i++(s,o) :: l.drop i) (λp hp=>by
   rcases aR.1 hp with h | h
   ·exact hr p (eR h)
   ·rcases ae.1 h with h | h
    ·rw [h];exact hs
    ·exact hr p (dq h)) (by rw [aL,aU,ah,bz];omega)
  have e:(l.take i++(s,o) :: l.drop i).map mP=List.drop (Int.toNat 0) (List.take (i:Int).toNat (l.map mP)) ++ [.str s :: fF o]++List.drop (i:Int).toNat (l.map mP):=by
   rw [show (i:Int).toNat=i by omega,bm,cN,fg,List.map_drop,bM];rfl
  rw [e] at h1;exact h1
 by_cases k3:o.k<3
 ·have t3:decide (o.k<3)=true:=by simp [k3]
  refine s78.go (keep:=false) rfl ?_
  repeat' ((conv=>whnf);first | exact zf | refine zm ?_ | refine zc h118 ?_ | refine (gZ t3 ?_) | refine (.inr ?_:(∃_,_)∨_) | intro _)
  exact hk _
 ·have t3:decide (o.k<3)=false:=by simp;omega
  by_cases k7:7<o.k
  ·have t7:decide (o.k>7)=true:=by simp [k7]
   refine s78.go (keep:=false) rfl ?_
   repeat' ((conv=>whnf);first | exact zf | refine zm ?_ | refine zc h118 ?_ | refine (gr t3 ?_) | refine (gZ t7 ?_) | refine (.inr ?_:(∃_,_)∨_) | intro _)
   exact hk _
  ·have t7:decide (o.k>7)=false:=by simp;omega
   refine s78.go (keep:=false) rfl ?_
   repeat' ((conv=>whnf);first | exact zf | refine zm ?_ | refine zc h118 ?_ | refine (gr t3 ?_) | refine (gr t7 ?_) | refine (h119 (λb=>?_)) | intro _)
   cases b with
   |false=>
    repeat' ((conv=>whnf);first | exact zf | refine zm ?_ | intro _)
    exact hk _
   |true=>
    repeat' ((conv=>whnf);first | exact zf | refine zm ?_ | refine (.inr ?_:(∃_,_)∨_) | refine (h120 (λr=>?_)) | intro _)
    refine aX (λhlt=>?_) (λhge=>?_)
    ·skip
     repeat' ((conv=>whnf);first | exact zf | refine zm ?_ | intro _)
     exact hk _
    ·skip
     repeat' ((conv=>whnf);first | exact zf | refine zm ?_ | intro _)
     conv=>whnf
     refine bV [(0,.p 0 0),(1,.d (.str s)),(5,.p 1 0)] (λi:Nat=>i≤l.length) (λi=>[(7,.d (.int .i64 i))]) (λ_=>[.cells [.d (.sl 20 (l.map mP))],.cells ((fF o).map .d)]) (λi=>l.length - i) 0 (aj _) ?_ ?_ ?_ (λi hi=>?_)
     ·exact zzz
     ·exact zzz
     ·exact rfl
     by_cases hlt:i<l.length
     ·have tx:decide ((i:Int)<((l.map mP).length:Int))=true:=by simp;omega
      have hg:(l.map mP)[(i:Int).toNat]? = some (.str l[i].1 :: fF l[i].2):=by rw [show (i:Int).toNat=i by omega,aC,aB hlt];rfl
      obtain ⟨y,hy,y0,y1⟩:=qU l[i].1 (hr _ (cV hlt));have h121:=λ{K:Out→H→Prop}=>FY (K:=K) l[i].1 s y x hy hx y0 x0 y1 x1
      repeat' ((conv=>whnf);first | exact zf | refine zm ?_ | refine (gZ tx ?_) | refine ⟨_,⟨by omega,hg,rfl⟩,?_⟩ | refine (h121 (λr=>?_)) | intro _)
      refine aX (λhlt=>?_) (λhge=>?_)
      ·skip
       repeat' ((conv=>whnf);first | exact zf | refine zm ?_ | refine (.inl ⟨by unfold eW;omega,?_⟩) | intro _)
       exact ⟨i+1,by omega,by omega,zzz,zzz,rfl⟩
      ·skip
       repeat' ((conv=>whnf);first | exact zf | refine (dp (dp ?_)) | refine zm ?_ | refine And.intro ?_ ?_ | intro _)
       all_goals exact hB i
     ·have tx:decide ((i:Int)<((l.map mP).length:Int))=false:=by simp;omega
      repeat' ((conv=>whnf);first | exact zf | refine (dp (dp ?_)) | refine zm ?_ | refine (gr tx ?_) | refine And.intro ?_ ?_ | intro _)
      all_goals exact hB i
theorem Cs {P:Program} {f:Nat} {vs:List V} {h:H} {K:Out→H→Prop} (hs:uJ P f vs h λo h'=>K o h'∨∃id z rs x,h'[id]? = some (.rows z rs)∧o = .ret (.d x)∧K o (nX id (.d (.sl z rs)) h')):uJ P f vs h K:=by
 refine ⟨hs.1,λG w ρ vs0 h1 h2 h3=>(hs.2 G w ρ vs0 h1 h2 h3).mono λe w' ⟨G',ρ',h',out,hO,hrep,hk⟩=>?_⟩;rcases hk with hk | ⟨id,z,rs,x,hid,rfl,hk⟩
 ·exact ⟨G',ρ',h',out,hO,hrep,hk⟩
 ·have hi:id<ρ'.length:=by rw [hO.hr.len];exact (aA.1 hid).1
  obtain ⟨v,e1,hv⟩:=hrep;exact ⟨_,ρ',nX id (.d (.sl z rs)) h',.ret (.d x),hO.free (aB hi) hid,⟨v,e1,hv.mono (λ_ h=>.inl h) (λ_ _=>rfl) (λ_ _=>rfl)⟩,hk⟩
theorem SK {K:Out→H→Prop} (l:List (List UInt8×Ob)) (s:List UInt8) (o:Ob) (hr:RW l) (hs:s∈iY) (h1:o.l.s.length≤1000) (h2:o.l.i.length≤1000)
  (hn:l.length≤500) (hk:∀e:Int,K (.ret (.d (.int .i64 e))) (LX l)) (hk2:∀l',RW l'→l'.length≤l.length+1→K (.ret (.d (.int .i64 0))) [.cells [.d (.sl 20 (l'.map mP))],.no]):Sat Tryz.prog 78 [.p 0 0,.d (.str s),gH o] (LX l) K:=
 .inl (Cs ((PV (K:=λo h'=>K o h'∨∃id z rs x,h'[id]? = some (.rows z rs)∧o = .ret (.d x)∧K o (nX id (.d (.sl z rs)) h')) l s o hr hs h1 h2 hn (λe=>.inl (hk e)) λl' a b=>.inr ⟨1,20,l'.map mP,_,rfl,rfl,hk2 l' a b⟩).fn (by decide)))
end Go.Proofs.YtjpgfgajkjhonaaGreatDoor
namespace Go.Proofs.YtjpgfgajkjhonaaGreatDoor
open Go.Vx
set_option maxRecDepth 100000
theorem Km (l:List (List D)) (hl:l.length<100000000):bJ Tryz.prog 85 [.d (.sl 7 l)] (.d (.sl 7 l)):=by
 refine s85.go (keep:=false) rfl ?_;cases l with
 |nil=>
  repeat' ((conv=>whnf);first | exact zf | refine zm ?_ | refine And.intro ?_ ?_ | intro _)
 |cons r l=>
  repeat' ((conv=>whnf);first | exact zf | refine zm ?_ | intro _)
theorem sy (o:Ob) (hl:o.va.q.length<100000000):bJ Tryz.prog 45 [gH o] (gH o):=by
 have h1:=Km (o.va.q.map eL) (by rw [aK];exact hl);refine s45.go (keep:=false) rfl ?_
 repeat' ((conv=>whnf);first | exact zf | refine zm ?_ | refine zc h1 ?_ | intro _)
def qw (l:List (List UInt8×Ob)):List (D×Bool×List D):=l.map λp=>(.str p.1,true,fF p.2)
def cD (key:List UInt8):List (List UInt8×Ob)→Option (Nat×Ob)
 |[]=>none
 |p :: r=>if key=p.1 then some (0,p.2) else (cD key r).map λx=>(x.1+1,x.2)
theorem si (key:List UInt8):∀(l:List (List UInt8×Ob)) (i:Nat),p8 [2] [.d (.str key)] (gk (qw l)) i=some ((cD key l).map λx=>(x.1+i,gH x.2))
 |[],i=>rfl
 |p :: r,i=>by
  have ih:=si key r (i+1);show (bif true then (match some ((key==p.1)&&true) with
   |some b=>bif b then some (some (i,gH p.2)) else p8 [2] [.d (.str key)] (gk (qw r)) (i+1)
   |none=>none) else none)=_
  rw [cD]
  by_cases h:key=p.1
  ·rw [if_pos h,h];simp
  ·rw [if_neg h,ih];have:(key==p.1)=false:=by simpa using h
   rw [this];simp only [cond_true,cond_false,nB,Option.map_map];congr 1;congr 1
   funext x
   simp only [Function.comp_apply];rw [show x.1+1+i=x.1+(i+1) by omega]
abbrev C7:=List (Lb×Option Nat×List (List Nat))
def qT (l:C7):List ME:=l.map λp=>((p.1.s,p.1.i),some (p.2.1,fS (p.2.2.map cr)))
structure bq where
  th:List (List UInt8×Ob)
  nm:C7
def kH (s:bq):H:=[.cells [.mp 1,.mp 2],.dm (qw s.th),.ms 1 (qT s.nm) none none]
theorem Lf {K:Out→H→Prop} (hk:K (.ret (.p 0 0)) (kH ⟨[],[]⟩)):Sat Tryz.prog 18 [] [] K:=by
 refine s18.go (keep:=false) rfl ?_
 repeat' ((conv=>whnf);first | exact zf | refine zm ?_ | intro _)
 exact hk
def iR (s:bq) (key:List UInt8):Ob:=((cD key s.th).map (·.2)).getD fO
def mA (s:bq) (key:List UInt8):Bool:=(cD key s.th).isSome
theorem qZ {K:Out→H→Prop} (s:bq) (key:List UInt8) (hq:(iR s key).va.q.length<100000000) (hk:K (.ret (.tu [gH (iR s key),.d (.bool (mA s key))])) (kH s)):Sat Tryz.prog 16 [.p 0 0,.d (.str key)] (kH s) K:=by
 have hc:=sy (iR s key) hq;have hf:=si key s.th 0;unfold iR mA at *;cases h:cD key s.th with
 |none=>
  rw [h] at hk hc hf;refine s16.go (keep:=false) rfl ?_
  repeat' ((conv=>whnf);first | exact zf | refine zm ?_ | intro _)
  refine ⟨_,hf,?_⟩
  repeat' ((conv=>whnf);first | exact zf | refine zm ?_ | refine zc hc ?_ | intro _)
  exact hk
 |some p=>
  rw [h] at hk hc hf;refine s16.go (keep:=false) rfl ?_
  repeat' ((conv=>whnf);first | exact zf | refine zm ?_ | intro _)
  refine ⟨_,hf,?_⟩
  repeat' ((conv=>whnf);first | exact zf | refine zm ?_ | refine zc hc ?_ | intro _)
  exact hk
theorem JE (l:List (List UInt8×Ob)) (i:Nat) (key:List UInt8) (o:Ob):(qw l).set i (.str key,true,fF o)=qw (l.set i (key,o)):=by
 simp [qw]
def kS (s:bq) (i:Nat) (key:List UInt8) (o:Ob):bq:={ s with th:=s.th.set i (key,o) }
theorem lN {K:Out→H→Prop} (s:bq) (key:List UInt8) (i:Nat) (o gE:Ob) (hf:cD key s.th=some (i,gE)) (h1:gE.k=o.k) (h2:gE.l=o.l) (hq:o.va.q.length<100000000) (hk:K (.ret (.d (.int .i64 0))) (kH (kS s i key o))) :
  Sat Tryz.prog 111 [.p 0 0,.d (.str key),gH o] (kH s) K:=by
 have hc:=sy o hq;have hm:=si key s.th 0;rw [hf] at hm;unfold kS kH at hk;simp only [←JE] at hk;have e1:(gE.k != o.k)=false:=by simp [h1]
 have e2:(gE.l.s==o.l.s&&(gE.l.i==o.l.i&&true))=true:=by simp [h2]
 refine s111.go (keep:=false) rfl ?_
 repeat' ((conv=>whnf);first | exact zf | refine zm ?_ | intro _)
 refine ⟨_,hm,?_⟩
 repeat' ((conv=>whnf);first | exact zf | refine zm ?_ | refine zc hc ?_ | refine zt ?_ | refine zu ?_ | intro _)
 refine ⟨_,hm,?_⟩
 repeat' ((conv=>whnf);first | exact zf | refine zm ?_ | refine zt ?_ | refine zu ?_ | intro _)
 exact hk
def Sd (l:List (List Nat)) (key:List Nat) (i:Nat):Bool:=match l[i]? with
 |some x=>decide (cmpL x key<0)
 |none=>false
def wY (l:List (List Nat)) (key:List Nat):Nat→Nat→Nat→Nat
 |0,i,_=>i
 |f+1,i,j=>bif decide (i<j) then (bif Sd l key ((i+j) / 2) then wY l key f ((i+j) / 2+1) j else wY l key f i ((i+j) / 2)) else i
def gP (l:List Nat):Prop:=l≠[]∧l.length≤24∧∀n∈l,n<100
theorem El (a:Nat):zQ .shr .u64 (a:Int) 1=((a / 2:Nat):Int):=by
 show (a:Int).fdiv (2 ^ min (1:Int).toNat IntKind.u64.bits)=_;rw [show min (1:Int).toNat IntKind.u64.bits=1 by decide,show (2:Int) ^ 1=2 by decide,Int.fdiv_eq_ediv_of_nonneg _ (by omega)];omega
def qm (l:List (List Nat)) (key:List Nat):Nat:=wY l key l.length 0 l.length
def SE (l:List (List Nat)) (key:List Nat):Bool:=match l[qm l key]? with
 |some x=>cmpL x key==0
 |none=>false
theorem wX (l:List (List Nat)) (key:List Nat):∀f i j,i≤j→j≤l.length→wY l key f i j≤l.length
 |0,i,j,h1,h2=>by rw [wY];omega
 |f+1,i,j,h1,h2=>by
  rw [wY];cases hd:decide (i<j) with
  |false=>rw [cond_false];omega
  |true=>
   have hd:=of_decide_eq_true hd;rw [cond_true];cases Sd l key ((i+j) / 2)
   ·exact wX l key f i _ (by omega) (by omega)
   ·exact wX l key f _ j (by omega) h2
set_option maxHeartbeats 1000000 in
theorem yW (l:List (List Nat)) (key:List Nat) (hl:∀x∈l,gP x) (hk:gP key) (hn:l.length<1000000000) :
  bJ Tryz.prog 46 [.d (.sl 1 (fS (l.map cr))),.d (.str (cr key)),.d (.fn 47)] (.tu [.d (.int .i64 (qm l key)),.d (.bool (SE l key))]):=by
 have e1:(fS (l.map cr)).length=l.length:=by rw [nH,aK]
 have hrow:∀(i:Nat) (x:List Nat),l[i]? = some x→(fS (l.map cr))[i]? = some [D.str (cr x)]:=λi x h=>by simp [fS,h]
 refine s46.go (keep:=false) rfl ?_
 repeat' ((conv=>whnf);first | exact zf | refine zm ?_ | intro _)
 conv=>whnf
 refine bV [(0,.d (.sl 1 (fS (l.map cr)))),(1,.d (.str (cr key))),(2,.d (.fn 47)),(8,.d (.int .i64 (fS (l.map cr)).length))] (λp:Nat×Nat=>(p.1≤p.2∧p.2≤l.length)∧∃f,p.2 - p.1≤f∧wY l key f p.1 p.2=qm l key) (λp=>[(9,.d (.int .i64 p.1)),(10,.d (.int .i64 p.2))]) (λ_=>[]) (λp=>p.2 - p.1) (0,l.length) ⟨⟨aj _,aQ _⟩,l.length,by simp,rfl⟩ ?_ ?_ ?_ (λ⟨i,j⟩ hi=>?_)
 ·exact ⟨rfl,congrArg (λx:Nat=>V.d (D.int .i64 x)) e1,rfl,rfl,rfl,rfl,trivial⟩
 ·exact zzz
 ·exact (by kernel_rfl)
 obtain ⟨⟨h1,h2⟩,f,h3,h4⟩:=hi;simp only at h1 h2 h3 h4
 repeat' ((conv=>whnf);first | exact zf | refine zm ?_ | intro _)
 refine aX (λhlt=>?_) (λhge=>?_)
 ·have hlt:i<j:=by have:=of_decide_eq_true hlt;omega
  have hsh:zQ .shr .u64 ((i:Int)+(j:Int)) 1=(((i+j) / 2:Nat):Int):=by rw [show (i:Int)+(j:Int)=((i+j:Nat):Int) by omega];exact El _
  have hm:(i+j) / 2<l.length:=by omega
  obtain ⟨x,hx⟩:∃x,l[(i+j) / 2]? = some x:=⟨_,aB hm⟩
  have hgx:=hl x (aH hx);have ho:=BZ x key hgx.1 hgx.2.1 hgx.2.2 hk.1 hk.2.1 hk.2.2;have hlt':Sd l key ((i+j) / 2)=decide (cmpL x key<0):=by unfold Sd;rw [hx]
  obtain ⟨f,rfl⟩:∃f',f=f'+1:=⟨f - 1,by omega⟩
  rw [wY,decide_eq_true hlt,cond_true,hlt'] at h4
  repeat' ((conv=>whnf);first | exact zf | refine zm ?_ | refine (.inl ⟨by unfold eW;(try dsimp only);omega,?_⟩) | refine ⟨[.str (cr x)],⟨by dsimp only;omega,by dsimp only;rw [hsh];exact hrow _ _ hx,rfl⟩,?_⟩ | refine zc ho ?_ | intro _)
  refine aX (λhb=>?_) (λhb=>?_)
  ·rw [show decide (cmpL x key<0)=true from hb,cond_true] at h4;have hs1:zQ .shr .u64 ((i:Int)+(j:Int)) 1+1=(((i+j) / 2+1:Nat):Int):=by rw [hsh];rfl
   repeat' ((conv=>whnf);first | exact zf | refine zm ?_ | refine (.inl ⟨by unfold eW;(try dsimp only);omega,?_⟩) | intro _)
   exact ⟨((i+j) / 2+1,j),⟨⟨by dsimp only;omega,h2⟩,f,by dsimp only;omega,h4⟩,by dsimp only;omega,⟨congrArg (λx:Int=>V.d (D.int .i64 x)) hs1,rfl,rfl,rfl,rfl,rfl,trivial⟩,zzz,rfl⟩
  ·rw [show decide (cmpL x key<0)=false from hb,cond_false] at h4
   repeat' ((conv=>whnf);first | exact zf | refine zm ?_ | intro _)
   exact ⟨(i,(i+j) / 2),⟨⟨by dsimp only;omega,by dsimp only;omega⟩,f,by dsimp only;omega,h4⟩,by dsimp only;omega,⟨rfl,congrArg (λx:Int=>V.d (D.int .i64 x)) hsh,rfl,rfl,rfl,rfl,trivial⟩,zzz,rfl⟩
 ·have hij:i=j:=by have:=of_decide_eq_false hge;omega
  subst hij;have hb:qm l key=i:=by
   rw [←h4];cases f with
   |zero=>rfl
   |succ f=>rw [wY,decide_eq_false (Nat.lt_irrefl i),cond_false]
  unfold SE;rw [hb];cases hx:l[i]? with
  |none=>
   have hil:¬i<l.length:=by rw [List.getElem?_eq_none_iff] at hx;omega
   repeat' ((conv=>whnf);first | exact zf | refine zm ?_ | refine zt ?_ | refine zu ?_ | intro _)
  |some x=>
   have hil:=(aA.1 hx).1;have hgx:=hl x (aH hx);have ho:=BZ x key hgx.1 hgx.2.1 hgx.2.2 hk.1 hk.2.1 hk.2.2
   repeat' ((conv=>whnf);first | exact zf | refine zm ?_ | refine zc ho ?_ | refine ⟨[.str (cr x)],⟨by dsimp only;omega,hrow _ _ hx,rfl⟩,?_⟩ | refine zt ?_ | refine zu ?_ | intro _)
def uD (ns:List (List Nat)) (kp:List Nat):List (List Nat):=ns.take (qm ns kp)++kp :: ns.drop (qm ns kp)
def qi (l:Lb):C7→Option Nat
 |[]=>none
 |p :: r=>if p.1.s=l.s∧p.1.i=l.i then some 0 else (qi l r).map (· + 1)
def qI (nm:C7) (l:Lb) (kp:List Nat) (b:Option Nat):C7:=
 match qi l nm with
 |some i=>nm.modify i λp=>(p.1,b,uD p.2.2 kp)
 |none=>nm ++ [(l,b,[kp])]
def qq (s:bq) (kp:List Nat) (o:Ob) (b:Option Nat):bq:=⟨s.th ++ [(cr kp,o)],qI s.nm o.l kp b⟩
def lu (s:bq):Prop:=s.nm.length<1000000000∧∀p∈s.nm,p.2.2.length<100000000∧∀x∈p.2.2,gP x
theorem C1 {K:Out→H→Prop} (s:bq) (kp:List Nat) (o:Ob) (hkp:gP kp) (hl:cO o.l) (h:(o.k<3∨7<o.k)∨kq o.l=false) (hk:K (.ret (.d (.int .i64 1))) (kH s)) :
  Sat Tryz.prog 14 [.p 0 0,.d (.str (cr kp)),gH o] (kH s) K:=by
 have h1:=vf kp hkp.1 hkp.2.1 hkp.2.2;have h2:=ph o.l hl
 by_cases ha:o.k<3
 ·refine s14.go (keep:=false) rfl ?_
  repeat' ((conv=>whnf);first | exact zf | refine zm ?_ | refine zc h1 ?_ | refine zt ?_ | refine zu ?_ | intro _)
  exact hk
 ·by_cases hb:7<o.k
  ·refine s14.go (keep:=false) rfl ?_
   repeat' ((conv=>whnf);first | exact zf | refine zm ?_ | refine zc h1 ?_ | refine zt ?_ | refine zu ?_ | intro _)
   exact hk
  ·have hc:kq o.l=false:=h.resolve_left λh=>h.elim ha hb;rw [hc] at h2;refine s14.go (keep:=false) rfl ?_
   repeat' ((conv=>whnf);first | exact zf | refine zm ?_ | refine zc h1 ?_ | refine zc h2 ?_ | refine zt ?_ | refine zu ?_ | intro _)
   exact hk
theorem EB {K:Out→H→Prop} (s:bq) (kp:List Nat) (o gE:Ob) (i:Nat) (hkp:gP kp) (hl:cO o.l) (h3:3≤o.k) (h7:o.k≤7) (hr:kq o.l=true) (hf:cD (cr kp) s.th=some (i,gE)) (hk:K (.ret (.d (.int .i64 12))) (kH s)) :
  Sat Tryz.prog 14 [.p 0 0,.d (.str (cr kp)),gH o] (kH s) K:=by
 have h1:=vf kp hkp.1 hkp.2.1 hkp.2.2;have h2:=ph o.l hl;rw [hr] at h2;have hm:=si (cr kp) s.th 0;rw [hf] at hm;refine s14.go (keep:=false) rfl ?_
 repeat' ((conv=>whnf);first | exact zf | refine zm ?_ | refine zc h1 ?_ | refine zc h2 ?_ | refine zt ?_ | refine zu ?_ | intro _)
 refine ⟨_,hm,?_⟩
 repeat' ((conv=>whnf);first | exact zf | refine zm ?_ | refine zt ?_ | refine zu ?_ | intro _)
 exact hk
theorem Fk (l:Lb):∀nm:C7,pH (l.s,l.i) (qT nm)=qi l nm
 |[]=>rfl
 |p :: r=>by
  have ih:=Fk l r;unfold pH qT at *;rw [cN,jQ,ih,qi]
  by_cases h:p.1.s=l.s∧p.1.i=l.i
  ·rw [if_pos h];simp [h.1,h.2]
  ·rw [if_neg h];have:((p.1.s,p.1.i)==(l.s,l.i))=false:=by
    rw [beq_eq_false_iff_ne];intro e;exact h ⟨congrArg (·.1) e,congrArg (·.2) e⟩
   simp [this]
theorem ui {l:Lb}:∀{nm:C7} {i:Nat},qi l nm=some i→∃p,nm[i]? = some p∧p.1=l
 |[],_,h=>by cases h
 |p :: r,i,h=>by
  rw [qi] at h;split at h
  ·rename_i hp;cases h;refine ⟨p,rfl,?_⟩;obtain ⟨⟨a,b⟩,q⟩:=p;cases l;simp only at hp;rw [hp.1,hp.2]
  ·cases hr:qi l r with
   |none=>rw [hr] at h;cases h
   |some j=>
    rw [hr] at h;cases h;obtain ⟨q,h1,h2⟩:=ui hr;exact ⟨q,by simpa using h1,h2⟩
theorem xj {k:List UInt8×List UInt8} {x:Option (Option Nat×List (List D))}:∀{es:List ME} {i:Nat},pH k (fC i x es)=pH k es
 |[],i=>by cases i<;>rfl
 |e :: es,0=>by simp [pH,fC,jQ]
 |e :: es,i+1=>by
  have ih:=xj (k:=k) (x:=x) (es:=es) (i:=i);unfold pH fC at *;rw [List.modify_succ_cons,jQ,jQ,ih]
theorem DR {i:Nat} {x y:Option (Option Nat×List (List D))} {es:List ME}:fC i x (fC i y es)=fC i x es:=by
 apply dD;intro j;rw [fy,fy,fy]
 by_cases h:i=j
 ·rw [if_pos h,if_pos h,if_pos h];cases es[j]?<;>rfl
 ·rw [if_neg h,if_neg h,if_neg h]
theorem Jp (nm:C7) (l:Lb) (b:Option Nat) (kp:List Nat):qT (nm ++ [(l,b,[kp])])=qT nm ++ [((l.s,l.i),some (b,fS [cr kp]))]:=by simp [qT]
theorem BD (t:List (List UInt8×Ob)) (k:List UInt8) (o:Ob):qw (t ++ [(k,o)])=qw t ++ [(.str k,true,fF o)]:=by simp [qw]
theorem Jo (nm:C7) (i:Nat) (l:Lb) (g b:Option Nat) (ns:List (List Nat)) (kp:List Nat) (h:nm[i]? = some (l,g,ns)) :
  qT (nm.modify i λp=>(p.1,b,uD p.2.2 kp))=fC i (some (b,fS ((ns.map cr).take (qm ns kp)++cr kp :: (ns.map cr).drop (qm ns kp)))) (qT nm):=by
 apply dD;intro j;rw [fy];unfold qT;rw [aC,aC,List.getElem?_modify]
 by_cases hj:i=j
 ·subst hj;rw [h,if_pos rfl];simp [uD]
 ·simp [hj]
set_option maxHeartbeats 4000000 in
theorem H3 {K:Out→H→Prop} (s:bq) (kp:List Nat) (o:Ob) (hkp:gP kp) (hs:lu s) (hl:cO o.l) (h3:3≤o.k) (h7:o.k≤7) (hr:kq o.l=true) (hq:o.va.q.length<100000000) (hf:cD (cr kp) s.th=none) (hk:∀b,K (.ret (.d (.int .i64 0))) (kH (qq s kp o b))) :
  Sat Tryz.prog 14 [.p 0 0,.d (.str (cr kp)),gH o] (kH s) K:=by
 have h1:=vf kp hkp.1 hkp.2.1 hkp.2.2;have h2:=ph o.l hl;rw [hr] at h2;have hm:=si (cr kp) s.th 0;rw [hf] at hm;have hc:=sy o hq;have hmf:=Fk o.l s.nm;cases hi:qi o.l s.nm with
 |none=>
  rw [hi] at hmf;have hb:=yW [] kp (λ_ h=>nomatch h) hkp (by simp);have hins:=Bp [] (cr kp) 0 (aQ _) (by simp);refine s14.go (keep:=false) rfl ?_
  repeat' ((conv=>whnf);first | exact zf | refine zm ?_ | refine zc h1 ?_ | refine zc h2 ?_ | refine zt ?_ | refine zu ?_ | intro _)
  refine ⟨_,hm,?_⟩
  repeat' ((conv=>whnf);first | exact zf | refine zm ?_ | refine zc hc ?_ | refine zt ?_ | refine zu ?_ | intro _)
  refine ⟨_,hm,?_⟩
  repeat' ((conv=>whnf);first | exact zf | refine zm ?_ | refine zt ?_ | refine zu ?_ | intro _)
  refine .inr ⟨⟨hmf,rfl⟩,?_⟩
  repeat' ((conv=>whnf);first | exact zf | refine (iH 2 ?_) | refine (wW ?_) | refine (bo (bo (.inr ?_)):eQ _ (eQ _ (_∨S7 _ _ 48 _ _ _ _ _ _ _))) | refine zm ?_ | refine (.inl ⟨_,hb,rfl,?_⟩) | refine ⟨_,_,hins,?_⟩ | refine zt ?_ | refine zu ?_ | intro _)
  refine .inr ⟨⟨hmf,rfl,rfl⟩,λb=>?_⟩;have hk2:K (.ret (.d (.int .i64 0))) [.cells [.mp 1,.mp 2],.dm (qw s.th ++ [(.str (cr kp),true,fF o)]),.ms 1 (qT s.nm ++ [((o.l.s,o.l.i),some (b,fS [cr kp]))]) none none]:=by
   have:=hk b;unfold qq qI kH at this;simp only [hi,Jp,BD] at this;exact this
  repeat' ((conv=>whnf);first | exact zf | refine zm ?_ | refine zt ?_ | refine zu ?_ | intro _)
  exact hk2
 |some i=>
  rw [hi] at hmf;obtain ⟨⟨l,g,ns⟩,hp,hpl⟩:=ui hi;simp only at hpl;subst hpl;obtain ⟨hn1,hn2⟩:=hs.2 _ (aH hp);simp only at hn1 hn2;have hb:=yW ns kp hn2 hkp (by omega);have hble:=wX ns kp ns.length 0 ns.length (aj _) (aQ _);have hins:=Bp (ns.map cr) (cr kp) (qm ns kp) (by rw [aK];exact hble) (by rw [aK];omega);have hent:((qT s.nm)[i]?).map (·.2)=some (some (g,fS (ns.map cr))):=by simp [qT,hp]
  refine s14.go (keep:=false) rfl ?_
  repeat' ((conv=>whnf);first | exact zf | refine zm ?_ | refine zc h1 ?_ | refine zc h2 ?_ | refine zt ?_ | refine zu ?_ | intro _)
  refine ⟨_,hm,?_⟩
  repeat' ((conv=>whnf);first | exact zf | refine zm ?_ | refine zc hc ?_ | refine zt ?_ | refine zu ?_ | intro _)
  refine ⟨_,hm,?_⟩
  repeat' ((conv=>whnf);first | exact zf | refine zm ?_ | refine zt ?_ | refine zu ?_ | intro _)
  refine .inl ⟨i,g,fS (ns.map cr),⟨hmf,hent⟩,?_⟩
  repeat' ((conv=>whnf);first | exact zf | refine (iH 2 ?_) | refine (wW ?_) | refine (bo (bo (.inr ?_)):eQ _ (eQ _ (_∨S7 _ _ 48 _ _ _ _ _ _ _))) | refine zm ?_ | refine (.inl ⟨_,hb,rfl,?_⟩) | refine ⟨_,_,hins,?_⟩ | refine zt ?_ | refine zu ?_ | intro _)
  refine .inl ⟨i,⟨xj.trans hmf,λj v h=>(congrArg (·.1) (ak h)).symm⟩,λb=>?_⟩;have hk2:K (.ret (.d (.int .i64 0))) [.cells [.mp 1,.mp 2],.dm (qw s.th ++ [(.str (cr kp),true,fF o)]),.ms 1 (fC i (some (b,fS ((ns.map cr).take (qm ns kp)++cr kp :: (ns.map cr).drop (qm ns kp)))) (fC i none (qT s.nm))) none none]:=by
   have:=hk b;unfold qq qI kH at this;simp only [hi,Jo _ _ _ _ _ _ _ hp,BD] at this;rw [DR];exact this
  repeat' ((conv=>whnf);first | exact zf | refine zm ?_ | refine zt ?_ | refine zu ?_ | intro _)
  exact hk2
end Go.Proofs.YtjpgfgajkjhonaaGreatDoor
