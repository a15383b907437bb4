/- Lemmas. Conditions: none. -/
import Derived.Test.YtjpgfgajkjhonaaGreatDoorQRAX
set_option maxHeartbeats 4000000
namespace Go.Proofs.YtjpgfgajkjhonaaGreatDoor
open Go.Vx
set_option maxRecDepth 100000
theorem UE{K:KT}(a b:Int)(hk:∀v:Bool,K (.ret (.d (.bool v))) []):Z1 327 [.d (.int .u8 a),.d (.int .u8 b)] [] K:=by
 refine sh0 Tryz.f327 ?_
 repeat' ((conv=>whnf);first|exact zf|refine zm ?_|intro _)
 exact hk _
theorem HN{K:KT}(l:List UInt8)(hl:l.length<=1000)(hk:∀s:List UInt8,s.length<=256->K (.ret (.d (.str s))) []):Z1 297 [.d (.str l)] [] K:=by
 refine sh0 Tryz.f297 ?_
 repeat' ((conv=>whnf);first|exact zf|refine zm ?_|intro _)
 conv=>whnf
 refine bM [(0,.d (.str l))] (λp:Nat×List UInt8=>p.1<=256/\p.2.length<=p.1) (λp=>[(4,.d (.int .i64 p.1)),(3,.d (.str p.2))]) (λ_=>[]) (λp=>256-p.1) (0,[]) ⟨ae _,aM _⟩ ?_ ?_ ?_ (λp hp=>?_)
 .exact zzz
 .exact zzz
 .exact rfl
 obtain⟨v,out⟩:=p;dsimp only at hp⊢
 repeat' ((conv=>whnf);first|exact zf|refine zm ?_|intro _)
 refine aW (λhlt=>?_) (λhge=>?_)
 .have hlt:v<256:=by have:=θ hlt;omega
  repeat' ((conv=>whnf);first|exact zf|refine zm ?_|intro _)
  conv=>whnf
  refine bM [(0,.d (.str l)),(3,.d (.str out)),(4,.d (.int .i64 v)),(5,.d (.int .u8 v))] (λp:Nat×Bool×Bool=>p.1<=l.length) (λp=>[(8,.d (.int .i64 p.1)),(6,.d (.bool p.2.1)),(7,.d (.bool p.2.2))]) (λ_=>[]) (λp=>l.length-p.1) (0,false,true) (ae _) ?_ ?_ ?_ (λq hq=>?_)
  .exact zzz
  .exact zzz
  .exact rfl
  obtain⟨i,th,le⟩:=q;have hq:i<=l.length:=hq;dsimp only
  repeat' ((conv=>whnf);first|exact zf|refine zm ?_|intro _)
  refine aW (λhli=>?_) (λhgi=>?_)
  .have hli:i<l.length:=by have:=θ hli;omega
   have hb:=l[i].toNat_lt;have hli':(i:Int)<(l.length:Int):=by omega
   have hin:=λ{K:KT}=>UE (K:=K) (l[i].toNat:Int) (v:Int);have fin:∀x y:Bool,∃z:Nat×Bool×Bool,z.1<=l.length/\l.length-z.1<l.length-i/\z=(i+1,x,y):=λx y=>⟨(i+1,x,y),hli,by dsimp only;omega,rfl⟩
   have h5:∀{Q:UInt8->Prop},Q l[i]->∃b,(0<=(i:Int)/\l[(i:Int).toNat]?=some b)/\Q b:=λhQ=>⟨l[i],⟨by omega,by simp[hli]⟩,hQ⟩
   cases th<;>cases le
   all_goals
    repeat' ((conv=>whnf);first|exact zf|refine zm ?_|refine(h5 ?_)|refine zi0 ?_|refine(hin (λv=>?_))|refine aW (λhb=>?_) (λhb=>?_)|intro _)
    all_goals exact⟨(i+1,_,_),hli,(by show l.length-(i+1)<l.length-i;omega),zzz,zzz,rfl⟩
  .cases th<;>cases le
   all_goals
    repeat' ((conv=>whnf);first|exact zf|refine zm ?_|refine zi0 ?_|refine⟨[UInt8.ofNat v],by simp[dQ hlt],?_⟩|refine aW (λhb=>?_) (λhb=>?_)|intro _)
    all_goals first
     |exact⟨(v+1,out),⟨hlt,by show out.length<=v+1;omega⟩,(by show 256-(v+1)<256-v;omega),⟨rfl,rfl,rfl,trivial⟩,trivial,rfl⟩
     |exact⟨(v+1,out++[UInt8.ofNat v]),⟨hlt,by show(out++[UInt8.ofNat v]).length<=v+1;rw[aK];show out.length+1<=v+1;omega⟩,(by show 256-(v+1)<256-v;omega),⟨rfl,rfl,rfl,trivial⟩,trivial,rfl⟩
 .skip
  repeat' ((conv=>whnf);first|exact zf|refine zm ?_|intro _)
  exact hk _ (by omega)
theorem CS{K:KT}(l:List UInt8)(hl:l.length<=1000)(hk:∀s:List UInt8,s.length<=256->K (.ret (.d (.str s))) []):Z1 261 [.d (.str l)] [] K:=by
 refine sh0 Tryz.f261 ?_
 repeat' ((conv=>whnf);first|exact zf|refine zm ?_|intro _)
 conv=>whnf
 refine bM [(0,.d (.str l))] (λp:Nat×List UInt8=>p.1<=l.length/\p.2.length<=p.1) (λp=>[(4,.d (.int .i64 p.1)),(3,.d (.str p.2))]) (λ_=>[]) (λp=>l.length-p.1) (0,[]) ⟨ae _,aM _⟩ ?_ ?_ ?_ (λp hp=>?_)
 .exact zzz
 .exact zzz
 .exact rfl
 obtain⟨i,out⟩:=p;dsimp only at hp⊢
 repeat' ((conv=>whnf);first|exact zf|refine zm ?_|intro _)
 refine aW (λhlt=>?_) (λhge=>?_)
 .have hlt:i<l.length:=by have:=θ hlt;omega
  have hb:=l[i].toNat_lt;have h5:∀{Q:UInt8->Prop},Q l[i]->∃b,(0<=(i:Int)/\l[(i:Int).toNat]?=some b)/\Q b:=λhQ=>⟨l[i],⟨by omega,by simp[hlt]⟩,hQ⟩
  repeat' ((conv=>whnf);first|exact zf|refine zm ?_|refine(h5 ?_)|refine zi0 ?_|refine⟨[l[i] &&& 63],κ (λx=>[[D.int .u8 x]]) (xY l[i] 63),?_⟩|intro _)
  exact⟨(i+1,out++[l[i] &&& 63]),⟨hlt,by show(out++[l[i] &&& 63]).length<=i+1;rw[aK];show out.length+1<=i+1;omega⟩,(by show l.length-(i+1)<l.length-i;omega),⟨rfl,rfl,rfl,trivial⟩,trivial,rfl⟩
 .have h1:=λ{K:KT}=>HN (K:=K) out (by omega)
  repeat' ((conv=>whnf);first|exact zf|refine zm ?_|refine(h1 (λs hs=>?_))|intro _)
  exact hk _ hs
theorem L8{K:KT}(L:Lb)(h1:L.s.length<=1000)(h2:L.i.length<=1000)(hk:∀l:Lb,K (.ret (je l)) []):Z1 191 [je L] [] K:=by
 have a1:=λ{K:KT}=>CS (K:=K) L.s h1;have a2:=λ{K:KT}=>CS (K:=K) L.i h2;refine sh0 Tryz.f191 ?_
 repeat' ((conv=>whnf);first|exact zf|refine(dG (dG ?_))|refine zm ?_|refine(a1 (λs hs=>?_))|refine(a2 (λt ht=>?_))|refine And.intro ?_ ?_|intro _)
 all_goals exact hk ⟨s,t⟩
theorem GK{K:KT}(L:Lb)(h1:L.s.length<=1000)(h2:L.i.length<=1000)(hk:∀b:Bool,K (.ret (.d (.bool b))) []):Z1 119 [je L] [] K:=by
 have a1:=λ{K:KT}=>L8 (K:=K) L h1 h2;refine s119.go (keep:=false) rfl ?_
 repeat' ((conv=>whnf);first|exact zf|refine(dG (dG ?_))|refine zm ?_|refine(a1 (λl=>?_))|refine And.intro ?_ ?_|intro _)
 all_goals exact hk _
def ur:List (Nat×List UInt8):=[(0,[48]),(1,[49]),(2,[50]),(10,[49,48])]
theorem El(n:Nat)(d:List UInt8)(h:(n,d)∈ur):Z0 326 [.d (.int .u64 n)] (.d (.str d)):=by
 have hd:n<100/\d=bif decide (9<n)then[UInt8.ofNat (48+n / 10),UInt8.ofNat (48+n % 10)]else[UInt8.ofNat (48+n)]:=by
  simp only[ur,af,bz,cU,or_false]at h;rcases h with⟨rfl,rfl⟩|⟨rfl,rfl⟩|⟨rfl,rfl⟩|⟨rfl,rfl⟩<;>decide
 obtain⟨hn,rfl⟩:=hd;refine sh0 Tryz.f326 ?_
 repeat' ((conv=>whnf);first|exact zf|refine zm ?_|intro _)
 conv=>whnf
 refine bM [] (λp:Nat×List UInt8=>(p.1<=n/\p.2=[]/\p.1=n)\/(9<n/\p.1=n / 10/\p.2=[UInt8.ofNat (48+n % 10)])) (λp=>[(0,.d (.int .u64 p.1)),(3,.d (.str p.2))]) (λ_=>[]) (λp=>p.1) (n,[]) (.inl ⟨aM _,rfl,rfl⟩) ?_ ?_ ?_ (λp hp=>?_)
 .exact zzz
 .exact zzz
 .exact rfl
 obtain⟨u,s⟩:=p;dsimp only at hp⊢
 repeat' ((conv=>whnf);first|exact zf|refine zm ?_|intro _)
 refine aW (λhlt=>?_) (λhge=>?_)
 .have hlt:9<u:=by have:=θ hlt;omega
  have hu:u=n/\s=[]:=by
   rcases hp with h|h
   .exact⟨h.2.2,h.2.1⟩
   .omega
  obtain⟨rfl,rfl⟩:=hu;have m1:(u:Int).tmod 10=((u % 10:Nat):Int):=by rw[aw (by omega)];omega
  have m2:(u:Int).tdiv 10=((u / 10:Nat):Int):=by rw[Int.tdiv_eq_ediv_of_nonneg (by omega)];omega
  have hw:(48+(u % 10)) % 256=48+u % 10:=by omega
  repeat' ((conv=>whnf);first|exact zf|refine zm ?_|refine zi0 ?_|refine⟨[UInt8.ofNat (48+u % 10)],by simp only[m1];simp[hw],?_⟩|intro _)
  exact⟨(u / 10,[UInt8.ofNat (48+u % 10)]),.inr ⟨hlt,rfl,rfl⟩,(by show u / 10<u;omega),⟨fN (by show V.d (.int .u64 ((u:Int).tdiv 10))=_;rw[m2]),rfl,trivial⟩,trivial,rfl⟩
 .have hge:u<=9:=by have:=ι hge;omega
  have hw:(48+u) % 256=48+u:=by omega
  rcases hp with h|h
  .obtain⟨_,rfl,rfl⟩:=h;rw[show decide (9<u)=false by simp;omega]
   repeat' ((conv=>whnf);first|exact zf|refine zm ?_|refine zi0 ?_|refine⟨[UInt8.ofNat (48+u)],by simp[hw],?_⟩|intro _)
  .obtain⟨h9,rfl,rfl⟩:=h;rw[show decide (9<n)=true by simp;omega]
   repeat' ((conv=>whnf);first|exact zf|refine zm ?_|refine zi0 ?_|refine⟨[UInt8.ofNat (48+n / 10)],by simp[hw],?_⟩|intro _)
theorem Ki(n:Nat)(d:List UInt8)(h:(n,d)∈ur):Z0 296 [.d (.int .i64 n)] (.d (.str d)):=by
 have h1:=El n d h;have hn:n<100:=by
  simp only[ur,af,bz,cU,or_false]at h;rcases h with⟨rfl,rfl⟩|⟨rfl,rfl⟩|⟨rfl,rfl⟩|⟨rfl,rfl⟩<;>decide
 refine sh0 Tryz.f296 ?_
 exact zk1 h1
def LR(n:Nat)(d:List UInt8)(i:Nat):Int:=bif Nat.beq i 0 then 0 else bif Nat.beq i d.length then n else n / 10
theorem G8(n:Nat)(d:List UInt8)(h:(n,d)∈ur):Z0 260 [.d (.str d)] (.tu [.d (.int .i64 n),.d (.bool true)]):=by
 have h1:=Ki n d h;simp only[ur,af,bz,cU,or_false]at h;rcases h with⟨rfl,rfl⟩|⟨rfl,rfl⟩|⟨rfl,rfl⟩|⟨rfl,rfl⟩
 all_goals
  refine sh0 Tryz.f260 ?_
  repeat' ((conv=>whnf);first|exact zf|refine zm ?_|refine zt ?_|refine zu ?_|intro _)
  conv=>whnf
 .skip
  refine bM [(0,.d (.str [48]))] (λi:Nat=>i<=1) (λi=>[(5,.d (.int .i64 i)),(4,.d (.int .u64 (LR 0 [48] i)))]) (λ_=>[]) (λi=>1-i) 0 (ae _) ?_ ?_ ?_ (λi hi=>?_)
  .exact zzz
  .exact zzz
  .exact rfl
  match i,hi with
  |0,_=>
   repeat' ((conv=>whnf);first|exact zf|refine zm ?_|refine(gM (by decide) ?_)|refine(gG (by decide) ?_)|refine⟨_,⟨by decide,rfl⟩,?_⟩|refine zi0 ?_|intro _)
   exact⟨1,by decide,by decide,zzz,zzz,rfl⟩
  |1,_=>
   repeat' ((conv=>whnf);first|exact zf|refine zm ?_|refine(gM (by decide) ?_)|refine(gG (by decide) ?_)|refine⟨_,⟨by decide,rfl⟩,?_⟩|refine zi0 ?_|refine zc h1 ?_|intro _)
 .skip
  refine bM [(0,.d (.str [49]))] (λi:Nat=>i<=1) (λi=>[(5,.d (.int .i64 i)),(4,.d (.int .u64 (LR 1 [49] i)))]) (λ_=>[]) (λi=>1-i) 0 (ae _) ?_ ?_ ?_ (λi hi=>?_)
  .exact zzz
  .exact zzz
  .exact rfl
  match i,hi with
  |0,_=>
   repeat' ((conv=>whnf);first|exact zf|refine zm ?_|refine(gM (by decide) ?_)|refine(gG (by decide) ?_)|refine⟨_,⟨by decide,rfl⟩,?_⟩|refine zi0 ?_|intro _)
   exact⟨1,by decide,by decide,zzz,zzz,rfl⟩
  |1,_=>
   repeat' ((conv=>whnf);first|exact zf|refine zm ?_|refine(gM (by decide) ?_)|refine(gG (by decide) ?_)|refine⟨_,⟨by decide,rfl⟩,?_⟩|refine zi0 ?_|refine zc h1 ?_|intro _)
 .skip
  refine bM [(0,.d (.str [50]))] (λi:Nat=>i<=1) (λi=>[(5,.d (.int .i64 i)),(4,.d (.int .u64 (LR 2 [50] i)))]) (λ_=>[]) (λi=>1-i) 0 (ae _) ?_ ?_ ?_ (λi hi=>?_)
  .exact zzz
  .exact zzz
  .exact rfl
  match i,hi with
  |0,_=>
   repeat' ((conv=>whnf);first|exact zf|refine zm ?_|refine(gM (by decide) ?_)|refine(gG (by decide) ?_)|refine⟨_,⟨by decide,rfl⟩,?_⟩|refine zi0 ?_|intro _)
   exact⟨1,by decide,by decide,zzz,zzz,rfl⟩
  |1,_=>
   repeat' ((conv=>whnf);first|exact zf|refine zm ?_|refine(gM (by decide) ?_)|refine(gG (by decide) ?_)|refine⟨_,⟨by decide,rfl⟩,?_⟩|refine zi0 ?_|refine zc h1 ?_|intro _)
 .skip
  refine bM [(0,.d (.str [49,48]))] (λi:Nat=>i<=2) (λi=>[(5,.d (.int .i64 i)),(4,.d (.int .u64 (LR 10 [49,48] i)))]) (λ_=>[]) (λi=>2-i) 0 (ae _) ?_ ?_ ?_ (λi hi=>?_)
  .exact zzz
  .exact zzz
  .exact rfl
  match i,hi with
  |0,_=>
   repeat' ((conv=>whnf);first|exact zf|refine zm ?_|refine(gM (by decide) ?_)|refine(gG (by decide) ?_)|refine⟨_,⟨by decide,rfl⟩,?_⟩|refine zi0 ?_|intro _)
   exact⟨1,by decide,by decide,zzz,zzz,rfl⟩
  |1,_=>
   repeat' ((conv=>whnf);first|exact zf|refine zm ?_|refine(gM (by decide) ?_)|refine(gG (by decide) ?_)|refine⟨_,⟨by decide,rfl⟩,?_⟩|refine zi0 ?_|intro _)
   exact⟨2,by decide,by decide,zzz,zzz,rfl⟩
  |2,_=>
   repeat' ((conv=>whnf);first|exact zf|refine zm ?_|refine(gM (by decide) ?_)|refine(gG (by decide) ?_)|refine⟨_,⟨by decide,rfl⟩,?_⟩|refine zi0 ?_|refine zc h1 ?_|intro _)
def mD(s:List UInt8):Nat->Nat×List (List UInt8)
 |0=>(0,[])
 |i+1=>bif Nat.beq i s.length||s[i]? == some 46 then(i+1,(mD s i).2++[(s.take i).drop (mD s i).1])else mD s i
theorem Cy(s:List UInt8):∀i,(mD s i).1<=i/\(mD s i).2.length<=i
 |0=>⟨aM _,aM _⟩
 |i+1=>by
  have:=Cy s i;unfold mD;cases Nat.beq i s.length||s[i]? == some 46
  .exact⟨by rw[ε];omega,by rw[ε];omega⟩
  .rw[δ];exact⟨aM _,by rw[aK];show _+1<=_;omega⟩
def x_(l:List (List UInt8)):List (List D):=l.map λx=>[.str x]
theorem RG(s:List UInt8)(hs:s.length<=1000):Z0 259 [.d (.str s)] (.d (.sl 1 (x_ (mD s (s.length+1)).2))):=by
 refine sh0 Tryz.f259 ?_
 repeat' ((conv=>whnf);first|exact zf|refine zm ?_|intro _)
 conv=>whnf
 refine bM [(0,.d (.str s)),(3,.os 1)] (λi:Nat=>i<=s.length+1) (λi=>[(5,.d (.int .i64 i)),(4,.d (.int .i64 (mD s i).1))]) (λi=>[.no,.rows 1 (x_ (mD s i).2)]) (λi=>s.length+1-i) 0 (ae _) ?_ ?_ ?_ (λi hi=>?_)
 .exact zzz
 .exact⟨aU rfl,trivial⟩
 .exact zx0
 obtain⟨c1,c2⟩:=Cy s i;have hsu:mD s (i+1)=bif Nat.beq i s.length||s[i]? == some 46 then(i+1,(mD s i).2++[(s.take i).drop (mD s i).1])else mD s i:=rfl
 have hlr:(x_ (mD s i).2).length=(mD s i).2.length:=aH _
 repeat' ((conv=>whnf);first|exact zf|refine zm ?_|intro _)
 refine aW (λhlt=>?_) (λhge=>?_)
 .have hlt:i<=s.length:=by have:=θ hlt;omega
  by_cases he:i=s.length
  .rw[show Nat.beq i s.length=true by rw[he];exact fV _,Bool.true_or,δ]at hsu
   repeat' ((conv=>whnf);first|exact zf|refine zm ?_|refine zi0 ?_|refine zt ?_|refine zu ?_|intro _)
   exact⟨i+1,by omega,by omega,⟨rfl,fN (by rw[hsu];rfl),rfl,rfl,trivial⟩,⟨aU (by rw[hsu];exact(κ (B.rows 1) (bZ (l₂ :=[(s.take i).drop (mD s i).1]))).symm),trivial⟩,rfl⟩
  .have hlt:i<s.length:=by omega
   have h5:∀{Q:UInt8->Prop},Q s[i]->∃b,(0<=(i:Int)/\s[(i:Int).toNat]?=some b)/\Q b:=λhQ=>⟨s[i],⟨by omega,by simp[hlt]⟩,hQ⟩
   rw[show Nat.beq i s.length=false from(by cases h:Nat.beq i s.length with|true=>exact absurd (eH h) he|false=>rfl),Bool.false_or,aA hlt]at hsu;have hb:((some s[i]==some (46:UInt8))=decide ((s[i].toNat:Int)=46)):=by
    rw[Bool.eq_iff_iff];simp only[ξ,χ,aE];constructor
    .intro h;rw[h];rfl
    .intro h;exact UInt8.toNat.inj (by rw[show UInt8.toNat 46=46 from rfl];omega)
   rw[hb]at hsu
   by_cases h46:(s[i].toNat:Int)=46
   .rw[φ h46,δ]at hsu
    repeat' ((conv=>whnf);first|exact zf|refine zm ?_|refine(h5 ?_)|refine zi0 ?_|refine zt ?_|refine zu ?_|intro _)
    exact⟨i+1,by omega,by omega,⟨rfl,fN (by rw[hsu];rfl),rfl,rfl,trivial⟩,⟨aU (by rw[hsu];exact(κ (B.rows 1) (bZ (l₂ :=[(s.take i).drop (mD s i).1]))).symm),trivial⟩,rfl⟩
   .rw[τ h46,ε]at hsu
    repeat' ((conv=>whnf);first|exact zf|refine zm ?_|refine(h5 ?_)|refine zi0 ?_|refine zt ?_|refine zu ?_|intro _)
    exact⟨i+1,by omega,by omega,⟨rfl,fN (by rw[hsu];rfl),rfl,rfl,trivial⟩,⟨aU (by rw[hsu]),trivial⟩,rfl⟩
 .have hge:i=s.length+1:=by have:=ι hge;omega
  subst hge
  exact zj0
def j5(l:List Nat):List (List D):=l.map λ(n:Nat)=>[.int .i64 (n:Int)]
theorem G7(s:List UInt8)(ps:List (Nat×List UInt8))(hs:s.length<=1000)(h:(mD s (s.length+1)).2=ps.map (·.2))(hp:∀p∈ps,p∈ur)(hl:ps.length<=24) :
  Z0 190 [.d (.str s)] (.d (.sl 1 (j5 (ps.map (·.1))))):=by
 have h1:=RG s hs;rw[h]at h1;have hlr:(x_ (ps.map (·.2))).length=ps.length:=by unfold x_;rw[aH,aH]
 refine sh0 Tryz.f190 ?_
 repeat' ((conv=>whnf);first|exact zf|refine zm ?_|refine zc h1 ?_|intro _)
 conv=>whnf
 refine bM [(4,.d (.sl 1 (x_ (ps.map (·.2))))),(3,.os 1)] (λi:Nat=>i<=ps.length) (λi=>[(5,.d (.int .i64 i))]) (λi=>[.no,.rows 1 (j5 ((ps.take i).map (·.1)))]) (λi=>ps.length-i) 0 (ae _) ?_ ?_ ?_ (λi hi=>?_)
 .exact zzz
 .exact⟨aU (by simp[j5]),trivial⟩
 .exact zx0
 have hlq:(j5 ((ps.take i).map (·.1))).length<=24:=by unfold j5;rw[aH,aH,bC];omega
 repeat' ((conv=>whnf);first|exact zf|refine zm ?_|intro _)
 refine aW (λhlt=>?_) (λhge=>?_)
 .have hlt:i<ps.length:=by have:=θ hlt;omega
  have hm:ps[i]∈ur:=hp _ (cP hlt);have h2:=G8 ps[i].1 ps[i].2 hm;have hn:ps[i].1<100:=by
   have:∀q∈ur,q.1<100:=by decide
   exact this _ hm
  have hr:(x_ (ps.map (·.2)))[(i:Int).toNat]?=some [.str ps[i].2]:=by
   unfold x_;rw[show(i:Int).toNat=i by omega,aB,aB,aA hlt];rfl
  have htk:ps.take (i+1)=ps.take i++[ps[i]]:=by rw[bc,aA hlt];rfl
  repeat' ((conv=>whnf);first|exact zf|refine zm ?_|refine⟨_,⟨by omega,hr,rfl⟩,?_⟩|refine zc h2 ?_|refine zi0 ?_|refine zt ?_|refine zu ?_|intro _)
  exact⟨i+1,by omega,by omega,zzz,⟨aU (by rw[htk];unfold j5;rw[bZ,bZ];rfl),trivial⟩,rfl⟩
 .have hge:i=ps.length:=by have:=ι hge;omega
  subst hge
  repeat' ((conv=>whnf);first|exact zf|refine zm ?_|intro _)
  rw[cO];rfl
theorem GL(s:List UInt8)(ps:List Nat)(hp:Z0 190 [.d (.str s)] (.d (.sl 1 (j5 ps))))(h0:0<ps.length):Z0 118 [.d (.str s)] (.d (.bool true)):=by
 have hl:(j5 ps).length=ps.length:=aH _;refine sh0 Tryz.f118 ?_
 repeat' ((conv=>whnf);first|exact zf|refine zm ?_|refine zc hp ?_|intro _)
 rw[show decide (((j5 ps).length:Int)>0)=true by simp;omega];rfl
theorem Gc{K:KT}(a b:List UInt8)(x y:List Nat)(hx:Z0 190 [.d (.str a)] (.d (.sl 1 (j5 x))))(hy:Z0 190 [.d (.str b)] (.d (.sl 1 (j5 y))))(x0:0<x.length)(y0:0<y.length)(x1:x.length<100)(y1:y.length<100)
  (hk:∀r:Int,K (.ret (.d (.int .i64 r))) []):Z1 121 [.d (.str a),.d (.str b)] [] K:=by
 have lix:(j5 x).length=x.length:=aH _;have liy:(j5 y).length=y.length:=aH _;have gx:∀i,i<x.length->(j5 x)[(i:Int).toNat]?=some [.int .i64 x[i]!]:=λi hi=>by
  unfold j5;rw[show(i:Int).toNat=i by omega,aB,aA hi];simp[hi]
 have gy:∀i,i<y.length->(j5 y)[(i:Int).toNat]?=some [.int .i64 y[i]!]:=λi hi=>by
  unfold j5;rw[show(i:Int).toNat=i by omega,aB,aA hi];simp[hi]
 refine sh0 Tryz.f121 ?_
 repeat' ((conv=>whnf);first|exact zf|refine zm ?_|refine zc hx ?_|refine zc hy ?_|refine zt ?_|refine zu ?_|intro _)
 conv=>whnf
 refine bM [(5,.d (.sl 1 (j5 x))),(6,.d (.sl 1 (j5 y)))] (λi:Nat=>i<=x.length) (λi=>[(7,.d (.int .i64 i))]) (λ_=>[]) (λi=>x.length-i) 0 (ae _) ?_ ?_ ?_ (λi hi=>?_)
 .exact zzz
 .exact zzz
 .exact rfl
 by_cases hlx:i<x.length
 .have tx:decide ((i:Int)<((j5 x).length:Int))=true:=by simp;omega
  have qx:=gx i hlx
  by_cases hly:i<y.length
  .have ty:decide ((i:Int)<((j5 y).length:Int))=true:=by simp;omega
   have qy:=gy i hly
   repeat' ((conv=>whnf);first|exact zf|refine zm ?_|refine(gM tx ?_)|refine(gM ty ?_)|refine⟨_,⟨by omega,qx,rfl⟩,?_⟩|refine⟨_,⟨by omega,qy,rfl⟩,?_⟩|refine zi0 ?_|refine aW (λhb=>?_) (λhb=>?_)|intro _)
   all_goals first
    |exact hk _
    |exact⟨i+1,by omega,by omega,zzz,zzz,rfl⟩
  .have ty:decide ((i:Int)<((j5 y).length:Int))=false:=by simp;omega
   repeat' ((conv=>whnf);first|exact zf|refine zm ?_|refine(gM tx ?_)|refine(gG ty ?_)|refine zi0 ?_|refine aW (λhb=>?_) (λhb=>?_)|intro _)
   exact hk _
 .have tx:decide ((i:Int)<((j5 x).length:Int))=false:=by simp;omega
  repeat' ((conv=>whnf);first|exact zf|refine zm ?_|refine(gG tx ?_)|refine zi0 ?_|refine aW (λhb=>?_) (λhb=>?_)|intro _)
  exact hk _
def numsOf:List (List (Nat×List UInt8)):=[[(0,[48])],[(1,[49])],[(0,[48]),(0,[48])],[(0,[48]),(1,[49])],[(2,[50])],[(10,[49,48])],[(1,[49]),(0,[48])],[(0,[48]),(0,[48]),(0,[48])]]
theorem rA:∀s∈iI,∃x:List Nat,Z0 190 [.d (.str s)] (.d (.sl 1 (j5 x)))/\0<x.length/\x.length<100:=by
 have key:∀s∈iI,∃ps∈numsOf,s.length<=1000/\(mD s (s.length+1)).2=ps.map (·.2)/\(∀p∈ps,p∈ur)/\ps.length<=24/\0<ps.length:=by decide
 intro s hs;obtain⟨ps,_,h1,h2,h3,h4,h5⟩:=key s hs;exact⟨_,G7 s ps h1 h2 h3 h4,by rw[aH];exact h5,by rw[aH];omega⟩
def mj(p:List UInt8×Ob):List D:=.str p.1::fD p.2
def Tc(l:List (List UInt8×Ob)):Prop:=∀p∈l,p.1∈iI
def NX(l:List (List UInt8×Ob)):H:=[.cells [.d (.sl 20 (l.map mj))]]
theorem MT{K:KT}(l:List (List UInt8×Ob))(s:List UInt8)(hl:l.length<=1000)(hk:∀r:Int,K (.ret (.d (.int .i64 r))) (NX l)):Z1 120 [.p 0 0,.d (.str s)] (NX l) K:=by
 have hm:(l.map mj).length=l.length:=aH _;refine sh0 Tryz.f120 ?_
 repeat' ((conv=>whnf);first|exact zf|refine zm ?_|refine zt ?_|refine zu ?_|intro _)
 conv=>whnf
 refine bM [(0,.p 0 0),(1,.d (.str s))] (λi:Nat=>i<=l.length) (λi=>[(5,.d (.int .i64 i))]) (λ_=>NX l) (λi=>l.length-i) 0 (ae _) ?_ ?_ ?_ (λi hi=>?_)
 .exact zzz
 .exact zzz
 .exact rfl
 repeat' ((conv=>whnf);first|exact zf|refine zm ?_|intro _)
 refine aW (λhlt=>?_) (λhge=>?_)
 .have hlt:i<l.length:=by have:=θ hlt;omega
  have hg:(l.map mj)[(i:Int).toNat]?=some (.str l[i].1::fD l[i].2):=by rw[show(i:Int).toNat=i by omega,aB,aA hlt];rfl
  repeat' ((conv=>whnf);first|exact zf|refine zm ?_|refine⟨_,⟨by omega,hg,rfl⟩,?_⟩|refine zi0 ?_|refine aW (λhb=>?_) (λhb=>?_)|intro _)
  all_goals first
   |exact hk _
   |exact⟨i+1,by omega,by omega,zzz,zzz,rfl⟩
 .skip
  repeat' ((conv=>whnf);first|exact zf|refine zm ?_|refine zi0 ?_|refine aW (λhb=>?_) (λhb=>?_)|intro _)
  exact hk _
theorem Rb{K:KT}(l:List (List UInt8×Ob))(s:List UInt8)(o:Ob)(hr:Tc l)(hs:s∈iI)(h1:o.l.s.length<=1000)(h2:o.l.i.length<=1000)
  (hn:l.length<=500) (hk:∀e:Int,K (.ret (.d (.int .i64 e))) (NX l)) (hkB:∀l',Tc l'->l'.length<=l.length+1->K (.ret (.d (.int .i64 0))) [.cells [.os 1],.rows 20 (l'.map mj)]):Z1 78 [.p 0 0,.d (.str s),gJ o] (NX l) K:=by
 obtain⟨x,hx,x0,x1⟩:=rA s hs;have hm:(l.map mj).length=l.length:=aH _;have h118:=GL s x hx x0;have h119:=λ{K:KT}=>GK (K:=K) o.l h1 h2;have h120:=λ{K:KT}=>MT (K:=K) l s (by omega);have hB:∀i:Nat,K (.ret (.d (.int .i64 0))) [.cells [.os 1],.rows 20 (List.drop (Int.toNat 0) (List.take (i:Int).toNat (l.map mj))++[.str s::fD o]++List.drop (i:Int).toNat (l.map mj))]:=λi=>by
  have h1:=hkB (l.take i++(s,o)::l.drop i) (λp hp=>by
   rcases aR.1 hp with h|h
   .exact hr p (dq h)
   .rcases af.1 h with h|h
    .rw[h];exact hs
    .exact hr p (dJ h)) (by rw[aK,aX,bC,eJ];omega)
  have e:(l.take i++(s,o)::l.drop i).map mj=List.drop (Int.toNat 0) (List.take (i:Int).toNat (l.map mj))++[.str s::fD o]++List.drop (i:Int).toNat (l.map mj):=by
   rw[show(i:Int).toNat=i by omega,bZ,cG,e_,pH,bN];rfl
  rw[e]at h1;exact h1
 by_cases k3:o.k<3
 .have t3:decide (o.k<3)=true:=by simp[k3]
  refine sh0 Tryz.f78 ?_
  repeat' ((conv=>whnf);first|exact zf|refine zm ?_|refine zc h118 ?_|refine(gM t3 ?_)|refine zr0 ?_|intro _)
  exact hk _
 .have t3:decide (o.k<3)=false:=by simp;omega
  by_cases k7:7<o.k
  .have t7:decide (o.k>7)=true:=by simp[k7]
   refine sh0 Tryz.f78 ?_
   repeat' ((conv=>whnf);first|exact zf|refine zm ?_|refine zc h118 ?_|refine(gG t3 ?_)|refine(gM t7 ?_)|refine zr0 ?_|intro _)
   exact hk _
  .have t7:decide (o.k>7)=false:=by simp;omega
   refine sh0 Tryz.f78 ?_
   repeat' ((conv=>whnf);first|exact zf|refine zm ?_|refine zc h118 ?_|refine(gG t3 ?_)|refine(gG t7 ?_)|refine(h119 (λb=>?_))|intro _)
   cases b with
   |false=>
    repeat' ((conv=>whnf);first|exact zf|refine zm ?_|intro _)
    exact hk _
   |true=>
    repeat' ((conv=>whnf);first|exact zf|refine zm ?_|refine zr0 ?_|refine(h120 (λr=>?_))|intro _)
    refine aW (λhlt=>?_) (λhge=>?_)
    .skip
     repeat' ((conv=>whnf);first|exact zf|refine zm ?_|intro _)
     exact hk _
    .skip
     repeat' ((conv=>whnf);first|exact zf|refine zm ?_|intro _)
     conv=>whnf
     refine bM [(0,.p 0 0),(1,.d (.str s)),(5,.p 1 0)] (λi:Nat=>i<=l.length) (λi=>[(7,.d (.int .i64 i))]) (λ_=>[.cells [.d (.sl 20 (l.map mj))],.cells ((fD o).map .d)]) (λi=>l.length-i) 0 (ae _) ?_ ?_ ?_ (λi hi=>?_)
     .exact zzz
     .exact zzz
     .exact rfl
     by_cases hlt:i<l.length
     .have tx:decide ((i:Int)<((l.map mj).length:Int))=true:=by simp;omega
      have hg:(l.map mj)[(i:Int).toNat]?=some (.str l[i].1::fD l[i].2):=by rw[show(i:Int).toNat=i by omega,aB,aA hlt];rfl
      obtain⟨y,hy,y0,y1⟩:=rA l[i].1 (hr _ (cP hlt));have h121:=λ{K:KT}=>Gc (K:=K) l[i].1 s y x hy hx y0 x0 y1 x1
      repeat' ((conv=>whnf);first|exact zf|refine zm ?_|refine(gM tx ?_)|refine⟨_,⟨by omega,hg,rfl⟩,?_⟩|refine(h121 (λr=>?_))|intro _)
      refine aW (λhlt=>?_) (λhge=>?_)
      .skip
       repeat' ((conv=>whnf);first|exact zf|refine zm ?_|refine zi0 ?_|intro _)
       exact⟨i+1,by omega,by omega,zzz,zzz,rfl⟩
      .skip
       repeat' ((conv=>whnf);first|exact zf|refine(dG (dG ?_))|refine zm ?_|refine And.intro ?_ ?_|intro _)
       all_goals exact hB i
     .have tx:decide ((i:Int)<((l.map mj).length:Int))=false:=by simp;omega
      repeat' ((conv=>whnf);first|exact zf|refine(dG (dG ?_))|refine zm ?_|refine(gG tx ?_)|refine And.intro ?_ ?_|intro _)
      all_goals exact hB i
theorem Dl{P:Program}{f:Nat}{vs:List V}{h:H}{K:KT}(hs:uz P f vs h λo h'=>K o h'\/∃id z rs x,h'[id]?=some (.rows z rs)/\o=.ret (.d x)/\K o (oI id (.d (.sl z rs)) h')):uz P f vs h K:=by
 refine⟨hs.1,λG w ρ vs0 h1 h2 h3=>(hs.2 G w ρ vs0 h1 h2 h3).mono λe w' ⟨G',ρ',h',out,hO,hrep,hk⟩=>?_⟩;rcases hk with hk|⟨id,z,rs,x,hid,rfl,hk⟩
 .exact⟨G',ρ',h',out,hO,hrep,hk⟩
 .have hi:id<ρ'.length:=by rw[hO.hr.len];exact(aC.1 hid).1
  obtain⟨v,e1,hv⟩:=hrep;exact⟨_,ρ',oI id (.d (.sl z rs)) h',.ret (.d x),hO.free (aA hi) hid,⟨v,e1,hv.mono (λ_ h=>.inl h) (λ_ _=>rfl) (λ_ _=>rfl)⟩,hk⟩
theorem U6{K:KT}(l:List (List UInt8×Ob))(s:List UInt8)(o:Ob)(hr:Tc l)(hs:s∈iI)(h1:o.l.s.length<=1000)(h2:o.l.i.length<=1000)
  (hn:l.length<=500) (hk:∀e:Int,K (.ret (.d (.int .i64 e))) (NX l)) (hk2:∀l',Tc l'->l'.length<=l.length+1->K (.ret (.d (.int .i64 0))) [.cells [.d (.sl 20 (l'.map mj))],.no]):Z1 78 [.p 0 0,.d (.str s),gJ o] (NX l) K:=
 .inl (Dl ((Rb (K:=λo h'=>K o h'\/∃id z rs x,h'[id]?=some (.rows z rs)/\o=.ret (.d x)/\K o (oI id (.d (.sl z rs)) h')) l s o hr hs h1 h2 hn (λe=>.inl (hk e)) λl' a b=>.inr ⟨1,20,l'.map mj,_,rfl,rfl,hk2 l' a b⟩).fn (by decide)))
theorem Mi(l:List (List D))(hl:l.length<100000000):Z0 85 [.d (.sl 7 l)] (.d (.sl 7 l)):=by
 refine sh0 Tryz.f85 ?_;cases l with
 |nil=>
  repeat' ((conv=>whnf);first|exact zf|refine zm ?_|refine And.intro ?_ ?_|intro _)
 |cons r l=>
  exact zj0
theorem uH(o:Ob)(hl:o.va.q.length<100000000):Z0 45 [gJ o] (gJ o):=by
 have h1:=Mi (o.va.q.map eL) (by rw[aH];exact hl);refine sh0 Tryz.f45 ?_
 exact zj1 h1
def jV(l:List (List UInt8×Ob)):List (D×Bool×List D):=l.map λp=>(.str p.1,true,fD p.2)
def bW(key:List UInt8):List (List UInt8×Ob)->Option (Nat×Ob)
 |[]=>none
 |p::r=>if key=p.1 then some (0,p.2)else(bW key r).map λx=>(x.1+1,x.2)
theorem q7(key:List UInt8):∀(l:List (List UInt8×Ob))(i:Nat),qI [2] [.d (.str key)] (fz (jV l)) i=some ((bW key l).map λx=>(x.1+i,gJ x.2))
 |[],i=>rfl
 |p::r,i=>by
  have ih:=q7 key r (i+1);show(bif true then(match some ((key==p.1)&&true) with
   |some b=>bif b then some (some (i,gJ p.2))else qI [2] [.d (.str key)] (fz (jV r)) (i+1)
   |none=>none)else none)=_
  rw[bW]
  by_cases h:key=p.1
  .rw[ζ h,h];simp
  .rw[η h,ih];have:(key==p.1)=false:=by simpa using h
   rw[this];simp only[δ,ε,nU,Option.map_map];congr 1;congr 1
   funext x
   simp only[mN];rw[show x.1+1+i=x.1+(i+1)by omega]
abbrev kA:=List (Lb×Option Nat×List (List Nat))
def kM(l:kA):List ME:=l.map λp=>((p.1.s,p.1.i),some (p.2.1,cW (p.2.2.map bm)))
structure b7 where
  th:List (List UInt8×Ob)
  nm:kA
def jW(s:b7):H:=[.cells [.mp 1,.mp 2],.dm (jV s.th),.ms 1 (kM s.nm) none none]
theorem Ng{K:KT}(hk:K (.ret (.p 0 0)) (jW ⟨[],[]⟩)):Z1 18 [] [] K:=by
 exact s18.go (keep:=false) rfl (zh0 hk)
def gk(s:b7)(key:List UInt8):Ob:=((bW key s.th).map (·.2)).getD fK
def gu(s:b7)(key:List UInt8):Bool:=(bW key s.th).isSome
theorem pj{K:KT}(s:b7)(key:List UInt8)(hq:(gk s key).va.q.length<100000000)(hk:K (.ret (.tu [gJ (gk s key),.d (.bool (gu s key))])) (jW s)):Z1 16 [.p 0 0,.d (.str key)] (jW s) K:=by
 have hc:=uH (gk s key) hq;have hf:=q7 key s.th 0;unfold gk gu at *;cases h:bW key s.th with
 |none=>
  rw[h]at hk hc hf;refine sh0 Tryz.f16 ?_
  repeat' ((conv=>whnf);first|exact zf|refine zm ?_|intro _)
  refine⟨_,hf,?_⟩
  exact zh1 hk hc
 |some p=>
  rw[h]at hk hc hf;refine sh0 Tryz.f16 ?_
  repeat' ((conv=>whnf);first|exact zf|refine zm ?_|intro _)
  refine⟨_,hf,?_⟩
  exact zh1 hk hc
theorem Kh(l:List (List UInt8×Ob))(i:Nat)(key:List UInt8)(o:Ob):(jV l).set i (.str key,true,fD o)=jV (l.set i (key,o)):=by
 simp[jV]
def jk(s:b7)(i:Nat)(key:List UInt8)(o:Ob):b7:={s with th:=s.th.set i (key,o)}
theorem l9{K:KT}(s:b7)(key:List UInt8)(i:Nat)(o gF:Ob)(hf:bW key s.th=some (i,gF))(h1:gF.k=o.k)(h2:gF.l=o.l)(hq:o.va.q.length<100000000)(hk:K (.ret (.d (.int .i64 0))) (jW (jk s i key o))) :
  Z1 111 [.p 0 0,.d (.str key),gJ o] (jW s) K:=by
 have hc:=uH o hq;have hm:=q7 key s.th 0;rw[hf]at hm;unfold jk jW at hk;simp only[<-Kh]at hk;have e1:(gF.k != o.k)=false:=by simp[h1]
 have e2:(gF.l.s==o.l.s&&(gF.l.i==o.l.i&&true))=true:=by simp[h2]
 refine s111.go (keep:=false) rfl ?_
 repeat' ((conv=>whnf);first|exact zf|refine zm ?_|intro _)
 refine⟨_,hm,?_⟩
 repeat' ((conv=>whnf);first|exact zf|refine zm ?_|refine zc hc ?_|refine zt ?_|refine zu ?_|intro _)
 refine⟨_,hm,?_⟩
 repeat' ((conv=>whnf);first|exact zf|refine zm ?_|refine zt ?_|refine zu ?_|intro _)
 exact hk
def Ut(l:List (List Nat))(key:List Nat)(i:Nat):Bool:=match l[i]? with
 |some x=>decide (cmpL x key<0)
 |none=>false
def xV(l:List (List Nat))(key:List Nat):Nat->Nat->Nat->Nat
 |0,i,_=>i
 |f+1,i,j=>bif decide (i<j)then(bif Ut l key ((i+j) / 2)then xV l key f ((i+j) / 2+1) j else xV l key f i ((i+j) / 2))else i
def ee(l:List Nat):Prop:=l≠[]/\l.length<=24/\∀n∈l,n<100
theorem Fu(a:Nat):AS .shr .u64 (a:Int) 1=((a / 2:Nat):Int):=by
 show(a:Int).fdiv (2 ^ min (1:Int).toNat IntKind.u64.bits)=_;rw[show min (1:Int).toNat IntKind.u64.bits=1 by decide,show(2:Int) ^ 1=2 by decide,Int.fdiv_eq_ediv_of_nonneg _ (by omega)];omega
def rZ(l:List (List Nat))(key:List Nat):Nat:=xV l key l.length 0 l.length
def U0(l:List (List Nat))(key:List Nat):Bool:=match l[rZ l key]? with
 |some x=>cmpL x key==0
 |none=>false
theorem xU(l:List (List Nat))(key:List Nat):∀f i j,i<=j->j<=l.length->xV l key f i j<=l.length
 |0,i,j,h1,h2=>by rw[xV];omega
 |f+1,i,j,h1,h2=>by
  rw[xV];cases hd:decide (i<j) with
  |false=>rw[ε];omega
  |true=>
   have hd:=θ hd;rw[δ];cases Ut l key ((i+j) / 2)
   .exact xU l key f i _ (by omega) (by omega)
   .exact xU l key f _ j (by omega) h2
theorem zN(l:List (List Nat))(key:List Nat)(hl:∀x∈l,ee x)(hk:ee key)(hn:l.length<1000000000) :
  Z0 46 [.d (.sl 1 (cW (l.map bm))),.d (.str (bm key)),.d (.fn 47)] (.tu [.d (.int .i64 (rZ l key)),.d (.bool (U0 l key))]):=by
 have e1:(cW (l.map bm)).length=l.length:=by rw[gr,aH]
 have hrow:∀(i:Nat)(x:List Nat),l[i]?=some x->(cW (l.map bm))[i]?=some [D.str (bm x)]:=λi x h=>by simp[cW,h]
 refine sh0 Tryz.f46 ?_
 repeat' ((conv=>whnf);first|exact zf|refine zm ?_|intro _)
 conv=>whnf
 refine bM [(0,.d (.sl 1 (cW (l.map bm)))),(1,.d (.str (bm key))),(2,.d (.fn 47)),(8,.d (.int .i64 (cW (l.map bm)).length))] (λp:Nat×Nat=>(p.1<=p.2/\p.2<=l.length)/\∃f,p.2-p.1<=f/\xV l key f p.1 p.2=rZ l key) (λp=>[(9,.d (.int .i64 p.1)),(10,.d (.int .i64 p.2))]) (λ_=>[]) (λp=>p.2-p.1) (0,l.length) ⟨⟨ae _,aM _⟩,l.length,by simp,rfl⟩ ?_ ?_ ?_ (λ⟨i,j⟩ hi=>?_)
 .exact⟨rfl,κ (λx:Nat=>V.d (D.int .i64 x)) e1,rfl,rfl,rfl,rfl,trivial⟩
 .exact zzz
 .exact zx0
 obtain⟨⟨h1,h2⟩,f,h3,h4⟩:=hi;simp only at h1 h2 h3 h4
 repeat' ((conv=>whnf);first|exact zf|refine zm ?_|intro _)
 refine aW (λhlt=>?_) (λhge=>?_)
 .have hlt:i<j:=by have:=θ hlt;omega
  have hsh:AS .shr .u64 ((i:Int)+(j:Int)) 1=(((i+j) / 2:Nat):Int):=by rw[show(i:Int)+(j:Int)=((i+j:Nat):Int)by omega];exact Fu _
  have hm:(i+j) / 2<l.length:=by omega
  obtain⟨x,hx⟩:∃x,l[(i+j) / 2]?=some x:=⟨_,aA hm⟩
  have hgx:=hl x (aJ hx);have ho:=wb x key hgx.1 hgx.2.1 hgx.2.2 hk.1 hk.2.1 hk.2.2;have hlt':Ut l key ((i+j) / 2)=decide (cmpL x key<0):=by unfold Ut;rw[hx]
  obtain⟨f,rfl⟩:∃f',f=f'+1:=⟨f-1,by omega⟩
  rw[xV,φ hlt,δ,hlt']at h4
  repeat' ((conv=>whnf);first|exact zf|refine zm ?_|refine zi0 ?_|refine⟨[.str (bm x)],⟨by dsimp only;omega,by dsimp only;rw[hsh];exact hrow _ _ hx,rfl⟩,?_⟩|refine zc ho ?_|intro _)
  refine aW (λhb=>?_) (λhb=>?_)
  .rw[show decide (cmpL x key<0)=true from hb,δ]at h4;have hs1:AS .shr .u64 ((i:Int)+(j:Int)) 1+1=(((i+j) / 2+1:Nat):Int):=by rw[hsh];rfl
   repeat' ((conv=>whnf);first|exact zf|refine zm ?_|refine zi0 ?_|intro _)
   exact⟨((i+j) / 2+1,j),⟨⟨by dsimp only;omega,h2⟩,f,by dsimp only;omega,h4⟩,by dsimp only;omega,⟨κ (λx:Int=>V.d (D.int .i64 x)) hs1,rfl,rfl,rfl,rfl,rfl,trivial⟩,zzz,rfl⟩
  .rw[show decide (cmpL x key<0)=false from hb,ε]at h4
   repeat' ((conv=>whnf);first|exact zf|refine zm ?_|intro _)
   exact⟨(i,(i+j) / 2),⟨⟨by dsimp only;omega,by dsimp only;omega⟩,f,by dsimp only;omega,h4⟩,by dsimp only;omega,⟨rfl,κ (λx:Int=>V.d (D.int .i64 x)) hsh,rfl,rfl,rfl,rfl,trivial⟩,zzz,rfl⟩
 .have hij:i=j:=by have:=ι hge;omega
  subst hij;have hb:rZ l key=i:=by
   rw[<-h4];cases f with
   |zero=>rfl
   |succ f=>rw[xV,τ (Nat.lt_irrefl i),ε]
  unfold U0;rw[hb];cases hx:l[i]? with
  |none=>
   have hil:¬i<l.length:=by rw[List.getElem?_eq_none_iff]at hx;omega
   exact zk0
  |some x=>
   have hil:=(aC.1 hx).1;have hgx:=hl x (aJ hx);have ho:=wb x key hgx.1 hgx.2.1 hgx.2.2 hk.1 hk.2.1 hk.2.2
   repeat' ((conv=>whnf);first|exact zf|refine zm ?_|refine zc ho ?_|refine⟨[.str (bm x)],⟨by dsimp only;omega,hrow _ _ hx,rfl⟩,?_⟩|refine zt ?_|refine zu ?_|intro _)
def tc(ns:List (List Nat))(kp:List Nat):List (List Nat):=ns.take (rZ ns kp)++kp::ns.drop (rZ ns kp)
def rU(l:Lb):kA->Option Nat
 |[]=>none
 |p::r=>if p.1.s=l.s/\p.1.i=l.i then some 0 else(rU l r).map (· + 1)
def qC(nm:kA)(l:Lb)(kp:List Nat)(b:Option Nat):kA:=
 match rU l nm with
 |some i=>nm.modify i λp=>(p.1,b,tc p.2.2 kp)
 |none=>nm++[(l,b,[kp])]
def qi(s:b7)(kp:List Nat)(o:Ob)(b:Option Nat):b7:=⟨s.th++[(bm kp,o)],qC s.nm o.l kp b⟩
def lQ(s:b7):Prop:=s.nm.length<1000000000/\∀p∈s.nm,p.2.2.length<100000000/\∀x∈p.2.2,ee x
theorem DV{K:KT}(s:b7)(kp:List Nat)(o:Ob)(hkp:ee kp)(hl:cL o.l)(h:(o.k<3\/7<o.k)\/ky o.l=false)(hk:K (.ret (.d (.int .i64 1))) (jW s)) :
  Z1 14 [.p 0 0,.d (.str (bm kp)),gJ o] (jW s) K:=by
 have h1:=wY kp hkp.1 hkp.2.1 hkp.2.2;have h2:=qP o.l hl
 by_cases ha:o.k<3
 .refine s14.go (keep:=false) rfl ?_
  repeat' ((conv=>whnf);first|exact zf|refine zm ?_|refine zc h1 ?_|refine zt ?_|refine zu ?_|intro _)
  exact hk
 .by_cases hb:7<o.k
  .refine s14.go (keep:=false) rfl ?_
   repeat' ((conv=>whnf);first|exact zf|refine zm ?_|refine zc h1 ?_|refine zt ?_|refine zu ?_|intro _)
   exact hk
  .have hc:ky o.l=false:=h.resolve_left λh=>h.elim ha hb;rw[hc]at h2;refine s14.go (keep:=false) rfl ?_
   repeat' ((conv=>whnf);first|exact zf|refine zm ?_|refine zc h1 ?_|refine zc h2 ?_|refine zt ?_|refine zu ?_|intro _)
   exact hk
theorem FE{K:KT}(s:b7)(kp:List Nat)(o gF:Ob)(i:Nat)(hkp:ee kp)(hl:cL o.l)(h3:3<=o.k)(h7:o.k<=7)(hr:ky o.l=true)(hf:bW (bm kp) s.th=some (i,gF))(hk:K (.ret (.d (.int .i64 12))) (jW s)) :
  Z1 14 [.p 0 0,.d (.str (bm kp)),gJ o] (jW s) K:=by
 have h1:=wY kp hkp.1 hkp.2.1 hkp.2.2;have h2:=qP o.l hl;rw[hr]at h2;have hm:=q7 (bm kp) s.th 0;rw[hf]at hm;refine s14.go (keep:=false) rfl ?_
 repeat' ((conv=>whnf);first|exact zf|refine zm ?_|refine zc h1 ?_|refine zc h2 ?_|refine zt ?_|refine zu ?_|intro _)
 refine⟨_,hm,?_⟩
 repeat' ((conv=>whnf);first|exact zf|refine zm ?_|refine zt ?_|refine zu ?_|intro _)
 exact hk
theorem HA(l:Lb):∀nm:kA,lJ (l.s,l.i) (kM nm)=rU l nm
 |[]=>rfl
 |p::r=>by
  have ih:=HA l r;unfold lJ kM at *;rw[cG,gP,ih,rU]
  by_cases h:p.1.s=l.s/\p.1.i=l.i
  .rw[ζ h];simp[h.1,h.2]
  .rw[η h];have:((p.1.s,p.1.i)==(l.s,l.i))=false:=by
    rw[beq_eq_false_iff_ne];intro e;exact h ⟨κ (·.1) e,κ (·.2) e⟩
   simp[this]
theorem vY{l:Lb}:∀{nm:kA}{i:Nat},rU l nm=some i->∃p,nm[i]?=some p/\p.1=l
 |[],_,h=>by cases h
 |p::r,i,h=>by
  rw[rU]at h;split at h
  .rename_i hp;cases h;refine⟨p,rfl,?_⟩;obtain⟨⟨a,b⟩,q⟩:=p;cases l;simp only at hp;rw[hp.1,hp.2]
  .cases hr:rU l r with
   |none=>rw[hr]at h;cases h
   |some j=>
    rw[hr]at h;cases h;obtain⟨q,h1,h2⟩:=vY hr;exact⟨q,by simpa using h1,h2⟩
theorem y7{k:List UInt8×List UInt8}{x:Option (Option Nat×List (List D))}:∀{es:List ME}{i:Nat},lJ k (eM i x es)=lJ k es
 |[],i=>by cases i<;>rfl
 |e::es,0=>by simp[lJ,eM,gP]
 |e::es,i+1=>by
  have ih:=y7 (k:=k) (x:=x) (es:=es) (i:=i);unfold lJ eM at *;rw[List.modify_succ_cons,gP,gP,ih]
theorem vT{i:Nat}{x y:Option (Option Nat×List (List D))}{es:List ME}:eM i x (eM i y es)=eM i x es:=by
 apply cR;intro j;rw[fT,fT,fT]
 by_cases h:i=j
 .rw[ζ h,ζ h,ζ h];cases es[j]?<;>rfl
 .rw[η h,η h,η h]
theorem Lc(nm:kA)(l:Lb)(b:Option Nat)(kp:List Nat):kM (nm++[(l,b,[kp])])=kM nm++[((l.s,l.i),some (b,cW [bm kp]))]:=by simp[kM]
theorem Br(t:List (List UInt8×Ob))(k:List UInt8)(o:Ob):jV (t++[(k,o)])=jV t++[(.str k,true,fD o)]:=by simp[jV]
theorem La(nm:kA)(i:Nat)(l:Lb)(g b:Option Nat)(ns:List (List Nat))(kp:List Nat)(h:nm[i]?=some (l,g,ns)) :
  kM (nm.modify i λp=>(p.1,b,tc p.2.2 kp))=eM i (some (b,cW ((ns.map bm).take (rZ ns kp)++bm kp::(ns.map bm).drop (rZ ns kp)))) (kM nm):=by
 apply cR;intro j;rw[fT];unfold kM;rw[aB,aB,List.getElem?_modify]
 by_cases hj:i=j
 .subst hj;rw[h,ζ rfl];simp[tc]
 .simp[hj]
theorem Ju{K:KT}(s:b7)(kp:List Nat)(o:Ob)(hkp:ee kp)(hs:lQ s)(hl:cL o.l)(h3:3<=o.k)(h7:o.k<=7)(hr:ky o.l=true)(hq:o.va.q.length<100000000)(hf:bW (bm kp) s.th=none)(hk:∀b,K (.ret (.d (.int .i64 0))) (jW (qi s kp o b))) :
  Z1 14 [.p 0 0,.d (.str (bm kp)),gJ o] (jW s) K:=by
 have h1:=wY kp hkp.1 hkp.2.1 hkp.2.2;have h2:=qP o.l hl;rw[hr]at h2;have hm:=q7 (bm kp) s.th 0;rw[hf]at hm;have hc:=uH o hq;have hmf:=HA o.l s.nm;cases hi:rU o.l s.nm with
 |none=>
  rw[hi]at hmf;have hb:=zN [] kp (λ_ h=>nomatch h) hkp (by simp);have hins:=Cf [] (bm kp) 0 (aM _) (by simp);refine s14.go (keep:=false) rfl ?_
  repeat' ((conv=>whnf);first|exact zf|refine zm ?_|refine zc h1 ?_|refine zc h2 ?_|refine zt ?_|refine zu ?_|intro _)
  refine⟨_,hm,?_⟩
  repeat' ((conv=>whnf);first|exact zf|refine zm ?_|refine zc hc ?_|refine zt ?_|refine zu ?_|intro _)
  refine⟨_,hm,?_⟩
  repeat' ((conv=>whnf);first|exact zf|refine zm ?_|refine zt ?_|refine zu ?_|intro _)
  refine .inr ⟨⟨hmf,rfl⟩,?_⟩
  repeat' ((conv=>whnf);first|exact zf|refine(gW 2 ?_)|refine(xT ?_)|refine(bh (bh (.inr ?_)):eO _ (eO _ (_\/Up _ _ 48 _ _ _ _ _ _ _)))|refine zm ?_|refine(.inl ⟨_,hb,rfl,?_⟩)|refine⟨_,_,hins,?_⟩|refine zt ?_|refine zu ?_|intro _)
  refine .inr ⟨⟨hmf,rfl,rfl⟩,λb=>?_⟩;have hk2:K (.ret (.d (.int .i64 0))) [.cells [.mp 1,.mp 2],.dm (jV s.th++[(.str (bm kp),true,fD o)]),.ms 1 (kM s.nm++[((o.l.s,o.l.i),some (b,cW [bm kp]))]) none none]:=by
   have:=hk b;unfold qi qC jW at this;simp only[hi,Lc,Br]at this;exact this
  repeat' ((conv=>whnf);first|exact zf|refine zm ?_|refine zt ?_|refine zu ?_|intro _)
  exact hk2
 |some i=>
  rw[hi]at hmf;obtain⟨⟨l,g,ns⟩,hp,hpl⟩:=vY hi;simp only at hpl;subst hpl;obtain⟨hn1,hn2⟩:=hs.2 _ (aJ hp);simp only at hn1 hn2;have hb:=zN ns kp hn2 hkp (by omega);have hble:=xU ns kp ns.length 0 ns.length (ae _) (aM _);have hins:=Cf (ns.map bm) (bm kp) (rZ ns kp) (by rw[aH];exact hble) (by rw[aH];omega);have hent:((kM s.nm)[i]?).map (·.2)=some (some (g,cW (ns.map bm))):=by simp[kM,hp]
  refine s14.go (keep:=false) rfl ?_
  repeat' ((conv=>whnf);first|exact zf|refine zm ?_|refine zc h1 ?_|refine zc h2 ?_|refine zt ?_|refine zu ?_|intro _)
  refine⟨_,hm,?_⟩
  repeat' ((conv=>whnf);first|exact zf|refine zm ?_|refine zc hc ?_|refine zt ?_|refine zu ?_|intro _)
  refine⟨_,hm,?_⟩
  repeat' ((conv=>whnf);first|exact zf|refine zm ?_|refine zt ?_|refine zu ?_|intro _)
  refine .inl ⟨i,g,cW (ns.map bm),⟨hmf,hent⟩,?_⟩
  repeat' ((conv=>whnf);first|exact zf|refine(gW 2 ?_)|refine(xT ?_)|refine(bh (bh (.inr ?_)):eO _ (eO _ (_\/Up _ _ 48 _ _ _ _ _ _ _)))|refine zm ?_|refine(.inl ⟨_,hb,rfl,?_⟩)|refine⟨_,_,hins,?_⟩|refine zt ?_|refine zu ?_|intro _)
  refine .inl ⟨i,⟨y7.trans hmf,λj v h=>(κ (·.1) (aq h)).symm⟩,λb=>?_⟩;have hk2:K (.ret (.d (.int .i64 0))) [.cells [.mp 1,.mp 2],.dm (jV s.th++[(.str (bm kp),true,fD o)]),.ms 1 (eM i (some (b,cW ((ns.map bm).take (rZ ns kp)++bm kp::(ns.map bm).drop (rZ ns kp)))) (eM i none (kM s.nm))) none none]:=by
   have:=hk b;unfold qi qC jW at this;simp only[hi,La _ _ _ _ _ _ _ hp,Br]at this;rw[vT];exact this
  repeat' ((conv=>whnf);first|exact zf|refine zm ?_|refine zt ?_|refine zu ?_|intro _)
  exact hk2
end Go.Proofs.YtjpgfgajkjhonaaGreatDoor