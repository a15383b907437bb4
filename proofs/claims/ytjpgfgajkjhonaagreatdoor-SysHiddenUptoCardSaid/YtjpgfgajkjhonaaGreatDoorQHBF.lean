/- Lemmas. Conditions: none. -/
import Derived.Test.YtjpgfgajkjhonaaGreatDoorQHBE
namespace Go.Proofs.YtjpgfgajkjhonaaGreatDoor
open Go.Vx
set_option maxRecDepth 100000
theorem Fy {a b:UInt8} (h:∀i,i<8→a.toBitVec.getLsbD i=b.toBitVec.getLsbD i):a=b:=
 UInt8.toBitVec_inj.1 (BitVec.eq_of_getLsbD_eq λi hi=>h i hi)
theorem wN {a:UInt8}:a=0↔∀i,i<8→a.toBitVec.getLsbD i=false:=by
 constructor
 ·intro h i _;rw [h];simp
 ·intro h;exact Fy λi hi=>by rw [h i hi];simp
theorem DC (c b:UInt8):zJ c.toNat b.toNat=true↔∀i,i<8→c.toBitVec.getLsbD i=true→b.toBitVec.getLsbD i=true:=by
 unfold zJ;rw [F2,ξ];have:((c &&& ~~~b).toNat:Int)=0↔c &&& ~~~b=0:=by
  rw [←UInt8.toNat_inj];simp
 rw [this,wN];constructor
 ·intro h i hi hc;have:=h i hi;simp [hc,hi] at this;exact this
 ·intro h i hi;have:=h i hi;simp only [j4,UInt8.toBitVec_not,fQ,BitVec.getLsbD_not,hi,decide_true,jV];cases hc:c.toBitVec.getLsbD i with
  |true=>simp [this hc]
  |false=>rfl
theorem JB (b:UInt8):zJ b.toNat b.toNat=true:=(DC b b).2 λ_ _ h=>h
theorem BL {c b x:UInt8} (h:zJ c.toNat b.toNat=true) (hx:(c &&& x==0)=false):(b &&& x==0)=false:=by
 rw [beq_eq_false_iff_ne] at hx ⊢;intro hb;apply hx;rw [wN] at hb ⊢;intro i hi;have h1:=(DC c b).1 h i hi;have h2:=hb i hi;simp only [j4,fQ] at h2 ⊢;cases hc:c.toBitVec.getLsbD i with
 |true=>rw [h1 hc] at h2;simpa using h2
 |false=>rfl
theorem zM {l:List UInt8} {n:Nat}:mY l n=true↔∃b∈l,b.toNat=n:=by
 unfold mY;rw [cw];simp
theorem pH {l:List UInt8}:∀{k:Nat} {n:Int},n∈fE l k→∃m,m<k∧n=(m:Int)∧mY l m=true
 |0,n,h=>by simp [fE] at h
 |k+1,n,h=>by
  rw [jO] at h;unfold jB at h;cases hb:mY l k && !(oneOf k (fE l k)) with
  |false=>
   rw [hb,ε] at h;obtain ⟨m,h1,h2,h3⟩:=pH h;exact ⟨m,by omega,h2,h3⟩
  |true=>
   rw [hb,δ,aS,aM] at h;rcases h with h | h
   ·obtain ⟨m,h1,h2,h3⟩:=pH h;exact ⟨m,by omega,h2,h3⟩
   ·exact ⟨k,by omega,h,by simp at hb;exact hb.1⟩
theorem qA {l:List UInt8}:∀{k:Nat} {m:Nat},k≤256→m<k→mY l m=true→∃n∈fE l k,zJ n m=true
 |0,m,_,hm,_=>absurd hm (Nat.not_lt_zero _)
 |k+1,m,hk,hm,h=>by
  rw [jO];unfold jB
  by_cases hmk:m=k
  ·subst hmk;rw [h,jV];cases ho:oneOf m (fE l m) with
   |true=>
    rw [Bool.not_true,ε];unfold oneOf at ho;obtain ⟨x,hx,hx2⟩:=cw.1 ho;exact ⟨x,hx,hx2⟩
   |false=>
    rw [n9,δ];refine ⟨(m:Int),by simp,?_⟩;have:=JB (UInt8.ofNat m);rw [gV,cX (by omega)] at this;exact this
  ·obtain ⟨n,hn,h2⟩:=qA (k:=k) (m:=m) (by omega) (by omega) h;cases mY l k && !(oneOf k (fE l k))
   ·exact ⟨n,hn,h2⟩
   ·exact ⟨n,by rw [δ,aS];exact .inl hn,h2⟩
theorem vj {l:List UInt8} {c:UInt8} (h:c∈least l):c∈l:=by
 unfold least at h;obtain ⟨n,hn,rfl⟩:=bF.1 h;obtain ⟨m,h1,rfl,h3⟩:=pH hn;obtain ⟨b,hb,rfl⟩:=zM.1 h3;simpa using hb
theorem zA {l:List UInt8} {b:UInt8} (h:b∈l):∃c∈least l,zJ c.toNat b.toNat=true:=by
 have hb:=b.toNat_lt;obtain ⟨n,hn,h2⟩:=qA (l:=l) (k:=256) (m:=b.toNat) (aR _) hb (zM.2 ⟨b,h,rfl⟩);have h3:=vl l 256 (aR _) n hn;refine ⟨UInt8.ofNat n.toNat,bF.2 ⟨n,hn,rfl⟩,?_⟩;rw [gV,cX (by omega),show ((n.toNat:Nat):Int)=n by omega];exact h2
theorem kI {l:List UInt8} {x:UInt8}:gU l x=true↔∀b∈l,(b &&& x==0)=false:=by
 unfold gU;rw [aT];simp
theorem y_ (l:List UInt8) (x:UInt8):gU (least l) x=gU l x:=by
 rw [eA,kI,kI];constructor
 ·intro h b hb;obtain ⟨c,hc,h2⟩:=zA hb;exact BL h2 (h c hc)
 ·intro h c hc;exact h c (vj hc)
theorem xH {l:List UInt8} (h:∀b∈l,b &&& 63=b):mQ l=l:=by
 unfold mQ
 induction l with
 |nil=>rfl
 |cons b r ih=>rw [cH,h b (by simp),ih λx hx=>h x (by simp [hx])]
theorem pv {l:List UInt8} {b:UInt8} (h:b∈eV l):b &&& 63=b:=by
 have:=vj h;unfold mQ at this;obtain ⟨c,_,rfl⟩:=bF.1 this;rw [UInt8.and_assoc,UInt8.and_self]
def wc (l:List UInt8) (x:Nat):Bool:=kH (eV l) x
theorem wb (l:List UInt8) (x:Nat):wc l x=gU (mQ l) (UInt8.ofNat x):=y_ _ _
theorem p5 (l:List UInt8) (x:Nat):wc (eV l) x=wc l x:=by
 rw [wb,xH λb hb=>pv hb];rfl
theorem CT (a b:List UInt8) (x:Nat):wc (pO a b) x=(wc a x&&wc b x):=by
 unfold pO;rw [p5,wb,xH]
 ·unfold gU wc kH gU;rw [List.all_append]
 ·intro c hc;rcases aS.1 hc with h | h<;>exact pv h
theorem yc (c d x:UInt8):((c ||| d) &&& x==0)=((c &&& x==0)&&(d &&& x==0)):=by
 rw [eA,aP,ξ,ξ,ξ];simp only [wN];constructor
 ·intro h;constructor<;>intro i hi<;>have:=h i hi<;>simp only [j4,UInt8.toBitVec_or,fQ,BitVec.getLsbD_or] at this ⊢<;>revert this <;>
   cases c.toBitVec.getLsbD i<;>cases d.toBitVec.getLsbD i<;>cases x.toBitVec.getLsbD i<;>simp
 ·intro ⟨h1,h2⟩ i hi;have h1:=h1 i hi;have h2:=h2 i hi;simp only [j4,UInt8.toBitVec_or,fQ,BitVec.getLsbD_or] at h1 h2 ⊢
  revert h1 h2
  cases c.toBitVec.getLsbD i<;>cases d.toBitVec.getLsbD i<;>cases x.toBitVec.getLsbD i<;>simp
theorem P7 (a b:List UInt8) (x:Nat):wc (KZ a b) x=(wc a x||wc b x):=by
 unfold KZ;rw [p5,wb,xH]
 ·show gU _ _=(gU _ _||gU _ _);rw [eA,b_,kI,kI,kI];unfold gT;constructor
  ·intro h
   by_cases ha:∀c∈eV a,(c &&& UInt8.ofNat x==0)=false
   ·exact .inl ha
   ·refine .inr λd hd=>?_;simp only [Classical.not_forall] at ha;obtain ⟨c,hc,h2⟩:=ha;have h3:=h (c ||| d) (aQ.2 ⟨c,hc,bF.2 ⟨d,hd,rfl⟩⟩);rw [yc] at h3
    revert h2 h3
    cases (c &&& UInt8.ofNat x==0)<;>simp
  ·rintro (h | h) e he
   all_goals
    obtain ⟨c,hc,he⟩:=aQ.1 he;obtain ⟨d,hd,rfl⟩:=bF.1 he;rw [yc]
    first
     |rw [h c hc];rfl
     |rw [h d hd,Bool.and_false]
 ·intro e he;unfold gT at he;obtain ⟨c,hc,he⟩:=aQ.1 he;obtain ⟨d,hd,rfl⟩:=bF.1 he;have h1:=pv hc;have h2:=pv hd;have:(c ||| d) &&& 63=(c &&& 63) ||| (d &&& 63):=by
   refine Fy λi _=>?_;simp only [j4,UInt8.toBitVec_or,fQ,BitVec.getLsbD_or];cases c.toBitVec.getLsbD i<;>cases d.toBitVec.getLsbD i<;>simp
  rw [this,h1,h2]
theorem qa (l:List UInt8):∀k,k≤64→∃T:Nat,A3 l k=(T:Int)∧T<2 ^ 64∧∀j,T.testBit j=(decide (j<k)&&kH l j)
 |0,_=>⟨0,rfl,by decide,λj=>by simp⟩
 |k+1,hk=>by
  obtain ⟨T,h1,h2,h3⟩:=qa l k (by omega);rw [vP];cases hb:kH l k with
  |false=>
   rw [ε];refine ⟨T,h1,h2,λj=>?_⟩;rw [h3 j]
   by_cases hj:j=k
   ·subst hj;simp [hb]
   ·have:decide (j<k)=decide (j<k+1):=by rw [decide_eq_decide];omega
    rw [this]
  |true=>
   rw [δ];have hpw:(2:Nat) ^ k<2 ^ 64:=Nat.pow_lt_pow_right (by decide) (by omega);have hs:Af .shl .u64 1 k=((2 ^ k:Nat):Int):=by
    show IntKind.u64.wrap (1*2 ^ min ((k:Int)).toNat 64)=_;rw [show min ((k:Int)).toNat 64=k by omega];show ((1*2 ^ k:Int)) % 18446744073709551616=_;have:(1*2 ^ k:Int)=((2 ^ k:Nat):Int):=by simp
    rw [this];generalize (2:Nat) ^ k=p at hpw;omega
   have ho:∀a b:Nat,a<2 ^ 64→b<2 ^ 64→jH .or .u64 (a:Int) (b:Int)=((a ||| b:Nat):Int):=by
    intro a b ha hb;show ((((BitVec.ofInt 64 (a:Int) ||| BitVec.ofInt 64 (b:Int)).toNat:Nat):Int)) % 18446744073709551616=_;have hlt:=Nat.or_lt_two_pow ha hb;simp only [lj,BitVec.toNat_or,BitVec.toNat_ofNat,cX ha,cX hb];omega
   rw [h1,hs,ho T _ h2 hpw];refine ⟨T ||| 2 ^ k,rfl,Nat.or_lt_two_pow h2 hpw,λj=>?_⟩;rw [Nat.testBit_or,h3 j,Nat.testBit_two_pow]
   by_cases hj:j=k
   ·subst hj;simp [hb]
   ·have h4:decide (j<k)=decide (j<k+1):=by rw [decide_eq_decide];omega
    rw [h4,show decide (k=j)=false by simp;omega,lK]
theorem gO (a b:List UInt8):iU a b=true↔∀x,x<64→wc a x=true→wc b x=true:=by
 obtain ⟨S,a1,a2,a3⟩:=qa (eV a) 64 (aR _);obtain ⟨T,b1,b2,b3⟩:=qa (eV b) 64 (aR _);unfold iU sk;rw [a1,b1,ξ];have e:jH .andNot .u64 (S:Int) (T:Int)=0↔(BitVec.ofNat 64 S &&& ~~~BitVec.ofNat 64 T)=0#64:=by
  show ((((BitVec.ofInt 64 (S:Int) &&& ~~~BitVec.ofInt 64 (T:Int)).toNat:Nat):Int)) % 18446744073709551616=0↔_;rw [lj,lj];generalize BitVec.ofNat 64 S &&& ~~~BitVec.ofNat 64 T=w;have:=w.isLt;rw [←BitVec.toNat_inj];simp only [BitVec.toNat_ofNat];omega
 rw [e];constructor
 ·intro h x hx hs;have h1:(BitVec.ofNat 64 S &&& ~~~BitVec.ofNat 64 T).getLsbD x=false:=by rw [h];simp
  simp only [fQ,BitVec.getLsbD_not,BitVec.getLsbD_ofNat,hx,decide_true,jV,a3 x,b3 x] at h1;have hs:kH (eV a) x=true:=hs;rw [hs] at h1;show kH (eV b) x=true;simpa using h1
 ·intro h;refine BitVec.eq_of_getLsbD_eq λi hi=>?_;have h1:=h i hi;unfold wc at h1;simp only [fQ,BitVec.getLsbD_not,BitVec.getLsbD_ofNat,hi,decide_true,jV,a3 i,b3 i];cases hs:kH (eV a) i with
  |false=>simp
  |true=>rw [h1 hs];simp
theorem jD (l m:Lb):ao l m=true↔(∀x,x<64→wc m.s x=true→wc l.s x=true)∧∀x,x<64→wc l.i x=true→wc m.i x=true:=by
 unfold ao;rw [aP,gO,gO]
theorem kK (l:Lb):ao l l=true:=(jD _ _).2 ⟨λ_ _ h=>h,λ_ _ h=>h⟩
theorem zR {l m n:Lb} (h1:ao l m=true) (h2:ao m n=true):ao l n=true:=by
 rw [jD] at h1 h2 ⊢;exact ⟨λx hx h=>h1.1 x hx (h2.1 x hx h),λx hx h=>h2.2 x hx (h1.2 x hx h)⟩
theorem qI {l m:Lb}:ao l (fA m)=ao l m:=by
 rw [eA,jD,jD];unfold fA;simp only [p5]
theorem qJ {l m:Lb}:ao (fA l) m=ao l m:=by
 rw [eA,jD,jD];unfold fA;simp only [p5]
theorem xT (l m:Lb):ao l (db l m)=true:=by
 rw [jD];unfold db;simp only [CT,P7];exact ⟨λx _ h=>by simp at h;exact h.1,λx _ h=>by simp [h]⟩
theorem wX (l m:Lb):cI (db l m):=by
 simp only [cI,db,pO,KZ];exact And.intro (gC _) (gC _)
theorem LB (l m:Lb):cI (nL l m):=by
 simp only [cI,nL,pO,KZ];exact And.intro (gC _) (gC _)
theorem lu (l:Lb):cI (fA l):=by
 unfold cI fA;exact And.intro (gC _) (gC _)
theorem lv:cI ⟨[],[]⟩:=⟨ah _,ah _⟩
theorem gw (n:Int):cI (bE (num n)):=lv
theorem kb:cI (bE zeroV):=lv
theorem oT:cI (bE de):=lv
structure pF (mx:Int) (f:Fr):Prop where
  m:0≤f.ma∧f.ma≤mx
  v:f.vars.length≤40
  s:∀v∈f.vars,cI (bE v)
structure eK (mx:Int) (n:Nat) (c:Co):Prop where
  fr:c.fr.length≤16
  f:∀f∈c.fr,pF mx f
  st:c.st.length≤n
  s:∀v∈c.st,cI (bE v)
  tr:c.tr.length≤n
structure tT (im:Im):Prop where
  hI:Fc im
  ar:∀g∈im.fs,g.args≤10
  cd:∀g∈im.fs,g.code.length<1000000000
  dm:∀g∈im.fs,∀o∈g.code,o.c≠24∧o.c≠31
  cs:∀v∈im.cs,cI (bE v)
section
variable {mx:Int} {n:Nat} {c:Co}
theorem nK {α:Type} {l:List α} {k:Int} {x:α} (h:x∈iB l k):x∈l:=dR h
theorem oJ {α:Type} (l:List α) (k:Int):(iB l k).length≤l.length:=by
 unfold iB;rw [af];omega
theorem eK.mono {m:Nat} (h:eK mx n c) (hm:n≤m):eK mx m c:=⟨h.fr,h.f,aZ h.st hm,h.s,aZ h.tr hm⟩
theorem eK.cut (h:eK mx n c) (f k t:Int):eK mx n (FV c f k t):=
 ⟨aZ (oJ _ _) h.fr,λx hx=>h.f x (nK hx),aZ (oJ _ _) h.st,λx hx=>h.s x (nK hx),aZ (oJ _ _) h.tr⟩
theorem eK.lay (h:eK mx n c) (l:List Va) (hl:∀v∈l,cI (bE v)):eK mx (n+l.length) ⟨c.fr,c.st++l,c.tr⟩:=
 ⟨h.fr,h.f,by have:=h.st;show (c.st++l).length≤_;rw [aL];omega,λx hx=>(aS.1 hx).elim (h.s x) (hl x),aZ h.tr (Nat.le_add_right _ _)⟩
theorem eK.push (h:eK mx n c) {v:Va} (hv:cI (bE v)):eK mx (n+1) (j7 c v):=h.lay [v] λx hx=>by rw [aM.1 hx];exact hv
theorem eK.pop (h:eK mx n c) (k:Int):eK mx n (rk c k):=⟨h.fr,h.f,aZ (oJ _ _) h.st,λx hx=>h.s x (nK hx),h.tr⟩
theorem eK.lC (h:eK mx n c) (k:Int):∀v∈lC c k,cI (bE v):=λv hv=>h.s v (dS hv)
theorem eK.get (h:eK mx n c) (k:Int) (i:Nat):cI (bE (((Go.Proofs.YtjpgfgajkjhonaaGreatDoor.lC c k)[i]?).getD zeroV)):=by
 cases hi:(Go.Proofs.YtjpgfgajkjhonaaGreatDoor.lC c k)[i]? with
 |none=>exact lv
 |some v=>exact h.lC k v (aH hi)
theorem eK.b9 (h:eK mx n c) (l:List Fr) (h1:l.length≤16) (h2:∀f∈l,pF mx f):eK mx n ⟨l,c.st,c.tr⟩:=⟨h1,h2,h.st,h.s,h.tr⟩
theorem pF.at {f g:Fr} (h:pF mx f) (h1:g.vars=f.vars) (h2:g.ma=f.ma):pF mx g:=⟨by rw [h2];exact h.m,by rw [h1];exact h.v,by rw [h1];exact h.s⟩
theorem w9 {P:Fr→Prop} {l:List Fr} (h:∀f∈l,P f) (i:Nat) {g:Fr} (hg:P g):∀f∈l.set i g,P f:=λf hf=>by
 rcases fV hf with h1 | h1
 ·exact h f h1
 ·rw [h1];exact hg
theorem HN {f:Fr} (h:eK mx n c) (hf:pF mx f):(b7 c.fr f).length≤16∧∀g∈b7 c.fr f,pF mx g:=by
 unfold b7;exact ⟨by rw [gr];exact h.fr,w9 h.f _ (hf.at rfl rfl)⟩
theorem Lt {f:Fr} {l:List Fr} (h:l.length≤16∧∀g∈l,pF mx g) (hf:pF mx f):(fB l f).length≤16∧∀g∈fB l f,pF mx g:=by
 unfold fB;exact ⟨by rw [gr];exact h.1,w9 h.2 _ hf⟩
theorem GS {l:List Fr} (i:Nat) (pc:Int) (h:l.length≤16∧∀g∈l,pF mx g):(vU l i pc).length≤16∧∀g∈vU l i pc,pF mx g:=by
 unfold vU;cases hi:l[i]? with
 |none=>exact h
 |some f=>exact ⟨by rw [gr];exact h.1,w9 h.2 _ ((h.2 f (aH hi)).at rfl rfl)⟩
theorem eK.throw (h:eK mx n c) (t:Tr) (code:Int):eK mx (n+1) (sj c t code):=by
 have h1:=h.cut t.f t.h (c.tr.length - 1);obtain ⟨a,b⟩:=GS (t.f - 1).toNat t.a ⟨h1.fr,h1.f⟩;exact (h1.b9 _ a b).push (gw code)
structure e_ (mx:Int) (n:Nat) (r:Co×Ou):Prop where
  c:eK mx n r.1
  v:cI (bE r.2.v)
theorem eK.raise (h:eK mx n c) (code kp:Int):e_ mx (n+1) (raise c code kp):=by
 unfold Go.Proofs.YtjpgfgajkjhonaaGreatDoor.raise mw;cases decide ((c.tr.length:Int) - 1<max kp 0) with
 |true=>exact ⟨h.mono (cP _),gw _⟩
 |false=>
  rw [ε];cases c.tr.getLast? with
  |none=>exact ⟨h.mono (cP _),gw _⟩
  |some t=>
   dsimp only;cases rK c t with
   |true=>exact ⟨h.throw t code,kb⟩
   |false=>exact ⟨h.mono (cP _),gw _⟩
theorem eK.enter (h:eK mx n c) (he:du c=true) (fn vs:Int) (l:List Va) (ma:Int) (hl:l.length≤20) (hs:∀v∈l,cI (bE v)) (hm:0≤ma∧ma≤mx):eK mx n (gF c fn vs l ma):=by
  have h16:c.fr.length<16:=θ he
  refine h.b9 _ (by rw [aL];exact h16) λf hf=>?_
  rcases aS.1 hf with h1 | h1
  · exact h.f f h1
  · rw [aM.1 h1]
    refine ⟨hm,?_,λv hv=>?_⟩
    · show (l++rI (min (max vs 0) 16).toNat).length≤40
      unfold rI
      rw [aL,List.length_replicate]
      omega
    · rcases aS.1 hv with h2 | h2
      · exact hs v h2
      · unfold rI at h2
        rw [(List.mem_replicate.1 h2).2]
        exact gw 0
theorem e_.bif {b:Bool} {x y:Co×Ou} (hx:e_ mx n x) (hy:b=false→e_ mx n y):e_ mx n (bif b then x else y):=by
 cases b
 ·exact hy rfl
 ·exact hx
theorem e_.WD {b:Bool} {x y:Co×Ou} (hx:b=true→e_ mx n x) (hy:b=false→e_ mx n y):e_ mx n (bif b then x else y):=by
 cases b
 ·exact hy rfl
 ·exact hx rfl
theorem NM {l:Lb} (h:cI l):cI (bE (rQ l)):=h
theorem Lq {a ma:Int} (h:0≤ma∧ma≤mx) (hx:mx≤255):0≤yz a ma∧yz a ma≤mx:=by
 unfold yz;obtain ⟨x,hx'⟩:∃x:UInt8,ma=(x.toNat:Int):=⟨UInt8.ofNat ma.toNat,by rw [gV,cX (by omega)];omega⟩
 obtain ⟨y,hy⟩:∃y:UInt8,IntKind.u8.wrap (jH .and .i64 a 255)=(y.toNat:Int):=by
  have:∀z:Int,∃y:UInt8,IntKind.u8.wrap z=(y.toNat:Int):=λz=>by
   refine ⟨UInt8.ofNat (z % 256).toNat,?_⟩;rw [gV];show z % 256=_;omega
  exact this _
 rw [hx',hy,xi];have:(x &&& y).toNat≤x.toNat:=by rw [UInt8.toNat_and];exact Nat.and_le_left
 omega
end
section
variable {mx:Int} {n:Nat} {c:Co} {im:Im}
theorem A6 {fr tr:Int} (hP:tT im) (h:eK mx n c) (hx:mx≤255):e_ mx (n+2) (eF im c fr tr):=by
 have h1:=λ(code kp:Int)=>show e_ mx (n+2) (raise c code kp) from let r:=h.raise code kp;⟨r.c.mono (by omega),r.v⟩;unfold eF;cases hf:fit im c with
 |none=>exact ⟨h.mono (by omega),gw _⟩
 |some o=>
  obtain ⟨f,fn,hl,w1,hfn,w2,ho,hr,hop,hpo⟩:=nS hf;simp only [hl];have hfo:pF mx f:=h.f f (List.mem_of_getLast? hl);have hn:=HN h hfo;have hp:=h.pop (fU im o);have hp':eK mx n ⟨b7 c.fr f,j0 (dF im c o 0 0),c.tr⟩:=hp.b9 _ hn.1 hn.2;have ha:cI (bE (uo im c o)):=h.get _ 0;have hb:cI (bE (q8 im c o)):=h.get _ 1;have hlay:∀l:List Va,l.length≤2→(∀v∈l,cI (bE v))→e_ mx (n+2) (fK im c o f l):=λl h2 h3=>⟨(hp'.lay l h3).mono (by omega),kb⟩
  have l0:=hlay [] (by decide) λv hv=>by cases hv
  have l1:∀v,cI (bE v)→e_ mx (n+2) (fK im c o f [v]):=λv hv=>hlay [v] (cP 1) λw hw=>by rw [aM.1 hw];exact hv
  have l2:∀v w,cI (bE v)→cI (bE w)→e_ mx (n+2) (fK im c o f [v,w]):=λv w hv hw=>hlay [v,w] (aR 2) λx hx=>by
   rcases a8.1 hx with e | e
   ·rw [e];exact hv
   ·rw [aM.1 e];exact hw
  have hlast:∀g:Fr,pF mx g→e_ mx (n+2) (⟨fB (b7 c.fr f) g,j0 (dF im c o 0 0),c.tr⟩,cJ):=λg hg=>by
   have:=Lt hn hg;exact ⟨(hp.b9 _ this.1 this.2).mono (by omega),kb⟩
  have hret:eK mx n (gD c):=⟨aZ (oJ _ _) h.fr,λx hx=>h.f x (nK hx),aZ (oJ _ _) h.st,λx hx=>h.s x (nK hx),aZ (List.length_filter_le _ _) h.tr⟩
  have hrv:cI (bE (rj c)):=h.get _ 0;unfold Cb;refine e_.bif ?_ λh3=>e_.bif ?_ λh22=>e_.bif ?_ λh23=>?_
  ·refine hlast _ ⟨hfo.m,by show (f.vars.set _ _).length≤40;rw [gr];exact hfo.v,λv hv=>?_⟩;rcases fV hv with h2 | h2
   ·exact hfo.s v h2
   ·rw [h2];exact ha
  ·exact e_.bif (l1 _ (NM (wX _ _))) λ_=>h1 _ _
  ·exact e_.bif (l1 _ (NM (LB _ _))) λ_=>h1 _ _
  ·unfold nI;refine e_.bif (l1 _ ?_) λ_=>e_.bif (l1 _ ?_) λ_=>e_.bif l0 λ_=>e_.bif (l2 _ _ ha ha) λ_=>e_.bif (l2 _ _ hb ha) λ_=>e_.bif (l1 _ (gw _)) λ_=>
    e_.bif (e_.bif ?_ λ_=>h1 _ _) λ_=>e_.bif (e_.bif (l1 _ (gw _)) λ_=>h1 _ _) λ_=>e_.bif (hlast _ (hfo.at rfl rfl)) λ_=>
    e_.bif (e_.bif (e_.bif l0 λ_=>hlast _ (hfo.at rfl rfl)) λ_=>h1 _ _) λh16=>e_.WD (λh17=>?_) λ_=>e_.bif (e_.bif ⟨hret.mono (by omega),hrv⟩ λ_=>?_) λ_=>
    e_.bif (e_.bif (h1 _ _) λ_=>h1 _ _) λ_=>e_.bif ?_ λ_=>e_.bif (e_.bif ?_ λ_=>l0) λ_=>e_.bif (hlast _ ?_) λ_=>e_.bif (l1 _ (gw _)) λ_=>⟨h.mono (by omega),kb⟩
   ·cases hi:im.cs[o.a.toNat]? with
    |none=>exact lv
    |some v=>exact hP.cs v (aH hi)
   ·cases hi:f.vars[o.a.toNat]? with
    |none=>exact lv
    |some v=>exact hfo.s v (aH hi)
   ·split
    ·exact l1 _ (gw _)
    ·exact h1 _ _
   ·have h17:o.c=17:=by simpa using h17
    have hlen:=(nG hpo).1;have htk:(fU im o).toNat≤14:=by
     unfold fU;cases hi:inf o.c with
     |none=>exact ah _
     |some i=>
      obtain ⟨_,_,_,_,_,q,_⟩:=uC hi;dsimp only;rw [show (o.c==17)=true by simp [h17],δ];cases hg:im.fs[o.a.toNat]? with
      |none=>dsimp only;omega
      |some g=>
       have:=hP.ar g (aH hg);dsimp only;omega
    cases he:du ⟨b7 c.fr f,j0 (dF im c o 0 0),c.tr⟩ with
    |false=>exact h1 _ _
    |true=>
     rw [δ];have:=hp'.enter he o.a (match im.fs[o.a.toNat]? with | some g=>g.vars | none=>0) (nk (dF im c o 0 0)) f.ma (by show (lC c (fU im o)).length≤20;omega) (h.lC _) hfo.m;exact ⟨this.mono (by omega),kb⟩
   ·exact ⟨(hret.push hrv).mono (by omega),kb⟩
   ·refine ⟨⟨hn.1,hn.2,aZ hp.st (by omega),hp.s,?_⟩,kb⟩;have:=h.tr;show (c.tr++_).length≤_;rw [aL];show c.tr.length+1≤_;omega
   ·refine ⟨⟨hn.1,hn.2,aZ hp.st (by omega),hp.s,?_⟩,kb⟩;have:=h.tr;show (c.tr.take _).length≤_;rw [af];omega
   ·exact ⟨Lq hfo.m hx,hfo.v,hfo.s⟩
theorem eK.x {im:Im} (hP:tT im) (h:eK mx n c) (hx:mx≤255) (hn:n<700000000):Rf im c where
 hI:=hP.hI
 cd:=λi g hg=>hP.cd g (aH hg)
 lf:=by have:=h.fr;omega
 ls:=by have:=h.st;omega
 lt:=by have:=h.tr;omega
 ma:=λf hf=>by
  have:=h.f f (List.mem_of_getLast? hf);exact ⟨⟨this.m.1,by have:=this.m.2;omega⟩,by have:=this.v;omega⟩
 sm:=h.s
 dm:=λo ho=>by
  obtain ⟨f,fn,_,_,hfn,_,hoc,_⟩:=nS ho;exact hP.dm fn (aH hfn) o (aH hoc)
end
theorem fi {g:Gs} {l:Lb}:bV g l=0↔ao g.cur l=true∧ao l g.gH=true:=by
 show (bif ao g.cur l then (bif ao l g.gH then 0 else -4) else -3)=(0:Int)↔_;cases ao g.cur l<;>cases ao l g.gH<;>simp
theorem Dv {g:Gs} {l:Lb}:dY g l=0↔ao (db g.cur l) g.gH=true:=by
 show (bif ao (db g.cur l) g.gH then 0 else -4)=(0:Int)↔_;cases ao (db g.cur l) g.gH<;>simp
theorem E8 {g:Gs} {l:Lb}:jZ g l=0↔ao l g.gH=true∧ao g.cur l=true:=by
 show (bif ao l g.gH then (bif ao g.cur l then 0 else -3) else -4)=(0:Int)↔_;cases ao g.cur l<;>cases ao l g.gH<;>simp
theorem J9 {g:Gs} {l:Lb} {p:Int}:l5 g l p=0↔fL g.cur l p=true∧ao l g.gH=true:=by
 show (bif fL g.cur l p then (bif ao l g.gH then 0 else -4) else -3)=(0:Int)↔_;cases fL g.cur l p<;>cases ao l g.gH<;>simp
theorem H9 {g:Gs} {l:Lb} {p:Int}:lU g l p=0↔fL l g.gH p=true∧ao g.cur l=true:=by
 show (bif fL l g.gH p then (bif ao g.cur l then 0 else -3) else -4)=(0:Int)↔_;cases fL l g.gH p<;>cases ao g.cur l<;>simp
inductive GStep (g:Gs):Gs→Prop where
  |same:GStep g g
  |GG (l:Lb):ao (db g.cur l) g.gH=true→GStep g ⟨db g.cur l,g.gH⟩
  |both (l:Lb):ao g.cur l=true→ao l g.gH=true→GStep g ⟨fA l,g.gH⟩
  |lower (l:Lb):ao g.cur l=true→ao l g.gH=true→GStep g ⟨g.cur,fA l⟩
theorem GStep.sm {g h:Gs} (H:GStep g h) (hg:jX g):jX h:=by
 cases H with
 |same=>exact hg
 |GG l _=>exact And.intro (wX _ _) hg.2
 |both l _ _=>exact And.intro (lu _) hg.2
 |lower l _ _=>exact And.intro hg.1 (lu _)
theorem GStep.up {g h:Gs} (H:GStep g h):ao g.cur h.cur=true∧ao h.gH g.gH=true:=by
 cases H with
 |same=>exact ⟨kK _,kK _⟩
 |GG l _=>exact ⟨xT _ _,kK _⟩
 |both l h1 _=>exact ⟨by show ao g.cur (fA l)=true;rw [qI];exact h1,kK _⟩
 |lower l h1 h2=>exact ⟨kK _,by show ao (fA l) g.gH=true;rw [qJ];exact h2⟩
structure kY (mx:Int) (q:Nat) (o:Ob):Prop where
  l:cI o.l
  v:cI (bE o.v)
  w:cI (bE o.va.v)
  qs:∀x∈o.va.q,cI (bE x.v)
  ql:o.va.q.length≤q
  m:0≤o.ma∧o.ma≤mx
structure gN (mx:Int) (q n:Nat) (s:b8):Prop where
  nm:s.nm.length≤n
  ns:∀p∈s.nm,p.2.2.length≤n∧∀x∈p.2.2,gS x
  th:∀p∈s.th,kY mx q p.2
def ND (g:Gs) (ma:Int) (x:En) (h:Gs):Prop:=x.ma=ma ∧
  ((x.fr = g.cur ∧ h = ⟨fA x.to, g.gH⟩ ∧ fL g.cur x.to ma = true ∧ ao x.to g.gH = true ∧ ao g.cur x.to = false) ∨
   (x.fr=g.gH∧h=⟨g.cur,fA x.to⟩∧fL x.to g.gH ma=true∧ao g.cur x.to=true∧ao x.to g.gH=false))
inductive jJ (now mx:Int) (q n:Nat) (t:Th) (ma:Int) (s:b8) (b:Option Nat):Fx→Th→b8→Prop where
  |go (g:Gs) (k:Co) (st:Int) (on:List UInt8):GStep t.g g→eK mx (n+1) k→(st=t.st∨st=1)→jJ now mx q n t ma s b .no { t with g:=g,c:=k,st:=st,on:=on } s
  |log (x:En) (g:Gs):ND t.g ma x g→cI x.to→jJ now mx q n t ma s b (.log x) { t with g:=g } s
  |out (x:Ev):ao t.g.cur x.l=true→ao x.l t.g.gH=true→cI x.l→cI (bE x.v)→jJ now mx q n t ma s b (.out x) t s
  |set (e:Fx) (g:Gs) (i:Nat) (nm:List UInt8) (o p:Ob) (k:Co) (st:Int) (on:List UInt8):bI nm s.th=some (i,o)→(o.k=4∨o.k=5)→p.k=o.k→p.l=o.l→kY mx (q+1) p →
      ao t.g.cur o.l=true→ao o.l t.g.gH=true→(g=t.g∨g=⟨fA o.l,t.g.gH⟩)→eK mx (n+1) k→(st=t.st∨st=1)→(e = .no∨∃w,e = .NG w∧∀v∈w.l,cI (bE v)) →
      jJ now mx q n t ma s b e { t with g:=g,c:=k,st:=st,on:=on } (jx s i nm p)
  |make (o:Ob) (k:Co):ao t.g.cur o.l=true→ao o.l t.g.gH=true→1≤t.ro→(o.k=3∨o.k=4∨o.k=5∨o.k=7)→kY mx q o→eK mx (n+1) k →
      jJ now mx q n t ma s b .no { kA t with c:=k } (iE s (lI t) o b)
  |fork (l:Lb) (ro:Int) (k d:Co):ao t.g.cur l=true→ao l t.g.gH=true→cI l→0≤ro→ro<t.ro→eK mx (n+1) k→eK mx n d →
      jJ now mx q n t ma s b (.fork (yj (cR (lI t)) ⟨t.g.cur,fA l⟩ d ro)) { kA t with ro:=t.ro - 1 - ro,c:=k } (iE s (lI t) { fT with k:=6,l:=l } b)
  |scope (l:Lb) (tk ro:Int) (k:Co):ao t.g.cur l=true→ao l t.g.gH=true→cI l→0≤ro→ro<t.ro→1≤tk→tk≤1000→eK mx (n+1) k →
      jJ now mx q n t ma s b .no { t with sc:=t.sc ++ [qq t l tk ro now (cR (lI t))],c:=k,g:=⟨t.g.cur,fA l⟩,pa:=cR (lI t),ma:=0,ro:=ro } s
def fP (mx:Int) (q n:Nat) (c:Ca) (s:b8):OR→Prop
 |.ok e f=>∀b,jJ c.now mx q n c.t c.ma s b e (f b).1.t (f b).2
 |.ex _ c' s'=>s'=s∧c'.tr=c.tr∧∃g,GStep c.t.g g∧c'.t={ c.t with g:=g }
structure pU (mx:Int) (q n:Nat) (c:Ca) (s:b8):Prop where
  co:eK mx n c.t.c
  g:jX c.t.g
  a:∀v∈c.ar,cI (bE v)
  m:0≤c.ma∧c.ma≤mx
  so:gN mx q n s
section
variable {mx:Int} {q n:Nat} {c:Ca} {s:b8}
theorem cz {b:Bool} {x y:OR} (hx:b=true→fP mx q n c s x) (hy:b=false→fP mx q n c s y):fP mx q n c s (bif b then x else y):=by
 cases b
 ·exact hy rfl
 ·exact hx rfl
theorem da (m:Int):fP mx q n c s (.ex m c s):=⟨rfl,rfl,c.t.g,.same,rfl⟩
theorem pU.ar (h:pU mx q n c s) (i:Nat):cI (bE (c.ar[i]?.getD de)):=by
 cases hi:c.ar[i]? with
 |none=>exact lv
 |some v=>exact h.a v (aH hi)
theorem pU.look (h:pU mx q n c s) {nm:List UInt8} {i:Nat} {o:Ob} (hl:bI nm s.th=some (i,o)):kY mx q o:=by
 obtain ⟨p,hp,rfl⟩:=kD hl;exact h.so.th p hp
theorem Cd (mx:Int) (q:Nat) (k:Int) {l:Lb} (hl:cI l) {v:Va} (hv:cI (bE v)) (fu:Int) {ma:Int} (hm:0≤ma∧ma≤mx):kY mx q { fT with k:=k,l:=l,v:=v,fu:=fu,ma:=ma }:=
 ⟨hl,hv,oT,λx hx=>(by cases hx),ah _,hm⟩
theorem jv {s:b8} {h:Va} {i:Nat} {o:Ob} (ht:dN s h=some (i,o)):bI h.nm s.th=some (i,o)∧o.k=h.k∧o.l=bE h:=by
 unfold dN at ht;cases hl:bI h.nm s.th with
 |none=>rw [hl] at ht;cases ht
 |some p=>
  obtain ⟨j,p⟩:=p;rw [hl] at ht;dsimp only at ht;cases hb:(p.k==h.k)&&((p.l.s==h.ls)&&(p.l.i==h.li)) with
  |false=>rw [hb] at ht;cases ht
  |true=>
   rw [hb,δ,aE,bW] at ht;obtain ⟨rfl,rfl⟩:=ht;simp only [aP,ξ] at hb;refine ⟨rfl,hb.1,?_⟩;unfold bE;rw [←hb.2.1,←hb.2.2]
theorem tq {k:Int} {ks:List Int} {ar:List Va} (h:cD (k :: ks) ar=true) (hl:0<ar.length) (hk:k≠0):(ar[0]?.getD de).k=k:=by
 match ar,hl with
 |v :: r,_=>
  unfold cD at h;rw [List.zip_cons_cons,lJ,aP,b_] at h;rcases h.1 with h1 | h1
  ·exact absurd (by simpa using h1) hk
  ·show v.k=k;simpa using h1
theorem kO {a:Int} (h:(a==0)=true):a=0:=by simpa using h
theorem Q0 {a:Int} (h:(a==0)=false):a≠0:=by simpa using h
theorem Dx {g:Gs} {l:Lb} (h:dY g l=0):dE g l=⟨db g.cur l,g.gH⟩:=by
 unfold dE;rw [show (dY g l==0)=true by simp [h],δ]
theorem uY {g:Gs} {l:Lb} (h:bV g l=0):uZ g l=⟨fA l,g.gH⟩:=by
 unfold uZ;rw [show (bV g l==0)=true by simp [h],δ]
theorem o9 {g:Gs} {l:Lb} (h:dY g l=0):GStep g (dE g l):=by
 rw [Dx h];exact .GG l (Dv.1 h)
theorem wG {g:Gs} {l:Lb} (h:bV g l=0):GStep g (uZ g l):=by
 rw [uY h];exact .both l (fi.1 h).1 (fi.1 h).2
theorem kN (g:Gs) (k:Co) (hg:GStep c.t.g g) (hk:eK mx (n+1) k):∀b,jJ c.now mx q n c.t c.ma s b .no { c.t with g:=g,c:=k } s:=
 λ_=>.go g k c.t.st c.t.on hg hk (.inl rfl)
theorem M6 (h:pU mx q n c s):fP mx q n c s (Qy c s):=kN c.t.g _ .same (h.co.push h.g.1)
theorem M7 (h:pU mx q n c s):fP mx q n c s (RB c s):=kN c.t.g _ .same (h.co.push h.g.2)
theorem FP (h:pU mx q n c s):fP mx q n c s (pB c s):=
 cz (λ_=>cz (λh1=>kN _ _ (o9 (kO h1)) (h.co.mono (cP _))) λ_=>da _) λ_=>da _
theorem FQ (h:pU mx q n c s):fP mx q n c s (xI c s):=
 cz (λ_=>cz (λh1=>by
  have h2:=E8.1 (kO h1);refine kN _ _ ?_ (h.co.mono (cP _));unfold tZ;rw [h1,δ];exact .lower _ h2.2 h2.1) λ_=>da _) λ_=>da _
theorem uT (h:pU mx q n c s) (o:Ob) (hk:o.k=3∨o.k=4∨o.k=5∨o.k=7) (ho:kY mx q o):fP mx q n c s (j8 c s o):=by
 unfold j8;refine cz (λh1=>cz (λ_=>da _) λh2=>λb=>?_) λ_=>da _;have h3:=fi.1 (kO h1);have h2:=ι h2;exact .make o _ h3.1 h3.2 (by omega) hk ho (h.co.push ho.l)
theorem DS (h:pU mx q n c s) (h0:0≤mx) (k:Int) (hk:k=3∨k=4):fP mx q n c s (tV k c s):=
 cz (λ_=>uT h _ (by rcases hk with e | e<;>simp [e]) (Cd mx q k (h.ar 1) (h.ar 0) 0 ⟨dT _,h0⟩)) λ_=>da _
theorem Jj (h:pU mx q n c s) (h0:0≤mx):fP mx q n c s (xA c s):=
 cz (λ_=>uT h _ (.inr (.inr (.inl rfl))) (Cd mx q 5 (h.ar 0) oT 0 ⟨dT _,h0⟩)) λ_=>da _
theorem Jk (h:pU mx q n c s):fP mx q n c s (xB c s):=
 cz (λ_=>uT h _ (.inr (.inr (.inr rfl))) (Cd mx q 7 (h.ar 0) oT c.o.a h.m)) λ_=>da _
theorem Ji (h:pU mx q n c s):fP mx q n c s (tM c s):=by
 refine cz (λ_=>?_) λ_=>da _;unfold pb;refine cz (λh1=>?_) λ_=>da _;have h2:=o9 (kO h1);cases ht:dN s (c.ar[0]?.getD de) with
 |none=>exact kN _ _ h2 (h.co.push (gw 0))
 |some p=>
  obtain ⟨i,o⟩:=p;have ho:=h.look (jv ht).1;dsimp only;unfold mP;cases o.ex with
  |true=>exact ⟨rfl,rfl,_,h2,rfl⟩
  |false=>exact kN _ _ h2 (h.co.push ho.v)
theorem qv (h:pU mx q n c s) (v:Va) (go:Ca→b8→Ob→RQ) (hg:∀g o,GStep c.t.g g→kY mx q o→fP mx q n c s (go { c with t:={ c.t with g:=g } } s o).or):fP mx q n c s (iK c s v go).or:=by
 unfold iK;cases h1:dY c.t.g (bE v)==0 with
 |false=>exact da _
 |true=>
  rw [δ];have h2:=o9 (kO h1);cases ht:dN s v with
  |none=>exact kN _ _ h2 (h.co.push (gw 0))
  |some p=>
   obtain ⟨i,o⟩:=p;exact hg _ _ h2 (h.look (jv ht).1)
theorem z6 (h:pU mx q n c s):fP mx q n c s (p9 c s):=
 cz (λ_=>qv h _ _ λg _ hg ho=>kN g _ hg (h.co.push ho.v)) λ_=>da _
theorem Jg (h:pU mx q n c s):fP mx q n c s (CJ c s):=by
 refine cz (λ_=>qv h _ _ λg o hg ho=>?_) λ_=>da _;unfold mo;cases o.dn with
 |false=>exact λb=>.go g c.t.c 1 _ hg (h.co.mono (cP _)) (.inr rfl)
 |true=>
  cases o.ex with
  |true=>exact ⟨rfl,rfl,g,hg,rfl⟩
  |false=>exact kN g _ hg (h.co.push ho.v)
theorem FR (h:pU mx q n c s):fP mx q n c s (sT c s):=by
 refine cz (λ_=>qv h _ _ λg o hg ho=>?_) λ_=>da _;unfold kM;cases he:du c.t.c with
 |false=>exact ⟨rfl,rfl,g,hg,rfl⟩
 |true=>
  have h1:=h.co.enter he o.fu (gZ c.im o.fu) (c.ar.take 1) o.ma (aZ (List.length_take_le _ _) (by decide)) (λv hv=>h.a v (dR hv)) ho.m;exact kN g _ hg (h1.mono (cP _))
theorem M5 (h:pU mx q n c s):fP mx q n c s (Au c s):=
 cz (λ_=>cz (λh1 _=>.out _ (fi.1 (kO h1)).1 (fi.1 (kO h1)).2 (h.ar 1) (h.ar 0)) λ_=>da _) λ_=>da _
theorem Jn (h:pU mx q n c s):fP mx q n c s (DR c s):=by
 refine cz (λ_=>cz (λh1 b=>?_) λ_=>da _) λ_=>da _;have h2:=J9.1 (kO h1);unfold BM uR wC;rw [h1,δ,δ];cases hf:ao c.t.g.cur (bE (c.ar[0]?.getD de)) with
 |true=>exact .go _ c.t.c c.t.st c.t.on (.both _ hf h2.2) (h.co.mono (cP _)) (.inl rfl)
 |false=>exact .log _ _ ⟨rfl,.inl ⟨rfl,rfl,h2.1,h2.2,hf⟩⟩ (h.ar 0)
theorem Jl (h:pU mx q n c s):fP mx q n c s (Cw c s):=by
 refine cz (λ_=>cz (λh1 b=>?_) λ_=>da _) λ_=>da _;have h2:=H9.1 (kO h1);unfold BM tf vi;rw [h1,δ,δ];cases hf:ao (bE (c.ar[0]?.getD de)) c.t.g.gH with
 |true=>exact .go _ c.t.c c.t.st c.t.on (.lower _ h2.2 hf) (h.co.mono (cP _)) (.inl rfl)
 |false=>exact .log _ _ ⟨rfl,.inr ⟨rfl,rfl,h2.1,h2.2,hf⟩⟩ (h.ar 0)
theorem FN (h:pU mx q n c s) (hl:c.ar.length=2):fP mx q n c s (q6 c s):=by
 refine cz (λhk=>cz (λh1=>?_) λ_=>da _) λ_=>da _;have h2:=fi.1 (kO h1);cases ht:dN s (c.ar[0]?.getD de) with
 |none=>exact kN c.t.g c.t.c .same (h.co.mono (cP _))
 |some p=>
  obtain ⟨i,o⟩:=p;obtain ⟨g1,g2,g3⟩:=jv ht;have ho:=h.look g1;rw [←g3] at h2;exact λb=>.set .no c.t.g i _ o { o with v:=c.ar[1]?.getD de } c.t.c c.t.st c.t.on g1 (.inl (by rw [g2];exact tq hk (by omega) (by decide))) rfl rfl ⟨ho.l,h.ar 1,ho.w,ho.qs,dI ho.ql,ho.m⟩ h2.1 h2.2 (.inl rfl) (h.co.mono (cP _)) (.inl rfl) (.inl rfl)
theorem wA {l:List Wt} {i:Nat} {x:Wt} (h:x∈rX l i):x∈l:=by
 unfold rX at h;rcases aS.1 h with h1 | h1
 ·exact dR h1
 ·exact dS h1
theorem Kq {o:Ob} (ho:kY mx q o) (id:List UInt8):kY mx (q+1) { o with va:=(fI o.va id).1 }∧cI (bE (fI o.va id).2.1):=by
 have hlen:=vO (x:=o.va) (id:=id);have hq:=ho.ql;have hall:cI (bE (fI o.va id).1.v)∧(∀x∈(fI o.va id).1.q,cI (bE x.v))∧cI (bE (fI o.va id).2.1):=by
  unfold fI;cases o.va.full with
  |false=>
   refine ⟨ho.w,λx hx=>?_,oT⟩;rcases aS.1 hx with h1 | h1
   ·exact ho.qs x h1
   ·rw [aM.1 h1];exact oT
  |true=>
   rw [δ];cases hi:o.va.q[sY true o.va.q]? with
   |none=>exact ⟨oT,ho.qs,ho.w⟩
   |some w=>exact ⟨ho.qs w (aH hi),λx hx=>ho.qs x (wA hx),ho.w⟩
 exact ⟨⟨ho.l,ho.v,hall.1,hall.2.1,by show (fI o.va id).1.q.length≤q+1;omega,ho.m⟩,hall.2.2⟩
theorem Pu {o:Ob} (ho:kY mx q o) (id:List UInt8) (v:Va) (hv:cI (bE v)):kY mx (q+1) { o with va:=(jy o.va id v).1 }:=by
 have hlen:=y6 (x:=o.va) (id:=id) (v:=v);have hq:=ho.ql;have hall:cI (bE (jy o.va id v).1.v)∧(∀x∈(jy o.va id v).1.q,cI (bE x.v)):=by
  unfold jy;cases o.va.full with
  |true=>
   refine ⟨ho.w,λx hx=>?_⟩;rcases aS.1 hx with h1 | h1
   ·exact ho.qs x h1
   ·rw [aM.1 h1];exact hv
  |false=>
   rw [ε];cases hi:o.va.q[sY false o.va.q]? with
   |none=>exact ⟨hv,ho.qs⟩
   |some w=>exact ⟨ho.w,λx hx=>ho.qs x (wA hx)⟩
 exact ⟨ho.l,ho.v,hall.1,hall.2,by show (jy o.va id v).1.q.length≤q+1;omega,ho.m⟩
theorem CH {id:List UInt8} {l:List Va} (hl:∀v∈l,cI (bE v)):mh id l = .no∨∃w,mh id l = .NG w∧∀v∈w.l,cI (bE v):=by
 unfold mh;cases id == []
 ·exact .inr ⟨_,rfl,hl⟩
 ·exact .inl rfl
theorem Jh (h:pU mx q n c s) (hl:c.ar.length=1):fP mx q n c s (q9 c s):=by
 refine cz (λhk=>cz (λh1=>?_) λ_=>da _) λ_=>da _;have h1:=kO h1;have h2:=fi.1 h1;cases ht:dN s (c.ar[0]?.getD de) with
 |none=>exact λb=>.go _ c.t.c 1 _ (wG h1) (h.co.mono (cP _)) (.inr rfl)
 |some p=>
  obtain ⟨i,o⟩:=p;obtain ⟨g1,g2,g3⟩:=jv ht;have ho:=h.look g1;have hb:=uY h1;rw [←g3] at h2 hb;have hk5:o.k=4∨o.k=5:=.inr (by rw [g2];exact tq hk (by omega) (by decide));obtain ⟨t1,t2⟩:=Kq ho c.t.id;dsimp only;cases (fI o.va c.t.id).2.2.1 with
  |true=>exact λb=>.set _ _ i _ o { o with va:=(fI o.va c.t.id).1 } _ c.t.st c.t.on g1 hk5 rfl rfl t1 h2.1 h2.2 (.inr (by rw [←g3];exact hb)) (h.co.push t2) (.inl rfl) (CH λv hv=>by cases hv)
  |false=>exact λb=>.set _ _ i _ o { o with va:=(fI o.va c.t.id).1 } _ 1 _ g1 hk5 rfl rfl t1 h2.1 h2.2 (.inr (by rw [←g3];exact hb)) (h.co.mono (cP _)) (.inr rfl) (.inl rfl)
theorem M4 (h:pU mx q n c s) (hl:c.ar.length=2):fP mx q n c s (vX c s):=by
 refine cz (λhk=>cz (λh1=>?_) λ_=>da _) λ_=>da _;have h1:=kO h1;have h2:=fi.1 h1;cases ht:dN s (c.ar[0]?.getD de) with
 |none=>exact λb=>.go _ c.t.c 1 _ (wG h1) (h.co.mono (cP _)) (.inr rfl)
 |some p=>
  obtain ⟨i,o⟩:=p;obtain ⟨g1,g2,g3⟩:=jv ht;have ho:=h.look g1;have hb:=uY h1;rw [←g3] at h2 hb;have hk5:o.k=4∨o.k=5:=.inr (by rw [g2];exact tq hk (by omega) (by decide));have t1:=Pu ho c.t.id (c.ar[1]?.getD de) (h.ar 1);dsimp only;cases (jy o.va c.t.id (c.ar[1]?.getD de)).2.1 with
  |true=>exact λb=>.set _ _ i _ o { o with va:=(jy o.va c.t.id (c.ar[1]?.getD de)).1 } c.t.c c.t.st c.t.on g1 hk5 rfl rfl t1 h2.1 h2.2 (.inr (by rw [←g3];exact hb)) (h.co.mono (cP _)) (.inl rfl) (CH λv hv=>by rw [aM.1 hv];exact h.ar 1)
  |false=>exact λb=>.set _ _ i _ o { o with va:=(jy o.va c.t.id (c.ar[1]?.getD de)).1 } _ 1 _ g1 hk5 rfl rfl t1 h2.1 h2.2 (.inr (by rw [←g3];exact hb)) (h.co.mono (cP _)) (.inr rfl) (.inl rfl)
theorem okCo_0 (mx:Int) (n:Nat):eK mx n c00:=⟨by decide,λf hf=>(by cases hf),ah _,λv hv=>(by cases hv),ah _⟩
theorem Jm (h:pU mx q n c s):fP mx q n c s (DI c s):=by
 refine cz (λ_=>cz (λh1 b=>?_) λ_=>da _) λ_=>da _;have h1:=kO h1;unfold kJ at h1;cases hw:bV c.t.g (bE (c.ar[2]?.getD de))==0 with
 |false=>rw [hw,ε] at h1;exact absurd h1 (Q0 hw)
 |true=>
  rw [hw,δ] at h1;have h2:=fi.1 (kO hw);cases hb:decide ((c.ar[1]?.getD de).n<0)||(decide (999<(c.ar[1]?.getD de).n)||decide (c.t.ro≤(c.ar[1]?.getD de).n)) with
  |true=>rw [hb] at h1;cases h1
  |false=>
   simp only [lh,decide_eq_false_iff_not] at hb;have h3:=(okCo_0 mx n).enter (show du c00=true by decide) c.o.a (gZ c.im c.o.a) [c.ar[0]?.getD de] c.ma (show 1≤20 by decide) (λv hv=>by rw [aM.1 hv];exact h.ar 0) h.m;exact .fork (bE (c.ar[2]?.getD de)) (c.ar[1]?.getD de).n _ _ h2.1 h2.2 (h.ar 2) (by omega) (by omega) (h.co.push (h.ar 2)) h3
theorem FO (h:pU mx q n c s):fP mx q n c s (we c s):=by
 refine cz (λ_=>cz (λh0 b=>?_) λ_=>da _) λ_=>da _;have h1:=kO h0;dsimp only;unfold lz;rw [h0,δ];unfold dG at h1;split at h1
 ·cases h1
 ·split at h1
  ·cases h1
  ·split at h1
   ·rename_i h4;exact absurd h1 h4
   ·split at h1
    ·cases h1
    ·split at h1
     ·cases h1
     ·rename_i a1 a2 a3 a4 a5;have h2:=fi.1 (Classical.not_not.1 a3);have he:du c.t.c=true:=by simpa using a5
      have h3:=h.co.enter he c.o.a (gZ c.im c.o.a) [c.ar[0]?.getD de] c.ma (show 1≤20 by decide) (λv hv=>by rw [aM.1 hv];exact h.ar 0) h.m;exact .scope (bE (c.ar[3]?.getD de)) (c.ar[2]?.getD de).n (c.ar[1]?.getD de).n _ h2.1 h2.2 (h.ar 3) (by omega) (by omega) (by omega) (by omega) (h3.mono (cP _))
theorem Aw {F:Nat} {po:Int} (h:pU mx q n c s) (h0:0≤mx) (hF:(c.o.c,F,po)∈codeF) (hl:(c.ar.length:Int)=po):fP mx q n c s (jz c s):=by
 unfold jz;simp only [codeF,a8,bW,cY,or_false] at hF;rcases hF with h1 | h1 | h1 | h1 | h1 | h1 | h1 | h1 | h1 | h1 | h1 | h1 | h1 | h1 | h1 | h1 | h1 | h1 | h1 | h1<;>obtain ⟨e,_,rfl⟩:=h1<;>rw [e]
 ·exact M6 h
 ·exact M7 h
 ·exact FP h
 ·exact FQ h
 ·exact DS h h0 3 (.inl rfl)
 ·exact Ji h
 ·exact DS h h0 4 (.inr rfl)
 ·exact z6 h
 ·exact FN h (by omega)
 ·exact Jj h h0
 ·exact Jh h (by omega)
 ·exact M4 h (by omega)
 ·exact Jm h
 ·exact Jg h
 ·exact FO h
 ·exact M5 h
 ·exact Jn h
 ·exact Jl h
 ·exact Jk h
 ·exact FR h
end
theorem yG (n:Nat) (h:n<100) (r:List UInt8):jt (Lib.decDigits n++r) 0=jt r n:=by
 unfold Lib.decDigits
 by_cases h1:n<10
 ·rw [dif_pos h1];have:∀m:Nat,m<10→(UInt8.ofNat (48+m)==46)=false∧(UInt8.ofNat (48+m)).toNat - 48=m:=by decide
  obtain ⟨a,b⟩:=this n h1;show (bif UInt8.ofNat (48+n)==46 then _ else jt r (10*0+((UInt8.ofNat (48+n)).toNat - 48)))=_;rw [a,ε,b,Nat.mul_zero,bh]
 ·rw [dif_neg h1];unfold Lib.decDigits;rw [dif_pos (by omega)];have:∀m:Nat,m<10→(UInt8.ofNat (48+m)==46)=false∧(UInt8.ofNat (48+m)).toNat - 48=m:=by decide
  obtain ⟨a,b⟩:=this (n / 10) (by omega);obtain ⟨a',b'⟩:=this (n % 10) (by omega);show (bif UInt8.ofNat (48+n / 10)==46 then _ else (bif UInt8.ofNat (48+n % 10)==46 then _ else jt r (10*(10*0+((UInt8.ofNat (48+n / 10)).toNat - 48))+((UInt8.ofNat (48+n % 10)).toNat - 48))))=_;rw [a,ε,a',ε,b,b'];congr 1;omega
theorem Fv:∀(l:List Nat) (n:Nat),(∀x∈l,x<100)→jt (pX l) n=n :: l
 |[],n,_=>rfl
 |m :: r,n,h=>by
  show jt (46 :: Lib.decDigits m++pX r) n=_;show n :: jt (Lib.decDigits m++pX r) 0=_;rw [yG m (h m (by simp)),Fv r m λx hx=>h x (by simp [hx])]
theorem pV {l:List Nat} (h0:l≠[]) (h:∀x∈l,x<100):jt (cR l) 0=l:=by
 match l,h0 with
 |m :: r,_=>
  show jt (Lib.decDigits m++pX r) 0=_;rw [yG m (h m (by simp)),Fv r m λx hx=>h x (by simp [hx])]
structure pE (p:List Nat) (pa:List UInt8) (ma ro:Int):Prop where
  t:pa=cR p
  ne:p≠[]
  lt:∀x∈p,x<100
  m0:0≤ma
  r0:0≤ro
  mr:ma+ro≤15
  le:p.length+ro≤16
structure QJ (s:Sc):Prop where
  l:cI s.l
  g:jX s.g
  pa:∃p,pE p s.pa s.ma s.ro
  nm:∃p,s.nm=cR p∧gS p
structure gf (mx:Int) (n:Nat) (t:Th):Prop where
  co:eK mx n t.c
  g:jX t.g
  pa:∃p,pE p t.pa t.ma t.ro
  sc:∀s∈t.sc,QJ s
  sl:t.sc.length≤n
  v:cI (bE t.v)
section
variable {mx:Int} {q n:Nat} {im:Im} {t:Th} {s:b8} {now:Int}
theorem pE.un {p:List Nat} {pa:List UInt8} {ma ro:Int} (h:pE p pa ma ro):jt pa 0=p:=by rw [h.t];exact pV h.ne h.lt
theorem pE.kp {p:List Nat} (h:pE p t.pa t.ma t.ro):lI t=p ++ [t.ma.toNat]:=by unfold lI;rw [h.un]
theorem pE.nP {p:List Nat} (h:pE p t.pa t.ma t.ro) (hr:1≤t.ro):gS (lI t):=by
 rw [h.kp];have:=h.le;have:=h.mr;have:=h.m0;have:=h.r0;refine ⟨by simp,by rw [aL];show _+1≤_;omega,λx hx=>?_⟩;rcases aS.1 hx with h1 | h1
 ·exact h.lt x h1
 ·rw [aM.1 h1];omega
theorem pE.child {p:List Nat} (h:pE p t.pa t.ma t.ro) {ro:Int} (h0:0≤ro) (hr:ro<t.ro):pE (lI t) (cR (lI t)) 0 ro:=by
 have hg:=h.nP (by omega);have hk:=h.kp;have:=h.le;have:=h.mr;have:=h.m0;refine ⟨rfl,hg.1,hg.2.2,dT _,h0,by omega,?_⟩;rw [hk,aL];show ((p.length+1:Nat):Int)+ro≤16;omega
theorem pE.made {p:List Nat} {pa:List UInt8} {ma ro d:Int} (h:pE p pa ma ro) (hd:0≤d) (hr:d<ro):pE p pa (ma+1) (ro - 1 - d):=by
 have:=h.le;have:=h.mr;have:=h.m0;exact ⟨h.t,h.ne,h.lt,by omega,by omega,by omega,by omega⟩
theorem gf.T (hP:tT im) (h:gf mx n t) (hs:gN mx q n s) (hx:mx≤255) (hw:0≤now∧now<1000000000) (hn:n<50000000) (hq:q<90000000):Rg im t s now:=by
 obtain ⟨p,hp⟩:=h.pa;have hu:=hp.un;have:=hp.le;have:=hp.r0;have:=hp.mr;have:=hp.m0;exact {
  x:=h.co.x hP hx (by omega)
  n:=⟨by rw [hu];exact hp.t,by rw [hu];exact hp.ne,by rw [hu];omega,by rw [hu];exact hp.lt,hp.m0,by omega,by omega⟩
  g:=h.g
  gs:=⟨by have:=hs.nm;omega,λp hp=>⟨by have:=(hs.ns p hp).1;omega,(hs.ns p hp).2⟩⟩
  sc:=by have:=h.sl;omega
  w:=hw
  q:=λp hp=>by have:=(hs.th p hp).ql;omega }
def qp (t:Th) (s:b8) (v:Va) (ex:Bool):Bool×b8:=
 if (ei t v ex).st≠3∧(ei t v ex).st≠4 then (false,s) else
 match bI t.id s.th with
 |some (i,o)=>if o.k=6 then (true,jx s i t.id { o with v:=v,ex:=ex,dn:=true }) else (true,s)
 |none=>(true,s)
theorem MT (c:Ca) (s:b8) (v:Va) (ex:Bool):(oS c s v ex).1.t=ei c.t v ex∧(oS c s v ex).2=qp c.t s v ex:=by
 unfold oS qp;dsimp only
 by_cases h:(ei c.t v ex).st≠3∧(ei c.t v ex).st≠4
 ·rw [ζ h,ζ h];exact ⟨rfl,rfl⟩
 ·rw [η h,η h,show (ei c.t v ex).id=c.t.id from rfl];cases bI c.t.id s.th with
  |none=>exact ⟨rfl,rfl⟩
  |some p=>
   obtain ⟨i,o⟩:=p;dsimp only
   by_cases h6:o.k=6
   ·rw [ζ h6,ζ h6];exact ⟨rfl,rfl⟩
   ·rw [η h6,η h6];exact ⟨rfl,rfl⟩
inductive l7 (now mx:Int) (q n:Nat) (t:Th) (s:b8) (b:Option Nat):Rs→Prop where
  |idle:t.st≠0→l7 now mx q n t s b ⟨t,.no,false,s⟩
  |core (g:Gs) (k:Co):t.st=0→GStep t.g g→eK mx (n+2) k→l7 now mx q n t s b ⟨{ t with g:=g,c:=k },.no,false,s⟩
  |fin (g:Gs) (k:Co) (v:Va) (ex:Bool):t.st=0→GStep t.g g→eK mx (n+2) k→cI (bE v) →
      l7 now mx q n t s b ⟨ei { t with g:=g,c:=k } v ex,.no,(qp { t with g:=g,c:=k } s v ex).1,(qp { t with g:=g,c:=k } s v ex).2⟩
  |FM (k:Co) (ma:Int) (e:Fx) (t':Th) (s':b8):t.st=0→eK mx n k→0≤ma∧ma≤mx→jJ now mx q n { t with c:=k } ma s b e t' s'→l7 now mx q n t s b ⟨t',e,false,s'⟩
theorem si (c:Ca) (v:Va) (ex:Bool) (g:Gs) (k:Co) (b:Option Nat) (hc:c.t={ t with g:=g,c:=k }) (h0:t.st=0) (hg:GStep t.g g) (hk:eK mx (n+2) k) (hv:cI (bE v)):l7 now mx q n t s b (KY (oS c s v ex)):=by
 obtain ⟨e1,e2⟩:=MT c s v ex;have:KY (oS c s v ex)=⟨ei { t with g:=g,c:=k } v ex,.no,(qp { t with g:=g,c:=k } s v ex).1,(qp { t with g:=g,c:=k } s v ex).2⟩:=by
  unfold KY;rw [e1,e2,hc]
 rw [this];exact .fin g k v ex h0 hg hk hv
theorem Jc (hP:tT im) (h:gf mx n t) (hs:gN mx q n s) (h0:0≤mx) (hx:mx≤255) (hn:n<50000000) (b:Option Nat):l7 now mx q n t s b (Ff im t s now b):=by
  unfold Ff
  by_cases hst:t.st=0
  · rw [show (t.st != 0) = false by simp [hst], ε]
    have hr:=A6 (fr:=(bS t).fr) (tr:=(bS t).tr) hP h.co hx
    have hask:=vQ (fr:=(bS t).fr) (tr:=(bS t).tr) (h.co.x hP hx (by omega))
    generalize hr':eF im t.c (bS t).fr (bS t).tr=r at hr hask ⊢
    cases k1:r.2.k==1 with
    |true=>exact si _ _ _ t.g r.1 b rfl hst .same hr.c hr.v
    |false=>
      cases k2:r.2.k==2 with
      |true=>exact si _ _ _ t.g r.1 b rfl hst .same hr.c hr.v
      |false=>
        cases k3:r.2.k==3 with
        |false=>exact .core t.g r.1 hst .same hr.c
        |true=>
          rw [ε,ε,δ]
          obtain ⟨o,f,F,po,e,hf,hcf,hp,hpc⟩:=hask (by simpa using k3)
          rw [e]
          obtain ⟨⟨i,hi,hpi⟩,_⟩:=x4 hcf
          subst hpi
          unfold RO
          rw [show (ll im t now).t.c.fr.getLast? = some f from hf]
          dsimp only
          rw [hi]
          dsimp only
          have hfo:pF mx f:=h.co.f f (List.mem_of_getLast? hf)
          have hnx:=HN h.co hfo
          have hck:eK mx n { rk t.c i.po with fr:=b7 t.c.fr f }:=(h.co.pop i.po).b9 _ hnx.1 hnx.2
          have hd:=Aw (c:=jI (ll im t now) o f i.po) (q:=q) ⟨hck,h.g,h.co.lC _,hfo.m,hs⟩ h0 hcf (Da hp)
          generalize jz (jI (ll im t now) o f i.po) s=R at hd ⊢
          cases R with
          |ok e g=>exact .FM _ f.ma e _ _ hst hck hfo.m (hd b)
          |ex m c' s'=>
            obtain ⟨rfl,_,g,hg,hc⟩:=hd
            unfold OR.fin
            have hra:=h.co.raise m c'.tr
            unfold lB
            dsimp only
            rw [show (ll im t now).t.c=t.c from rfl]
            generalize raise t.c m c'.tr=r2 at hra ⊢
            have hc2:{ c'.t with c:=r2.1 }={ t with g:=g,c:=r2.1 }:=by rw [hc];rfl
            cases k4:r2.2.k==2 with
            |true=>exact si _ _ _ g r2.1 b hc2 hst hg (hra.c.mono (by omega)) hra.v
            |false=>
              rw [ε]
              unfold KY
              dsimp only
              rw [hc2]
              exact .core g r2.1 hst hg (hra.c.mono (by omega))
  · rw [show (t.st != 0)=true by simp [hst],δ]
    exact .idle hst
end
section
variable {mx:Int} {q n:Nat} {t:Th} {s:b8} {now:Int} {b:Option Nat}
theorem kY.mono {o:Ob} (h:kY mx q o):kY mx (q+1) o:=⟨h.l,h.v,h.w,h.qs,dI h.ql,h.m⟩
theorem gN.mono (h:gN mx q n s):gN mx (q+1) (n+1) s:=⟨dI h.nm,λp hp=>⟨dI (h.ns p hp).1,(h.ns p hp).2⟩,λp hp=>(h.th p hp).mono⟩
theorem gN.set (h:gN mx q n s) (i:Nat) (key:List UInt8) {o:Ob} (ho:kY mx (q+1) o):gN mx (q+1) (n+1) (jx s i key o):=by
 refine ⟨h.mono.nm,h.mono.ns,λp hp=>?_⟩;rcases fV hp with h1 | h1
 ·exact h.mono.th p h1
 ·rw [h1];exact ho
theorem Cq {α:Type} {f:α→α} {x:α}:∀{l:List α} {i:Nat},x∈l.modify i f→x∈l∨∃y∈l,x=f y
 |[],i,h=>by simp at h
 |a :: l,0,h=>by
  rw [List.modify_zero_cons] at h;rcases a8.1 h with h1 | h1
  ·exact .inr ⟨a,by simp,h1⟩
  ·exact .inl (by simp [h1])
 |a :: l,i+1,h=>by
  rw [List.modify_succ_cons] at h;rcases a8.1 h with h1 | h1
  ·exact .inl (by simp [h1])
  ·rcases Cq h1 with h2 | ⟨y,h2,h3⟩
   ·exact .inl (by simp [h2])
   ·exact .inr ⟨y,by simp [h2],h3⟩
theorem Hv (ns:List (List Nat)) (kp:List Nat):(uA ns kp).length=ns.length+1:=by
 unfold uA;rw [aL,aV,af,cE];omega
theorem qD {ns:List (List Nat)} {kp x:List Nat}:x∈uA ns kp↔x=kp∨x∈ns:=by
 unfold uA;rw [aS,a8];constructor
 ·rintro (h | h | h)
  ·exact .inr (dR h)
  ·exact .inl h
  ·exact .inr (dS h)
 ·rintro (h | h)
  ·exact .inr (.inl h)
  ·rw [←List.take_append_drop (ry ns kp) ns] at h;rcases aS.1 h with h1 | h1
   ·exact .inl h1
   ·exact .inr (.inr h1)
theorem gN.add (h:gN mx q n s) {kp:List Nat} {o:Ob} (hk:gS kp) (ho:kY mx (q+1) o) (b:Option Nat):gN mx (q+1) (n+1) (iE s kp o b):=by
 unfold iE;cases kf o.l&&(bI (cR kp) s.th).isNone with
 |false=>exact h.mono
 |true=>
  rw [δ];unfold qP;have hth:∀p∈s.th ++ [(cR kp,o)],kY mx (q+1) p.2:=λp hp=>by
   rcases aS.1 hp with h1 | h1
   ·exact h.mono.th p h1
   ·rw [aM.1 h1];exact ho
  unfold qR;cases ru o.l s.nm with
  |none=>
   refine ⟨?_,λp hp=>?_,hth⟩
   ·show (s.nm++_).length≤_;rw [aL];exact qT h.nm
   ·rcases aS.1 hp with h1 | h1
    ·exact h.mono.ns p h1
    ·rw [aM.1 h1];exact ⟨qT (ah _),λx hx=>by rw [aM.1 hx];exact hk⟩
  |some i=>
   refine ⟨?_,λp hp=>?_,hth⟩
   ·show (s.nm.modify i _).length≤_;rw [List.length_modify];exact h.mono.nm
   ·rcases Cq hp with h1 | ⟨y,h1,rfl⟩
    ·exact h.mono.ns p h1
    ·refine ⟨by rw [Hv];exact qT (h.ns y h1).1,λx hx=>?_⟩;rcases qD.1 hx with h2 | h2
     ·rw [h2];exact hk
     ·exact (h.ns y h1).2 x h2
theorem ND.sm {g h:Gs} {ma:Int} {x:En} (H:ND g ma x h) (hg:jX g):jX h:=by
 rcases H.2 with ⟨_,rfl,_⟩ | ⟨_,rfl,_⟩
 ·exact And.intro (lu _) hg.2
 ·exact And.intro hg.1 (lu _)
theorem jJ.keep {ma:Int} {e:Fx} {t':Th} {s':b8} (ht:gf mx n t) (hs:gN mx q n s) (h0:0≤mx) (D:jJ now mx q n t ma s b e t' s'):gf mx (n+1) t'∧gN mx (q+1) (n+1) s':=by
 obtain ⟨p,hp⟩:=ht.pa;have hl:=dI ht.sl;cases D with
 |go g k st on hg hk _=>exact ⟨⟨hk,hg.sm ht.g,⟨p,hp⟩,ht.sc,hl,ht.v⟩,hs.mono⟩
 |log x g hg _=>exact ⟨⟨ht.co.mono (cP _),hg.sm ht.g,⟨p,hp⟩,ht.sc,hl,ht.v⟩,hs.mono⟩
 |out x _ _ _ _=>exact ⟨⟨ht.co.mono (cP _),ht.g,⟨p,hp⟩,ht.sc,hl,ht.v⟩,hs.mono⟩
 |set e g i nm o w k st on _ _ _ _ hw _ _ hg hk _ _=>
  refine ⟨⟨hk,?_,⟨p,hp⟩,ht.sc,hl,ht.v⟩,hs.set i nm hw⟩;rcases hg with rfl | rfl
  ·exact ht.g
  ·exact And.intro (lu _) ht.g.2
 |make o k _ _ hr _ ho hk=>
  have h1:=hp.made (d:=0) (dT _) (by omega);rw [Int.sub_zero] at h1;exact ⟨⟨hk,ht.g,⟨p,h1⟩,ht.sc,hl,ht.v⟩,hs.add (hp.nP hr) ho.mono b⟩
 |fork l ro k d _ _ hl2 hr0 hr hk _=>
  exact ⟨⟨hk,ht.g,⟨p,hp.made hr0 hr⟩,ht.sc,hl,ht.v⟩,hs.add (hp.nP (by omega)) (Cd mx (q+1) 6 hl2 oT 0 ⟨dT _,h0⟩) b⟩
 |scope l tk ro k _ _ hl2 hr0 hr _ _ hk=>
  refine ⟨⟨hk,And.intro ht.g.1 (lu _),⟨_,hp.child hr0 hr⟩,λx hx=>?_,?_,ht.v⟩,hs.mono⟩
  ·rcases aS.1 hx with h1 | h1
   ·exact ht.sc x h1
   ·rw [aM.1 h1];exact ⟨lu _,ht.g,⟨p,hp.made hr0 hr⟩,⟨_,rfl,hp.nP (by omega)⟩⟩
  ·show (t.sc++_).length≤_;rw [aL];exact qT ht.sl
theorem gf.fin (ht:gf mx n t) {v:Va} (hv:cI (bE v)) (ex:Bool):gf mx n (ei t v ex):=⟨ht.co,ht.g,ht.pa,ht.sc,ht.sl,hv⟩
theorem gN.fin (hs:gN mx q n s) {v:Va} (hv:cI (bE v)) (ex:Bool):gN mx (q+1) (n+1) (qp t s v ex).2:=by
 unfold qp;split
 ·exact hs.mono
 ·cases hl:bI t.id s.th with
  |none=>exact hs.mono
  |some p=>
   obtain ⟨i,o⟩:=p;dsimp only;split
   ·obtain ⟨p,hp,rfl⟩:=kD hl;have ho:=hs.th p hp;exact hs.set i t.id ⟨ho.l,hv,ho.w,ho.qs,dI ho.ql,ho.m⟩
   ·exact hs.mono
theorem gf.mono (ht:gf mx n t) {m:Nat} (h:n≤m):gf mx m t:=⟨ht.co.mono h,ht.g,ht.pa,ht.sc,aZ ht.sl h,ht.v⟩
theorem gf.core (ht:gf mx n t) {g:Gs} {k:Co} {m:Nat} (hg:GStep t.g g) (hk:eK mx m k) (h:n≤m):gf mx m { t with g:=g,c:=k }:=⟨hk,hg.sm ht.g,ht.pa,ht.sc,aZ ht.sl h,ht.v⟩
theorem l7.keep {r:Rs} (ht:gf mx n t) (hs:gN mx q n s) (h0:0≤mx) (T:l7 now mx q n t s b r):gf mx (n+2) r.t∧gN mx (q+1) (n+1) r.s:=by
 cases T with
 |idle _=>exact ⟨ht.mono (by omega),hs.mono⟩
 |core g k _ hg hk=>exact ⟨ht.core hg hk (by omega),hs.mono⟩
 |fin g k v ex _ hg hk hv=>exact ⟨(ht.core hg hk (by omega)).fin hv ex,hs.fin hv ex⟩
 |FM k ma e t' s' _ hk _ D=>
  have:=jJ.keep (t:={ t with c:=k }) ⟨hk,ht.g,ht.pa,ht.sc,ht.sl,ht.v⟩ hs h0 D;exact ⟨this.1.mono (by omega),this.2⟩
theorem Bv (ht:gf mx n t) (k:Nat):cI (bE (jS t k).1):=by
 unfold jS;cases !(t.st==2) || !((k:Int)==(t.sc.length:Int) - 1) with
 |true=>exact gw _
 |false=>
  rw [ε];cases !ao t.g.cur ((t.sc[k]?).getD HP).l with
  |true=>exact gw _
  |false=>exact ht.v
theorem QJ.SM {x:Sc} (h:QJ x):N5 x:=by
 obtain ⟨p,e,hg⟩:=h.nm;have:LH x=p:=by unfold LH;rw [e];exact pV hg.1 hg.2.2
 exact ⟨by rw [this];exact e,by rw [this];exact hg,h.l⟩
theorem kE (ht:gf mx n t) (hs:gN mx q n s) (h0:0≤mx) (b:Option Nat):gf mx (n+1) (dB t s now b).1∧gN mx (q+1) (n+1) (dB t s now b).2:=by
 unfold dB;cases hi:t.sc[jF now t.sc]? with
 |none=>exact ⟨ht.mono (cP _),hs.mono⟩
 |some x=>
  have hx:=ht.sc x (aH hi);have hg:=hx.SM;refine ⟨⟨(ht.co.cut _ _ _).push hx.l,hx.g,hx.pa,λy hy=>ht.sc y (dR hy),?_,oT⟩,hs.add hg.g ?_ b⟩
  ·show (t.sc.take _).length≤_;have:=ht.sl;rw [af];omega
  ·exact ⟨hx.l,Bv ht _,oT,λx hx=>(by cases hx),ah _,dT _,h0⟩
def nD (im:Im) (now:Int) (b b':Option Nat) (t:Th) (s:b8):Rs:=Ff im (dB t s now b).1 (dB t s now b).2 now b'
theorem ot {im:Im} (hP:tT im) (ht:gf mx n t) (hs:gN mx q n s) (h0:0≤mx) (hx:mx≤255) (hn:n<40000000) (b b':Option Nat) :
  l7 now mx (q+1) (n+1) (dB t s now b).1 (dB t s now b).2 b' (nD im now b b' t s):=
 have h:=kE ht hs h0 b
 Jc hP h.1 h.2 h0 hx (by omega) b'
end
section
variable {mx:Int} {q n:Nat} {t:Th} {s:b8} {now:Int} {b:Option Nat}
theorem yx {key nm:List UInt8} {o p:Ob}:∀{l:List (List UInt8×Ob)} {i:Nat},bI nm l=some (i,o)→bI key (l.set i (nm,p))=if key=nm then some (i,p) else bI key l
 |[],i,h=>by cases h
 |x :: l,i,h=>by
  have h':(if nm=x.1 then some (0,x.2) else (bI nm l).map λx=>(x.1+1,x.2))=some (i,o):=h
  by_cases hk:nm=x.1
  ·rw [ζ hk,aE,bW] at h';obtain ⟨rfl,_⟩:=h';show (if key=nm then some (0,p) else (bI key l).map λx=>(x.1+1,x.2))=_
   by_cases hn:key=nm
   ·rw [ζ hn,ζ hn]
   ·rw [η hn,η hn];show _=if key=x.1 then some (0,x.2) else _;rw [η (by rw [←hk];exact hn)]
  ·rw [η hk] at h';cases hl:bI nm l with
   |none=>rw [hl] at h';cases h'
   |some y=>
    obtain ⟨j,o'⟩:=y;rw [hl] at h';simp only [bA,aE,bW] at h';obtain ⟨rfl,rfl⟩:=h';show (if key=x.1 then some (0,x.2) else (bI key (l.set j (nm,p))).map λx=>(x.1+1,x.2))=_;rw [yx hl];show _=if key=nm then some (j+1,p) else if key=x.1 then some (0,x.2) else (bI key l).map λx=>(x.1+1,x.2)
    by_cases hn:key=nm
    ·rw [ζ hn,ζ hn,η (by rw [hn];exact hk)];rfl
    ·rw [η hn,η hn]
theorem oW {key nm:List UInt8} {o p:Ob} {l:List (List UInt8×Ob)} {i:Nat} (h:bI nm l=some (i,o)) (hk:key≠nm):bI key (l.set i (nm,p))=bI key l:=by rw [yx h,η hk]
def Gu (t:Th):Bool:=(t.st==3)||(t.st==4)
end
end Go.Proofs.YtjpgfgajkjhonaaGreatDoor