/- Labels, as they are meant: of what a formula holds, and what flows where. Conditions: none. -/
import Derived.Test.YtjpgfgajkjhonaaGreatDoorQFAV
import Derived.Test.YtjpgfgajkjhonaaGreatDoorQFBE
namespace Go.Proofs.YtjpgfgajkjhonaaGreatDoor
open Go.Vx
set_option maxRecDepth 100000
theorem E3 {a b:UInt8} (h:∀i,i<8→a.toBitVec.getLsbD i=b.toBitVec.getLsbD i):a=b:=
 UInt8.toBitVec_inj.1 (BitVec.eq_of_getLsbD_eq λi hi=>h i hi)
theorem vI {a:UInt8}:a=0↔∀i,i<8→a.toBitVec.getLsbD i=false:=by
 constructor
 ·intro h i _;rw [h];simp
 ·intro h;exact E3 λi hi=>by rw [h i hi];simp
theorem Bq (c b:UInt8):yA c.toNat b.toNat=true↔∀i,i<8→c.toBitVec.getLsbD i=true→b.toBitVec.getLsbD i=true:=by
 unfold yA;rw [EA,beq_iff_eq];have:((c &&& ~~~b).toNat:Int)=0↔c &&& ~~~b=0:=by
  rw [←UInt8.toNat_inj];simp
 rw [this,vI];constructor
 ·intro h i hi hc;have:=h i hi;simp [hc,hi] at this;exact this
 ·intro h i hi;have:=h i hi;simp only [jP,UInt8.toBitVec_not,fJ,BitVec.getLsbD_not,hi,decide_true,oW];cases hc:c.toBitVec.getLsbD i with
  |true=>simp [this hc]
  |false=>rfl
theorem GS (b:UInt8):yA b.toNat b.toNat=true:=(Bq b b).2 λ_ _ h=>h
theorem AF {c b x:UInt8} (h:yA c.toNat b.toNat=true) (hx:(c &&& x==0)=false):(b &&& x==0)=false:=by
 rw [beq_eq_false_iff_ne] at hx ⊢;intro hb;apply hx;rw [vI] at hb ⊢;intro i hi;have h1:=(Bq c b).1 h i hi;have h2:=hb i hi;simp only [jP,fJ] at h2 ⊢;cases hc:c.toBitVec.getLsbD i with
 |true=>rw [h1 hc] at h2;simpa using h2
 |false=>rfl
theorem yB {l:List UInt8} {n:Nat}:mB l n=true↔∃b∈l,b.toNat=n:=by
 unfold mB;rw [p6];simp
theorem oK {l:List UInt8}:∀{k:Nat} {n:Int},n∈ep l k→∃m,m<k∧n=(m:Int)∧mB l m=true
 |0,n,h=>by simp [ep] at h
 |k+1,n,h=>by
  rw [i_] at h;unfold iZ at h;cases hb:mB l k && !(oneOf k (ep l k)) with
  |false=>
   rw [hb,cond_false] at h;obtain ⟨m,h1,h2,h3⟩:=oK h;exact ⟨m,by omega,h2,h3⟩
  |true=>
   rw [hb,cond_true,aR,aP] at h;rcases h with h | h
   ·obtain ⟨m,h1,h2,h3⟩:=oK h;exact ⟨m,by omega,h2,h3⟩
   ·exact ⟨k,by omega,h,by simp at hb;exact hb.1⟩
theorem pJ {l:List UInt8}:∀{k:Nat} {m:Nat},k≤256→m<k→mB l m=true→∃n∈ep l k,yA n m=true
 |0,m,_,hm,_=>absurd hm (Nat.not_lt_zero _)
 |k+1,m,hk,hm,h=>by
  rw [i_];unfold iZ
  by_cases hmk:m=k
  ·subst hmk;rw [h,oW];cases ho:oneOf m (ep l m) with
   |true=>
    rw [Bool.not_true,cond_false];unfold oneOf at ho;obtain ⟨x,hx,hx2⟩:=p6.1 ho;exact ⟨x,hx,hx2⟩
   |false=>
    rw [Bool.not_false,cond_true];refine ⟨(m:Int),by simp,?_⟩;have:=GS (UInt8.ofNat m);rw [gL,cT (by omega)] at this;exact this
  ·obtain ⟨n,hn,h2⟩:=pJ (k:=k) (m:=m) (by omega) (by omega) h;cases mB l k && !(oneOf k (ep l k))
   ·exact ⟨n,hn,h2⟩
   ·exact ⟨n,by rw [cond_true,aR];exact .inl hn,h2⟩
theorem uf {l:List UInt8} {c:UInt8} (h:c∈least l):c∈l:=by
 unfold least at h;obtain ⟨n,hn,rfl⟩:=bL.1 h;obtain ⟨m,h1,rfl,h3⟩:=oK hn;obtain ⟨b,hb,rfl⟩:=yB.1 h3;simpa using hb
theorem xq {l:List UInt8} {b:UInt8} (h:b∈l):∃c∈least l,yA c.toNat b.toNat=true:=by
 have hb:=b.toNat_lt;obtain ⟨n,hn,h2⟩:=pJ (l:=l) (k:=256) (m:=b.toNat) (aQ _) hb (yB.2 ⟨b,h,rfl⟩);have h3:=ug l 256 (aQ _) n hn;refine ⟨UInt8.ofNat n.toNat,bL.2 ⟨n,hn,rfl⟩,?_⟩;rw [gL,cT (by omega),show ((n.toNat:Nat):Int)=n by omega];exact h2
theorem jo {l:List UInt8} {x:UInt8}:gK l x=true↔∀b∈l,(b &&& x==0)=false:=by
 unfold gK;rw [aT];simp
theorem xp (l:List UInt8) (x:UInt8):gK (least l) x=gK l x:=by
 rw [e7,jo,jo];constructor
 ·intro h b hb;obtain ⟨c,hc,h2⟩:=xq hb;exact AF h2 (h c hc)
 ·intro h c hc;exact h c (uf hc)
theorem vw {l:List UInt8} (h:∀b∈l,b &&& 63=b):lp l=l:=by
 unfold lp
 induction l with
 |nil=>rfl
 |cons b r ih=>rw [cN,h b (by simp),ih λx hx=>h x (by simp [hx])]
theorem pG {l:List UInt8} {b:UInt8} (h:b∈eK l):b &&& 63=b:=by
 have:=uf h;unfold lp at this;obtain ⟨c,_,rfl⟩:=bL.1 this;rw [UInt8.and_assoc,UInt8.and_self]
def xS (l:List UInt8) (x:Nat):Bool:=jn (eK l) x
theorem vX (l:List UInt8) (x:Nat):xS l x=gK (lp l) (UInt8.ofNat x):=xp _ _
theorem o8 (l:List UInt8) (x:Nat):xS (eK l) x=xS l x:=by
 rw [vX,vw λb hb=>pG hb];rfl
theorem JU (a b:List UInt8) (x:Nat):xS (oT a b) x=(xS a x&&xS b x):=by
 unfold oT;rw [o8,vX,vw]
 ·unfold gK xS jn gK;rw [List.all_append]
 ·intro c hc;rcases aR.1 hc with h | h<;>exact pG h
theorem x7 (c d x:UInt8):((c ||| d) &&& x==0)=((c &&& x==0)&&(d &&& x==0)):=by
 rw [e7,aS,beq_iff_eq,beq_iff_eq,beq_iff_eq];simp only [vI];constructor
 ·intro h;constructor<;>intro i hi<;>have:=h i hi<;>simp only [jP,UInt8.toBitVec_or,fJ,BitVec.getLsbD_or] at this ⊢<;>revert this <;>
   cases c.toBitVec.getLsbD i<;>cases d.toBitVec.getLsbD i<;>cases x.toBitVec.getLsbD i<;>simp
 ·intro ⟨h1,h2⟩ i hi;have h1:=h1 i hi;have h2:=h2 i hi;simp only [jP,UInt8.toBitVec_or,fJ,BitVec.getLsbD_or] at h1 h2 ⊢
  revert h1 h2
  cases c.toBitVec.getLsbD i<;>cases d.toBitVec.getLsbD i<;>cases x.toBitVec.getLsbD i<;>simp
theorem Ma (a b:List UInt8) (x:Nat):xS (He a b) x=(xS a x||xS b x):=by
 unfold He;rw [o8,vX,vw]
 ·show gK _ _=(gK _ _||gK _ _);rw [e7,cJ,jo,jo,jo];unfold gJ;constructor
  ·intro h
   by_cases ha:∀c∈eK a,(c &&& UInt8.ofNat x==0)=false
   ·exact .inl ha
   ·refine .inr λd hd=>?_;simp only [Classical.not_forall] at ha;obtain ⟨c,hc,h2⟩:=ha;have h3:=h (c ||| d) (aO.2 ⟨c,hc,bL.2 ⟨d,hd,rfl⟩⟩);rw [x7] at h3
    revert h2 h3
    cases (c &&& UInt8.ofNat x==0)<;>simp
  ·rintro (h | h) e he
   all_goals
    obtain ⟨c,hc,he⟩:=aO.1 he;obtain ⟨d,hd,rfl⟩:=bL.1 he;rw [x7]
    first
     |rw [h c hc];rfl
     |rw [h d hd,Bool.and_false]
 ·intro e he;unfold gJ at he;obtain ⟨c,hc,he⟩:=aO.1 he;obtain ⟨d,hd,rfl⟩:=bL.1 he;have h1:=pG hc;have h2:=pG hd;have:(c ||| d) &&& 63=(c &&& 63) ||| (d &&& 63):=by
   refine E3 λi _=>?_;simp only [jP,UInt8.toBitVec_or,fJ,BitVec.getLsbD_or];cases c.toBitVec.getLsbD i<;>cases d.toBitVec.getLsbD i<;>simp
  rw [this,h1,h2]
theorem pf (l:List UInt8):∀k,k≤64→∃T:Nat,zC l k=(T:Int)∧T<2 ^ 64∧∀j,T.testBit j=(decide (j<k)&&jn l j)
 |0,_=>⟨0,rfl,by decide,λj=>by simp⟩
 |k+1,hk=>by
  obtain ⟨T,h1,h2,h3⟩:=pf l k (by omega);rw [uQ];cases hb:jn l k with
  |false=>
   rw [cond_false];refine ⟨T,h1,h2,λj=>?_⟩;rw [h3 j]
   by_cases hj:j=k
   ·subst hj;simp [hb]
   ·have:decide (j<k)=decide (j<k+1):=by rw [decide_eq_decide];omega
    rw [this]
  |true=>
   rw [cond_true];have hpw:(2:Nat) ^ k<2 ^ 64:=Nat.pow_lt_pow_right (by decide) (by omega);have hs:zQ .shl .u64 1 k=((2 ^ k:Nat):Int):=by
    show IntKind.u64.wrap (1*2 ^ min ((k:Int)).toNat 64)=_;rw [show min ((k:Int)).toNat 64=k by omega];show ((1*2 ^ k:Int)) % 18446744073709551616=_;have:(1*2 ^ k:Int)=((2 ^ k:Nat):Int):=by simp
    rw [this];generalize (2:Nat) ^ k=p at hpw;omega
   have ho:∀a b:Nat,a<2 ^ 64→b<2 ^ 64→ir .or .u64 (a:Int) (b:Int)=((a ||| b:Nat):Int):=by
    intro a b ha hb;show ((((BitVec.ofInt 64 (a:Int) ||| BitVec.ofInt 64 (b:Int)).toNat:Nat):Int)) % 18446744073709551616=_;have hlt:=Nat.or_lt_two_pow ha hb;simp only [lH,BitVec.toNat_or,BitVec.toNat_ofNat,cT ha,cT hb];omega
   rw [h1,hs,ho T _ h2 hpw];refine ⟨T ||| 2 ^ k,rfl,Nat.or_lt_two_pow h2 hpw,λj=>?_⟩;rw [Nat.testBit_or,h3 j,Nat.testBit_two_pow]
   by_cases hj:j=k
   ·subst hj;simp [hb]
   ·have h4:decide (j<k)=decide (j<k+1):=by rw [decide_eq_decide];omega
    rw [h4,show decide (k=j)=false by simp;omega,Bool.or_false]
theorem pN (a b:List UInt8):iA a b=true↔∀x,x<64→xS a x=true→xS b x=true:=by
 obtain ⟨S,a1,a2,a3⟩:=pf (eK a) 64 (aQ _);obtain ⟨T,b1,b2,b3⟩:=pf (eK b) 64 (aQ _);unfold iA rX;rw [a1,b1,beq_iff_eq];have e:ir .andNot .u64 (S:Int) (T:Int)=0↔(BitVec.ofNat 64 S &&& ~~~BitVec.ofNat 64 T)=0#64:=by
  show ((((BitVec.ofInt 64 (S:Int) &&& ~~~BitVec.ofInt 64 (T:Int)).toNat:Nat):Int)) % 18446744073709551616=0↔_;rw [lH,lH];generalize BitVec.ofNat 64 S &&& ~~~BitVec.ofNat 64 T=w;have:=w.isLt;rw [←BitVec.toNat_inj];simp only [BitVec.toNat_ofNat];omega
 rw [e];constructor
 ·intro h x hx hs;have h1:(BitVec.ofNat 64 S &&& ~~~BitVec.ofNat 64 T).getLsbD x=false:=by rw [h];simp
  simp only [fJ,BitVec.getLsbD_not,BitVec.getLsbD_ofNat,hx,decide_true,oW,a3 x,b3 x] at h1;have hs:jn (eK a) x=true:=hs;rw [hs] at h1;show jn (eK b) x=true;simpa using h1
 ·intro h;refine BitVec.eq_of_getLsbD_eq λi hi=>?_;have h1:=h i hi;unfold xS at h1;simp only [fJ,BitVec.getLsbD_not,BitVec.getLsbD_ofNat,hi,decide_true,oW,a3 i,b3 i];cases hs:jn (eK a) i with
  |false=>simp
  |true=>rw [h1 hs];simp
theorem ic (l m:Lb):bA l m=true↔(∀x,x<64→xS m.s x=true→xS l.s x=true)∧∀x,x<64→xS l.i x=true→xS m.i x=true:=by
 unfold bA;rw [aS,pN,pN]
theorem fP (l:Lb):bA l l=true:=(ic _ _).2 ⟨λ_ _ h=>h,λ_ _ h=>h⟩
theorem me {l m n:Lb} (h1:bA l m=true) (h2:bA m n=true):bA l n=true:=by
 rw [ic] at h1 h2 ⊢;exact ⟨λx hx h=>h1.1 x hx (h2.1 x hx h),λx hx h=>h2.2 x hx (h1.2 x hx h)⟩
theorem l5 {l m:Lb}:bA l (eC m)=bA l m:=by
 rw [e7,ic,ic];unfold eC;simp only [o8]
theorem l6 {l m:Lb}:bA (eC l) m=bA l m:=by
 rw [e7,ic,ic];unfold eC;simp only [o8]
theorem pT (l m:Lb):bA l (dR l m)=true:=by
 rw [ic];unfold dR;simp only [JU,Ma];exact ⟨λx _ h=>by simp at h;exact h.1,λx _ h=>by simp [h]⟩
theorem vR (l m:Lb):cO (dR l m):=by
 simp only [cO,dR,oT,He];exact And.intro (ft _) (ft _)
theorem JS (l m:Lb):cO (mV l m):=by
 simp only [cO,mV,oT,He];exact And.intro (ft _) (ft _)
theorem lL (l:Lb):cO (eC l):=by
 unfold cO eC;exact And.intro (ft _) (ft _)
end Go.Proofs.YtjpgfgajkjhonaaGreatDoor
namespace Go.Proofs.YtjpgfgajkjhonaaGreatDoor
open Go.Vx
set_option maxRecDepth 100000
theorem lM:cO ⟨[],[]⟩:=⟨aj _,aj _⟩
theorem ga (n:Int):cO (bD (num n)):=lM
theorem kJ:cO (bD zeroV):=lM
theorem n5:cO (bD dT):=lM
structure oI (mx:Int) (f:Fr):Prop where
  m:0≤f.ma∧f.ma≤mx
  v:f.vars.length≤40
  s:∀v∈f.vars,cO (bD v)
structure d_ (mx:Int) (n:Nat) (c:Co):Prop where
  fr:c.fr.length≤16
  f:∀f∈c.fr,oI mx f
  st:c.st.length≤n
  s:∀v∈c.st,cO (bD v)
  tr:c.tr.length≤n
structure tw (im:Im):Prop where
  hI:DI im
  ar:∀g∈im.fs,g.args≤10
  cd:∀g∈im.fs,g.code.length<1000000000
  dm:∀g∈im.fs,∀o∈g.code,o.c≠24∧o.c≠31
  cs:∀v∈im.cs,cO (bD v)
section
variable {mx:Int} {n:Nat} {c:Co}
theorem mU {α:Type} {l:List α} {k:Int} {x:α} (h:x∈gn l k):x∈l:=eR h
theorem nR {α:Type} (l:List α) (k:Int):(gn l k).length≤l.length:=by
 unfold gn;rw [ah];omega
theorem d_.mono {m:Nat} (h:d_ mx n c) (hm:n≤m):d_ mx m c:=⟨h.fr,h.f,aY h.st hm,h.s,aY h.tr hm⟩
theorem d_.cut (h:d_ mx n c) (f k t:Int):d_ mx n (Du c f k t):=
 ⟨aY (nR _ _) h.fr,λx hx=>h.f x (mU hx),aY (nR _ _) h.st,λx hx=>h.s x (mU hx),aY (nR _ _) h.tr⟩
theorem d_.lay (h:d_ mx n c) (l:List Va) (hl:∀v∈l,cO (bD v)):d_ mx (n+l.length) ⟨c.fr,c.st++l,c.tr⟩:=
 ⟨h.fr,h.f,by have:=h.st;show (c.st++l).length≤_;rw [aL];omega,λx hx=>(aR.1 hx).elim (h.s x) (hl x),aY h.tr (Nat.le_add_right _ _)⟩
theorem d_.push (h:d_ mx n c) {v:Va} (hv:cO (bD v)):d_ mx (n+1) (jS c v):=h.lay [v] λx hx=>by rw [aP.1 hx];exact hv
theorem d_.pop (h:d_ mx n c) (k:Int):d_ mx n (qf c k):=⟨h.fr,h.f,aY (nR _ _) h.st,λx hx=>h.s x (mU hx),h.tr⟩
theorem d_.kX (h:d_ mx n c) (k:Int):∀v∈kX c k,cO (bD v):=λv hv=>h.s v (dq hv)
theorem d_.get (h:d_ mx n c) (k:Int) (i:Nat):cO (bD (((Go.Proofs.YtjpgfgajkjhonaaGreatDoor.kX c k)[i]?).getD zeroV)):=by
 cases hi:(Go.Proofs.YtjpgfgajkjhonaaGreatDoor.kX c k)[i]? with
 |none=>exact lM
 |some v=>exact h.kX k v (aH hi)
theorem d_.bY (h:d_ mx n c) (l:List Fr) (h1:l.length≤16) (h2:∀f∈l,oI mx f):d_ mx n ⟨l,c.st,c.tr⟩:=⟨h1,h2,h.st,h.s,h.tr⟩
theorem oI.at {f g:Fr} (h:oI mx f) (h1:g.vars=f.vars) (h2:g.ma=f.ma):oI mx g:=⟨by rw [h2];exact h.m,by rw [h1];exact h.v,by rw [h1];exact h.s⟩
theorem vW {P:Fr→Prop} {l:List Fr} (h:∀f∈l,P f) (i:Nat) {g:Fr} (hg:P g):∀f∈l.set i g,P f:=λf hf=>by
 rcases List.mem_or_eq_of_mem_set hf with h1 | h1
 ·exact h f h1
 ·rw [h1];exact hg
theorem F9 {f:Fr} (h:d_ mx n c) (hf:oI mx f):(bW c.fr f).length≤16∧∀g∈bW c.fr f,oI mx g:=by
 unfold bW;exact ⟨by rw [gW];exact h.fr,vW h.f _ (hf.at rfl rfl)⟩
theorem KD {f:Fr} {l:List Fr} (h:l.length≤16∧∀g∈l,oI mx g) (hf:oI mx f):(ei l f).length≤16∧∀g∈ei l f,oI mx g:=by
 unfold ei;exact ⟨by rw [gW];exact h.1,vW h.2 _ hf⟩
theorem Em {l:List Fr} (i:Nat) (pc:Int) (h:l.length≤16∧∀g∈l,oI mx g):(uV l i pc).length≤16∧∀g∈uV l i pc,oI mx g:=by
 unfold uV;cases hi:l[i]? with
 |none=>exact h
 |some f=>exact ⟨by rw [gW];exact h.1,vW h.2 _ ((h.2 f (aH hi)).at rfl rfl)⟩
theorem d_.throw (h:d_ mx n c) (t:Tr) (code:Int):d_ mx (n+1) (rW c t code):=by
 have h1:=h.cut t.f t.h (c.tr.length - 1);obtain ⟨a,b⟩:=Em (t.f - 1).toNat t.a ⟨h1.fr,h1.f⟩;exact (h1.bY _ a b).push (ga code)
structure ee (mx:Int) (n:Nat) (r:Co×Ou):Prop where
  c:d_ mx n r.1
  v:cO (bD r.2.v)
theorem d_.raise (h:d_ mx n c) (code kp:Int):ee mx (n+1) (raise c code kp):=by
 unfold Go.Proofs.YtjpgfgajkjhonaaGreatDoor.raise mI;cases decide ((c.tr.length:Int) - 1<max kp 0) with
 |true=>exact ⟨h.mono (cL _),ga _⟩
 |false=>
  rw [cond_false];cases c.tr.getLast? with
  |none=>exact ⟨h.mono (cL _),ga _⟩
  |some t=>
   dsimp only;cases qO c t with
   |true=>exact ⟨h.throw t code,kJ⟩
   |false=>exact ⟨h.mono (cL _),ga _⟩
theorem d_.enter (h:d_ mx n c) (he:da c=true) (fn vs:Int) (l:List Va) (ma:Int) (hl:l.length≤20) (hs:∀v∈l,cO (bD v)) (hm:0≤ma∧ma≤mx):d_ mx n (f_ c fn vs l ma):=by
  have h16:c.fr.length<16:=of_decide_eq_true he
  refine h.bY _ (by rw [aL];exact h16) λf hf=>?_
  rcases aR.1 hf with h1 | h1
  · exact h.f f h1
  · rw [aP.1 h1]
    refine ⟨hm,?_,λv hv=>?_⟩
    · show (l++qM (min (max vs 0) 16).toNat).length≤40
      unfold qM
      rw [aL,List.length_replicate]
      omega
    · rcases aR.1 hv with h2 | h2
      · exact hs v h2
      · unfold qM at h2
        rw [(List.mem_replicate.1 h2).2]
        exact ga 0
theorem ee.bif {b:Bool} {x y:Co×Ou} (hx:ee mx n x) (hy:b=false→ee mx n y):ee mx n (bif b then x else y):=by
 cases b
 ·exact hy rfl
 ·exact hx
theorem ee.UI {b:Bool} {x y:Co×Ou} (hx:b=true→ee mx n x) (hy:b=false→ee mx n y):ee mx n (bif b then x else y):=by
 cases b
 ·exact hy rfl
 ·exact hx rfl
theorem LP {l:Lb} (h:cO l):cO (bD (qV l)):=h
theorem J_ {a ma:Int} (h:0≤ma∧ma≤mx) (hx:mx≤255):0≤xo a ma∧xo a ma≤mx:=by
 unfold xo;obtain ⟨x,hx'⟩:∃x:UInt8,ma=(x.toNat:Int):=⟨UInt8.ofNat ma.toNat,by rw [gL,cT (by omega)];omega⟩
 obtain ⟨y,hy⟩:∃y:UInt8,IntKind.u8.wrap (ir .and .i64 a 255)=(y.toNat:Int):=by
  have:∀z:Int,∃y:UInt8,IntKind.u8.wrap z=(y.toNat:Int):=λz=>by
   refine ⟨UInt8.ofNat (z % 256).toNat,?_⟩;rw [gL];show z % 256=_;omega
  exact this _
 rw [hx',hy,w8];have:(x &&& y).toNat≤x.toNat:=by rw [UInt8.toNat_and];exact Nat.and_le_left
 omega
end
section
variable {mx:Int} {n:Nat} {c:Co} {im:Im}
theorem zF {fr tr:Int} (hP:tw im) (h:d_ mx n c) (hx:mx≤255):ee mx (n+2) (du im c fr tr):=by
 have h1:=λ(code kp:Int)=>show ee mx (n+2) (raise c code kp) from let r:=h.raise code kp;⟨r.c.mono (by omega),r.v⟩;unfold du;cases hf:fit im c with
 |none=>exact ⟨h.mono (by omega),ga _⟩
 |some o=>
  obtain ⟨f,fn,hl,w1,hfn,w2,ho,hr,hop,hpo⟩:=mg hf;simp only [hl];have hfo:oI mx f:=h.f f (List.mem_of_getLast? hl);have hn:=F9 h hfo;have hp:=h.pop (fM im o);have hp':d_ mx n ⟨bW c.fr f,jL (cz im c o 0 0),c.tr⟩:=hp.bY _ hn.1 hn.2;have ha:cO (bD (tg im c o)):=h.get _ 0;have hb:cO (bD (pd im c o)):=h.get _ 1;have hlay:∀l:List Va,l.length≤2→(∀v∈l,cO (bD v))→ee mx (n+2) (fD im c o f l):=λl h2 h3=>⟨(hp'.lay l h3).mono (by omega),kJ⟩
  have l0:=hlay [] (by decide) λv hv=>by cases hv
  have l1:∀v,cO (bD v)→ee mx (n+2) (fD im c o f [v]):=λv hv=>hlay [v] (cL 1) λw hw=>by rw [aP.1 hw];exact hv
  have l2:∀v w,cO (bD v)→cO (bD w)→ee mx (n+2) (fD im c o f [v,w]):=λv w hv hw=>hlay [v,w] (aQ 2) λx hx=>by
   rcases ae.1 hx with e | e
   ·rw [e];exact hv
   ·rw [aP.1 e];exact hw
  have hlast:∀g:Fr,oI mx g→ee mx (n+2) (⟨ei (bW c.fr f) g,jL (cz im c o 0 0),c.tr⟩,cC):=λg hg=>by
   have:=KD hn hg;exact ⟨(hp.bY _ this.1 this.2).mono (by omega),kJ⟩
  have hret:d_ mx n (fw c):=⟨aY (nR _ _) h.fr,λx hx=>h.f x (mU hx),aY (nR _ _) h.st,λx hx=>h.s x (mU hx),aY (List.length_filter_le _ _) h.tr⟩
  have hrv:cO (bD (qe c)):=h.get _ 0;unfold B2;refine ee.bif ?_ λh3=>ee.bif ?_ λh22=>ee.bif ?_ λh23=>?_
  ·refine hlast _ ⟨hfo.m,by show (f.vars.set _ _).length≤40;rw [gW];exact hfo.v,λv hv=>?_⟩;rcases List.mem_or_eq_of_mem_set hv with h2 | h2
   ·exact hfo.s v h2
   ·rw [h2];exact ha
  ·exact ee.bif (l1 _ (LP (vR _ _))) λ_=>h1 _ _
  ·exact ee.bif (l1 _ (LP (JS _ _))) λ_=>h1 _ _
  ·unfold mS;refine ee.bif (l1 _ ?_) λ_=>ee.bif (l1 _ ?_) λ_=>ee.bif l0 λ_=>ee.bif (l2 _ _ ha ha) λ_=>ee.bif (l2 _ _ hb ha) λ_=>ee.bif (l1 _ (ga _)) λ_=>
    ee.bif (ee.bif ?_ λ_=>h1 _ _) λ_=>ee.bif (ee.bif (l1 _ (ga _)) λ_=>h1 _ _) λ_=>ee.bif (hlast _ (hfo.at rfl rfl)) λ_=>
    ee.bif (ee.bif (ee.bif l0 λ_=>hlast _ (hfo.at rfl rfl)) λ_=>h1 _ _) λh16=>ee.UI (λh17=>?_) λ_=>ee.bif (ee.bif ⟨hret.mono (by omega),hrv⟩ λ_=>?_) λ_=>
    ee.bif (ee.bif (h1 _ _) λ_=>h1 _ _) λ_=>ee.bif ?_ λ_=>ee.bif (ee.bif ?_ λ_=>l0) λ_=>ee.bif (hlast _ ?_) λ_=>ee.bif (l1 _ (ga _)) λ_=>⟨h.mono (by omega),kJ⟩
   ·cases hi:im.cs[o.a.toNat]? with
    |none=>exact lM
    |some v=>exact hP.cs v (aH hi)
   ·cases hi:f.vars[o.a.toNat]? with
    |none=>exact lM
    |some v=>exact hfo.s v (aH hi)
   ·split
    ·exact l1 _ (ga _)
    ·exact h1 _ _
   ·have h17:o.c=17:=by simpa using h17
    have hlen:=(mQ hpo).1;have htk:(fM im o).toNat≤14:=by
     unfold fM;cases hi:inf o.c with
     |none=>exact aj _
     |some i=>
      obtain ⟨_,_,_,_,_,q,_⟩:=sV hi;dsimp only;rw [show (o.c==17)=true by simp [h17],cond_true];cases hg:im.fs[o.a.toNat]? with
      |none=>dsimp only;omega
      |some g=>
       have:=hP.ar g (aH hg);dsimp only;omega
    cases he:da ⟨bW c.fr f,jL (cz im c o 0 0),c.tr⟩ with
    |false=>exact h1 _ _
    |true=>
     rw [cond_true];have:=hp'.enter he o.a (match im.fs[o.a.toNat]? with | some g=>g.vars | none=>0) (nD (cz im c o 0 0)) f.ma (by show (kX c (fM im o)).length≤20;omega) (h.kX _) hfo.m;exact ⟨this.mono (by omega),kJ⟩
   ·exact ⟨(hret.push hrv).mono (by omega),kJ⟩
   ·refine ⟨⟨hn.1,hn.2,aY hp.st (by omega),hp.s,?_⟩,kJ⟩;have:=h.tr;show (c.tr++_).length≤_;rw [aL];show c.tr.length+1≤_;omega
   ·refine ⟨⟨hn.1,hn.2,aY hp.st (by omega),hp.s,?_⟩,kJ⟩;have:=h.tr;show (c.tr.take _).length≤_;rw [ah];omega
   ·exact ⟨J_ hfo.m hx,hfo.v,hfo.s⟩
theorem d_.x {im:Im} (hP:tw im) (h:d_ mx n c) (hx:mx≤255) (hn:n<700000000):Pj im c where
 hI:=hP.hI
 cd:=λi g hg=>hP.cd g (aH hg)
 lf:=by have:=h.fr;omega
 ls:=by have:=h.st;omega
 lt:=by have:=h.tr;omega
 ma:=λf hf=>by
  have:=h.f f (List.mem_of_getLast? hf);exact ⟨⟨this.m.1,by have:=this.m.2;omega⟩,by have:=this.v;omega⟩
 sm:=h.s
 dm:=λo ho=>by
  obtain ⟨f,fn,_,_,hfn,_,hoc,_⟩:=mg ho;exact hP.dm fn (aH hfn) o (aH hoc)
end
end Go.Proofs.YtjpgfgajkjhonaaGreatDoor
namespace Go.Proofs.YtjpgfgajkjhonaaGreatDoor
open Go.Vx
set_option maxRecDepth 100000
theorem fY {g:Gs} {l:Lb}:bS g l=0↔bA g.cur l=true∧bA l g.eo=true:=by
 show (bif bA g.cur l then (bif bA l g.eo then 0 else -4) else -3)=(0:Int)↔_;cases bA g.cur l<;>cases bA l g.eo<;>simp
theorem Cg {g:Gs} {l:Lb}:dN g l=0↔bA (dR g.cur l) g.eo=true:=by
 show (bif bA (dR g.cur l) g.eo then 0 else -4)=(0:Int)↔_;cases bA (dR g.cur l) g.eo<;>simp
theorem DT {g:Gs} {l:Lb}:jK g l=0↔bA l g.eo=true∧bA g.cur l=true:=by
 show (bif bA l g.eo then (bif bA g.cur l then 0 else -3) else -4)=(0:Int)↔_;cases bA g.cur l<;>cases bA l g.eo<;>simp
theorem Gj {g:Gs} {l:Lb} {p:Int}:lE g l p=0↔fh g.cur l p=true∧bA l g.eo=true:=by
 show (bif fh g.cur l p then (bif bA l g.eo then 0 else -4) else -3)=(0:Int)↔_;cases fh g.cur l p<;>cases bA l g.eo<;>simp
theorem Fs {g:Gs} {l:Lb} {p:Int}:kz g l p=0↔fh l g.eo p=true∧bA g.cur l=true:=by
 show (bif fh l g.eo p then (bif bA g.cur l then 0 else -3) else -4)=(0:Int)↔_;cases fh l g.eo p<;>cases bA g.cur l<;>simp
inductive GStep (g:Gs):Gs→Prop where
  |same:GStep g g
  |BH (l:Lb):bA (dR g.cur l) g.eo=true→GStep g ⟨dR g.cur l,g.eo⟩
  |both (l:Lb):bA g.cur l=true→bA l g.eo=true→GStep g ⟨eC l,g.eo⟩
  |lower (l:Lb):bA g.cur l=true→bA l g.eo=true→GStep g ⟨g.cur,eC l⟩
theorem GStep.sm {g h:Gs} (H:GStep g h) (hg:jH g):jH h:=by
 cases H with
 |same=>exact hg
 |BH l _=>exact And.intro (vR _ _) hg.2
 |both l _ _=>exact And.intro (lL _) hg.2
 |lower l _ _=>exact And.intro hg.1 (lL _)
theorem GStep.up {g h:Gs} (H:GStep g h):bA g.cur h.cur=true∧bA h.eo g.eo=true:=by
 cases H with
 |same=>exact ⟨fP _,fP _⟩
 |BH l _=>exact ⟨pT _ _,fP _⟩
 |both l h1 _=>exact ⟨by show bA g.cur (eC l)=true;rw [l5];exact h1,fP _⟩
 |lower l h1 h2=>exact ⟨fP _,by show bA (eC l) g.eo=true;rw [l6];exact h2⟩
theorem GStep.in {g h:Gs} (H:GStep g h) (hi:bA g.cur g.eo=true):bA h.cur h.eo=true:=by
 cases H with
 |same=>exact hi
 |BH l h1=>exact h1
 |both l h1 h2=>show bA (eC l) g.eo=true;rw [l6];exact h2
 |lower l h1 h2=>show bA g.cur (eC l)=true;rw [l5];exact h1
structure kE (mx:Int) (q:Nat) (o:Ob):Prop where
  l:cO o.l
  v:cO (bD o.v)
  w:cO (bD o.va.v)
  qs:∀x∈o.va.q,cO (bD x.v)
  ql:o.va.q.length≤q
  m:0≤o.ma∧o.ma≤mx
structure gb (mx:Int) (q n:Nat) (s:bq):Prop where
  nm:s.nm.length≤n
  ns:∀p∈s.nm,p.2.2.length≤n∧∀x∈p.2.2,gP x
  th:∀p∈s.th,kE mx q p.2
def P0 (g:Gs) (ma:Int) (x:En) (h:Gs):Prop:=x.ma=ma ∧
  ((x.fr = g.cur ∧ h = ⟨eC x.to, g.eo⟩ ∧ fh g.cur x.to ma = true ∧ bA x.to g.eo = true ∧ bA g.cur x.to = false) ∨
   (x.fr=g.eo∧h=⟨g.cur,eC x.to⟩∧fh x.to g.eo ma=true∧bA g.cur x.to=true∧bA x.to g.eo=false))
inductive ka (now mx:Int) (q n:Nat) (t:Th) (ma:Int) (s:bq) (b:Option Nat):Fx→Th→bq→Prop where
  |go (g:Gs) (k:Co) (st:Int) (on:List UInt8):GStep t.g g→d_ mx (n+1) k→(st=t.st∨st=1)→ka now mx q n t ma s b .no { t with g:=g,c:=k,st:=st,on:=on } s
  |log (x:En) (g:Gs):P0 t.g ma x g→cO x.to→ka now mx q n t ma s b (.log x) { t with g:=g } s
  |out (x:Ev):bA t.g.cur x.l=true→bA x.l t.g.eo=true→cO x.l→cO (bD x.v)→ka now mx q n t ma s b (.out x) t s
  |set (e:Fx) (g:Gs) (i:Nat) (nm:List UInt8) (o p:Ob) (k:Co) (st:Int) (on:List UInt8):cD nm s.th=some (i,o)→(o.k=4∨o.k=5)→p.k=o.k→p.l=o.l→kE mx (q+1) p →
      bA t.g.cur o.l=true→bA o.l t.g.eo=true→(g=t.g∨g=⟨eC o.l,t.g.eo⟩)→d_ mx (n+1) k→(st=t.st∨st=1)→(e = .no∨∃w,e = .MQ w∧∀v∈w.l,cO (bD v)) →
      ka now mx q n t ma s b e { t with g:=g,c:=k,st:=st,on:=on } (kS s i nm p)
  |make (o:Ob) (k:Co):bA t.g.cur o.l=true→bA o.l t.g.eo=true→1≤t.ro→(o.k=3∨o.k=4∨o.k=5∨o.k=7)→kE mx q o→d_ mx (n+1) k →
      ka now mx q n t ma s b .no { jh t with c:=k } (kZ s (lY t) o b)
  |fork (l:Lb) (ro:Int) (k d:Co):bA t.g.cur l=true→bA l t.g.eo=true→cO l→0≤ro→ro<t.ro→d_ mx (n+1) k→d_ mx n d →
      ka now mx q n t ma s b (.fork (xe (cr (lY t)) ⟨t.g.cur,eC l⟩ d ro)) { jh t with ro:=t.ro - 1 - ro,c:=k } (kZ s (lY t) { fO with k:=6,l:=l } b)
  |scope (l:Lb) (tk ro:Int) (k:Co):bA t.g.cur l=true→bA l t.g.eo=true→cO l→0≤ro→ro<t.ro→1≤tk→tk≤1000→d_ mx (n+1) k →
      ka now mx q n t ma s b .no { t with sc:=t.sc ++ [oO t l tk ro now (cr (lY t))],c:=k,g:=⟨t.g.cur,eC l⟩,pa:=cr (lY t),ma:=0,ro:=ro } s
def fI (mx:Int) (q n:Nat) (c:Ca) (s:bq):OR→Prop
 |.ok e f=>∀b,ka c.now mx q n c.t c.ma s b e (f b).1.t (f b).2
 |.ex _ c' s'=>s'=s∧c'.tr=c.tr∧∃g,GStep c.t.g g∧c'.t={ c.t with g:=g }
structure oZ (mx:Int) (q n:Nat) (c:Ca) (s:bq):Prop where
  co:d_ mx n c.t.c
  g:jH c.t.g
  a:∀v∈c.ar,cO (bD v)
  m:0≤c.ma∧c.ma≤mx
  so:gb mx q n s
section
variable {mx:Int} {q n:Nat} {c:Ca} {s:bq}
theorem cm {b:Bool} {x y:OR} (hx:b=true→fI mx q n c s x) (hy:b=false→fI mx q n c s y):fI mx q n c s (bif b then x else y):=by
 cases b
 ·exact hy rfl
 ·exact hx rfl
theorem dP (m:Int):fI mx q n c s (.ex m c s):=⟨rfl,rfl,c.t.g,.same,rfl⟩
theorem oZ.ar (h:oZ mx q n c s) (i:Nat):cO (bD (c.ar[i]?.getD dT)):=by
 cases hi:c.ar[i]? with
 |none=>exact lM
 |some v=>exact h.a v (aH hi)
theorem oZ.look (h:oZ mx q n c s) {nm:List UInt8} {i:Nat} {o:Ob} (hl:cD nm s.th=some (i,o)):kE mx q o:=by
 obtain ⟨p,hp,rfl⟩:=jl hl;exact h.so.th p hp
theorem B4 (mx:Int) (q:Nat) (k:Int) {l:Lb} (hl:cO l) {v:Va} (hv:cO (bD v)) (fu:Int) {ma:Int} (hm:0≤ma∧ma≤mx):kE mx q { fO with k:=k,l:=l,v:=v,fu:=fu,ma:=ma }:=
 ⟨hl,hv,n5,λx hx=>(by cases hx),aj _,hm⟩
theorem jc {s:bq} {h:Va} {i:Nat} {o:Ob} (ht:dF s h=some (i,o)):cD h.nm s.th=some (i,o)∧o.k=h.k∧o.l=bD h:=by
 unfold dF at ht;cases hl:cD h.nm s.th with
 |none=>rw [hl] at ht;cases ht
 |some p=>
  obtain ⟨j,p⟩:=p;rw [hl] at ht;dsimp only at ht;cases hb:(p.k==h.k)&&((p.l.s==h.ls)&&(p.l.i==h.li)) with
  |false=>rw [hb] at ht;cases ht
  |true=>
   rw [hb,cond_true,aF,dy] at ht;obtain ⟨rfl,rfl⟩:=ht;simp only [aS,beq_iff_eq] at hb;refine ⟨rfl,hb.1,?_⟩;unfold bD;rw [←hb.2.1,←hb.2.2]
theorem sQ {k:Int} {ks:List Int} {ar:List Va} (h:bw (k :: ks) ar=true) (hl:0<ar.length) (hk:k≠0):(ar[0]?.getD dT).k=k:=by
 match ar,hl with
 |v :: r,_=>
  unfold bw at h;rw [List.zip_cons_cons,kf,aS,cJ] at h;rcases h.1 with h1 | h1
  ·exact absurd (by simpa using h1) hk
  ·show v.k=k;simpa using h1
theorem jv {a:Int} (h:(a==0)=true):a=0:=by simpa using h
theorem N1 {a:Int} (h:(a==0)=false):a≠0:=by simpa using h
theorem Ci {g:Gs} {l:Lb} (h:dN g l=0):cu g l=⟨dR g.cur l,g.eo⟩:=by
 unfold cu;rw [show (dN g l==0)=true by simp [h],cond_true]
theorem tD {g:Gs} {l:Lb} (h:bS g l=0):tE g l=⟨eC l,g.eo⟩:=by
 unfold tE;rw [show (bS g l==0)=true by simp [h],cond_true]
theorem ny {g:Gs} {l:Lb} (h:dN g l=0):GStep g (cu g l):=by
 rw [Ci h];exact .BH l (Cg.1 h)
theorem vB {g:Gs} {l:Lb} (h:bS g l=0):GStep g (tE g l):=by
 rw [tD h];exact .both l (fY.1 h).1 (fY.1 h).2
theorem ju (g:Gs) (k:Co) (hg:GStep c.t.g g) (hk:d_ mx (n+1) k):∀b,ka c.now mx q n c.t c.ma s b .no { c.t with g:=g,c:=k } s:=
 λ_=>.go g k c.t.st c.t.on hg hk (.inl rfl)
theorem Ke (h:oZ mx q n c s):fI mx q n c s (Nz c s):=ju c.t.g _ .same (h.co.push h.g.1)
theorem Kf (h:oZ mx q n c s):fI mx q n c s (PC c s):=ju c.t.g _ .same (h.co.push h.g.2)
theorem Dq (h:oZ mx q n c s):fI mx q n c s (oE c s):=
 cm (λ_=>cm (λh1=>ju _ _ (ny (jv h1)) (h.co.mono (cL _))) λ_=>dP _) λ_=>dP _
theorem Dr (h:oZ mx q n c s):fI mx q n c s (vz c s):=
 cm (λ_=>cm (λh1=>by
  have h2:=DT.1 (jv h1);refine ju _ _ ?_ (h.co.mono (cL _));unfold sH;rw [h1,cond_true];exact .lower _ h2.2 h2.1) λ_=>dP _) λ_=>dP _
theorem sx (h:oZ mx q n c s) (o:Ob) (hk:o.k=3∨o.k=4∨o.k=5∨o.k=7) (ho:kE mx q o):fI mx q n c s (jT c s o):=by
 unfold jT;refine cm (λh1=>cm (λ_=>dP _) λh2=>λb=>?_) λ_=>dP _;have h3:=fY.1 (jv h1);have h2:=of_decide_eq_false h2;exact .make o _ h3.1 h3.2 (by omega) hk ho (h.co.push ho.l)
theorem CD (h:oZ mx q n c s) (h0:0≤mx) (k:Int) (hk:k=3∨k=4):fI mx q n c s (sD k c s):=
 cm (λ_=>sx h _ (by rcases hk with e | e<;>simp [e]) (B4 mx q k (h.ar 1) (h.ar 0) 0 ⟨jW _,h0⟩)) λ_=>dP _
theorem Gu (h:oZ mx q n c s) (h0:0≤mx):fI mx q n c s (vn c s):=
 cm (λ_=>sx h _ (.inr (.inr (.inl rfl))) (B4 mx q 5 (h.ar 0) n5 0 ⟨jW _,h0⟩)) λ_=>dP _
theorem Gv (h:oZ mx q n c s):fI mx q n c s (vo c s):=
 cm (λ_=>sx h _ (.inr (.inr (.inr rfl))) (B4 mx q 7 (h.ar 0) n5 c.o.a h.m)) λ_=>dP _
theorem Gt (h:oZ mx q n c s):fI mx q n c s (sB c s):=by
 refine cm (λ_=>?_) λ_=>dP _;unfold o_;refine cm (λh1=>?_) λ_=>dP _;have h2:=ny (jv h1);cases ht:dF s (c.ar[0]?.getD dT) with
 |none=>exact ju _ _ h2 (h.co.push (ga 0))
 |some p=>
  obtain ⟨i,o⟩:=p;have ho:=h.look (jc ht).1;dsimp only;unfold ll;cases o.ex with
  |true=>exact ⟨rfl,rfl,_,h2,rfl⟩
  |false=>exact ju _ _ h2 (h.co.push ho.v)
theorem qD (h:oZ mx q n c s) (v:Va) (go:Ca→bq→Ob→RQ) (hg:∀g o,GStep c.t.g g→kE mx q o→fI mx q n c s (go { c with t:={ c.t with g:=g } } s o).or):fI mx q n c s (gw c s v go).or:=by
 unfold gw;cases h1:dN c.t.g (bD v)==0 with
 |false=>exact dP _
 |true=>
  rw [cond_true];have h2:=ny (jv h1);cases ht:dF s v with
  |none=>exact ju _ _ h2 (h.co.push (ga 0))
  |some p=>
   obtain ⟨i,o⟩:=p;exact hg _ _ h2 (h.look (jc ht).1)
theorem yN (h:oZ mx q n c s):fI mx q n c s (ou c s):=
 cm (λ_=>qD h _ _ λg _ hg ho=>ju g _ hg (h.co.push ho.v)) λ_=>dP _
theorem Gq (h:oZ mx q n c s):fI mx q n c s (BB c s):=by
 refine cm (λ_=>qD h _ _ λg o hg ho=>?_) λ_=>dP _;unfold mH;cases o.dn with
 |false=>exact λb=>.go g c.t.c 1 _ hg (h.co.mono (cL _)) (.inr rfl)
 |true=>
  cases o.ex with
  |true=>exact ⟨rfl,rfl,g,hg,rfl⟩
  |false=>exact ju g _ hg (h.co.push ho.v)
theorem Ds (h:oZ mx q n c s):fI mx q n c s (rK c s):=by
 refine cm (λ_=>qD h _ _ λg o hg ho=>?_) λ_=>dP _;unfold jt;cases he:da c.t.c with
 |false=>exact ⟨rfl,rfl,g,hg,rfl⟩
 |true=>
  have h1:=h.co.enter he o.fu (gM c.im o.fu) (c.ar.take 1) o.ma (aY (List.length_take_le _ _) (by decide)) (λv hv=>h.a v (eR hv)) ho.m;exact ju g _ hg (h1.mono (cL _))
theorem Kd (h:oZ mx q n c s):fI mx q n c s (ze c s):=
 cm (λ_=>cm (λh1 _=>.out _ (fY.1 (jv h1)).1 (fY.1 (jv h1)).2 (h.ar 1) (h.ar 0)) λ_=>dP _) λ_=>dP _
theorem Gy (h:oZ mx q n c s):fI mx q n c s (CC c s):=by
 refine cm (λ_=>cm (λh1 b=>?_) λ_=>dP _) λ_=>dP _;have h2:=Gj.1 (jv h1);unfold AG su ux;rw [h1,cond_true,cond_true];cases hf:bA c.t.g.cur (bD (c.ar[0]?.getD dT)) with
 |true=>exact .go _ c.t.c c.t.st c.t.on (.both _ hf h2.2) (h.co.mono (cL _)) (.inl rfl)
 |false=>exact .log _ _ ⟨rfl,.inl ⟨rfl,rfl,h2.1,h2.2,hf⟩⟩ (h.ar 0)
theorem Gw (h:oZ mx q n c s):fI mx q n c s (Bm c s):=by
 refine cm (λ_=>cm (λh1 b=>?_) λ_=>dP _) λ_=>dP _;have h2:=Fs.1 (jv h1);unfold AG sK ue;rw [h1,cond_true,cond_true];cases hf:bA (bD (c.ar[0]?.getD dT)) c.t.g.eo with
 |true=>exact .go _ c.t.c c.t.st c.t.on (.lower _ h2.2 hf) (h.co.mono (cL _)) (.inl rfl)
 |false=>exact .log _ _ ⟨rfl,.inr ⟨rfl,rfl,h2.1,h2.2,hf⟩⟩ (h.ar 0)
theorem Dn (h:oZ mx q n c s) (hl:c.ar.length=2):fI mx q n c s (p9 c s):=by
 refine cm (λhk=>cm (λh1=>?_) λ_=>dP _) λ_=>dP _;have h2:=fY.1 (jv h1);cases ht:dF s (c.ar[0]?.getD dT) with
 |none=>exact ju c.t.g c.t.c .same (h.co.mono (cL _))
 |some p=>
  obtain ⟨i,o⟩:=p;obtain ⟨g1,g2,g3⟩:=jc ht;have ho:=h.look g1;rw [←g3] at h2;exact λb=>.set .no c.t.g i _ o { o with v:=c.ar[1]?.getD dT } c.t.c c.t.st c.t.on g1 (.inl (by rw [g2];exact sQ hk (by omega) (by decide))) rfl rfl ⟨ho.l,h.ar 1,ho.w,ho.qs,eA ho.ql,ho.m⟩ h2.1 h2.2 (.inl rfl) (h.co.mono (cL _)) (.inl rfl) (.inl rfl)
theorem uv {l:List Wt} {i:Nat} {x:Wt} (h:x∈q6 l i):x∈l:=by
 unfold q6 at h;rcases aR.1 h with h1 | h1
 ·exact eR h1
 ·exact dq h1
theorem JH {o:Ob} (ho:kE mx q o) (id:List UInt8):kE mx (q+1) { o with va:=(fA o.va id).1 }∧cO (bD (fA o.va id).2.1):=by
 have hlen:=uP (x:=o.va) (id:=id);have hq:=ho.ql;have hall:cO (bD (fA o.va id).1.v)∧(∀x∈(fA o.va id).1.q,cO (bD x.v))∧cO (bD (fA o.va id).2.1):=by
  unfold fA;cases o.va.full with
  |false=>
   refine ⟨ho.w,λx hx=>?_,n5⟩;rcases aR.1 hx with h1 | h1
   ·exact ho.qs x h1
   ·rw [aP.1 h1];exact n5
  |true=>
   rw [cond_true];cases hi:o.va.q[rP true o.va.q]? with
   |none=>exact ⟨n5,ho.qs,ho.w⟩
   |some w=>exact ⟨ho.qs w (aH hi),λx hx=>ho.qs x (uv hx),ho.w⟩
 exact ⟨⟨ho.l,ho.v,hall.1,hall.2.1,by show (fA o.va id).1.q.length≤q+1;omega,ho.m⟩,hall.2.2⟩
theorem Mw {o:Ob} (ho:kE mx q o) (id:List UInt8) (v:Va) (hv:cO (bD v)):kE mx (q+1) { o with va:=(je o.va id v).1 }:=by
 have hlen:=xY (x:=o.va) (id:=id) (v:=v);have hq:=ho.ql;have hall:cO (bD (je o.va id v).1.v)∧(∀x∈(je o.va id v).1.q,cO (bD x.v)):=by
  unfold je;cases o.va.full with
  |true=>
   refine ⟨ho.w,λx hx=>?_⟩;rcases aR.1 hx with h1 | h1
   ·exact ho.qs x h1
   ·rw [aP.1 h1];exact hv
  |false=>
   rw [cond_false];cases hi:o.va.q[rP false o.va.q]? with
   |none=>exact ⟨hv,ho.qs⟩
   |some w=>exact ⟨ho.w,λx hx=>ho.qs x (uv hx)⟩
 exact ⟨ho.l,ho.v,hall.1,hall.2,by show (je o.va id v).1.q.length≤q+1;omega,ho.m⟩
theorem A_ {id:List UInt8} {l:List Va} (hl:∀v∈l,cO (bD v)):mF id l = .no∨∃w,mF id l = .MQ w∧∀v∈w.l,cO (bD v):=by
 unfold mF;cases id == []
 ·exact .inr ⟨_,rfl,hl⟩
 ·exact .inl rfl
theorem Gr (h:oZ mx q n c s) (hl:c.ar.length=1):fI mx q n c s (pe c s):=by
 refine cm (λhk=>cm (λh1=>?_) λ_=>dP _) λ_=>dP _;have h1:=jv h1;have h2:=fY.1 h1;cases ht:dF s (c.ar[0]?.getD dT) with
 |none=>exact λb=>.go _ c.t.c 1 _ (vB h1) (h.co.mono (cL _)) (.inr rfl)
 |some p=>
  obtain ⟨i,o⟩:=p;obtain ⟨g1,g2,g3⟩:=jc ht;have ho:=h.look g1;have hb:=tD h1;rw [←g3] at h2 hb;have hk5:o.k=4∨o.k=5:=.inr (by rw [g2];exact sQ hk (by omega) (by decide));obtain ⟨t1,t2⟩:=JH ho c.t.id;dsimp only;cases (fA o.va c.t.id).2.2.1 with
  |true=>exact λb=>.set _ _ i _ o { o with va:=(fA o.va c.t.id).1 } _ c.t.st c.t.on g1 hk5 rfl rfl t1 h2.1 h2.2 (.inr (by rw [←g3];exact hb)) (h.co.push t2) (.inl rfl) (A_ λv hv=>by cases hv)
  |false=>exact λb=>.set _ _ i _ o { o with va:=(fA o.va c.t.id).1 } _ 1 _ g1 hk5 rfl rfl t1 h2.1 h2.2 (.inr (by rw [←g3];exact hb)) (h.co.mono (cL _)) (.inr rfl) (.inl rfl)
theorem Kc (h:oZ mx q n c s) (hl:c.ar.length=2):fI mx q n c s (uY c s):=by
 refine cm (λhk=>cm (λh1=>?_) λ_=>dP _) λ_=>dP _;have h1:=jv h1;have h2:=fY.1 h1;cases ht:dF s (c.ar[0]?.getD dT) with
 |none=>exact λb=>.go _ c.t.c 1 _ (vB h1) (h.co.mono (cL _)) (.inr rfl)
 |some p=>
  obtain ⟨i,o⟩:=p;obtain ⟨g1,g2,g3⟩:=jc ht;have ho:=h.look g1;have hb:=tD h1;rw [←g3] at h2 hb;have hk5:o.k=4∨o.k=5:=.inr (by rw [g2];exact sQ hk (by omega) (by decide));have t1:=Mw ho c.t.id (c.ar[1]?.getD dT) (h.ar 1);dsimp only;cases (je o.va c.t.id (c.ar[1]?.getD dT)).2.1 with
  |true=>exact λb=>.set _ _ i _ o { o with va:=(je o.va c.t.id (c.ar[1]?.getD dT)).1 } c.t.c c.t.st c.t.on g1 hk5 rfl rfl t1 h2.1 h2.2 (.inr (by rw [←g3];exact hb)) (h.co.mono (cL _)) (.inl rfl) (A_ λv hv=>by rw [aP.1 hv];exact h.ar 1)
  |false=>exact λb=>.set _ _ i _ o { o with va:=(je o.va c.t.id (c.ar[1]?.getD dT)).1 } _ 1 _ g1 hk5 rfl rfl t1 h2.1 h2.2 (.inr (by rw [←g3];exact hb)) (h.co.mono (cL _)) (.inr rfl) (.inl rfl)
theorem okCo_0 (mx:Int) (n:Nat):d_ mx n c00:=⟨by decide,λf hf=>(by cases hf),aj _,λv hv=>(by cases hv),aj _⟩
theorem Gx (h:oZ mx q n c s):fI mx q n c s (Bu c s):=by
 refine cm (λ_=>cm (λh1 b=>?_) λ_=>dP _) λ_=>dP _;have h1:=jv h1;unfold jr at h1;cases hw:bS c.t.g (bD (c.ar[2]?.getD dT))==0 with
 |false=>rw [hw,cond_false] at h1;exact absurd h1 (N1 hw)
 |true=>
  rw [hw,cond_true] at h1;have h2:=fY.1 (jv hw);cases hb:decide ((c.ar[1]?.getD dT).n<0)||(decide (999<(c.ar[1]?.getD dT).n)||decide (c.t.ro≤(c.ar[1]?.getD dT).n)) with
  |true=>rw [hb] at h1;cases h1
  |false=>
   simp only [iK,decide_eq_false_iff_not] at hb;have h3:=(okCo_0 mx n).enter (show da c00=true by decide) c.o.a (gM c.im c.o.a) [c.ar[0]?.getD dT] c.ma (show 1≤20 by decide) (λv hv=>by rw [aP.1 hv];exact h.ar 0) h.m;exact .fork (bD (c.ar[2]?.getD dT)) (c.ar[1]?.getD dT).n _ _ h2.1 h2.2 (h.ar 2) (by omega) (by omega) (h.co.push (h.ar 2)) h3
theorem Dp (h:oZ mx q n c s):fI mx q n c s (vY c s):=by
 refine cm (λ_=>cm (λh0 b=>?_) λ_=>dP _) λ_=>dP _;have h1:=jv h0;dsimp only;unfold lO;rw [h0,cond_true];unfold c_ at h1;split at h1
 ·cases h1
 ·split at h1
  ·cases h1
  ·split at h1
   ·rename_i h4;exact absurd h1 h4
   ·split at h1
    ·cases h1
    ·split at h1
     ·cases h1
     ·rename_i a1 a2 a3 a4 a5;have h2:=fY.1 (Classical.not_not.1 a3);have he:da c.t.c=true:=by simpa using a5
      have h3:=h.co.enter he c.o.a (gM c.im c.o.a) [c.ar[0]?.getD dT] c.ma (show 1≤20 by decide) (λv hv=>by rw [aP.1 hv];exact h.ar 0) h.m;exact .scope (bD (c.ar[3]?.getD dT)) (c.ar[2]?.getD dT).n (c.ar[1]?.getD dT).n _ h2.1 h2.2 (h.ar 3) (by omega) (by omega) (by omega) (by omega) (h3.mono (cL _))
theorem zi {F:Nat} {po:Int} (h:oZ mx q n c s) (h0:0≤mx) (hF:(c.o.c,F,po)∈codeF) (hl:(c.ar.length:Int)=po):fI mx q n c s (jf c s):=by
 unfold jf;simp only [codeF,ae,dy,cU,or_false] at hF;rcases hF with h1 | h1 | h1 | h1 | h1 | h1 | h1 | h1 | h1 | h1 | h1 | h1 | h1 | h1 | h1 | h1 | h1 | h1 | h1 | h1<;>obtain ⟨e,_,rfl⟩:=h1<;>rw [e]
 ·exact Ke h
 ·exact Kf h
 ·exact Dq h
 ·exact Dr h
 ·exact CD h h0 3 (.inl rfl)
 ·exact Gt h
 ·exact CD h h0 4 (.inr rfl)
 ·exact yN h
 ·exact Dn h (by omega)
 ·exact Gu h h0
 ·exact Gr h (by omega)
 ·exact Kc h (by omega)
 ·exact Gx h
 ·exact Gq h
 ·exact Dp h
 ·exact Kd h
 ·exact Gy h
 ·exact Gw h
 ·exact Gv h
 ·exact Ds h
end
end Go.Proofs.YtjpgfgajkjhonaaGreatDoor
namespace Go.Proofs.YtjpgfgajkjhonaaGreatDoor
open Go.Vx
set_option maxRecDepth 100000
theorem xB (n:Nat) (h:n<100) (r:List UInt8):kD (Lib.decDigits n++r) 0=kD r n:=by
 unfold Lib.decDigits
 by_cases h1:n<10
 ·rw [dif_pos h1];have:∀m:Nat,m<10→(UInt8.ofNat (48+m)==46)=false∧(UInt8.ofNat (48+m)).toNat - 48=m:=by decide
  obtain ⟨a,b⟩:=this n h1;show (bif UInt8.ofNat (48+n)==46 then _ else kD r (10*0+((UInt8.ofNat (48+n)).toNat - 48)))=_;rw [a,cond_false,b,Nat.mul_zero,b8]
 ·rw [dif_neg h1];unfold Lib.decDigits;rw [dif_pos (by omega)];have:∀m:Nat,m<10→(UInt8.ofNat (48+m)==46)=false∧(UInt8.ofNat (48+m)).toNat - 48=m:=by decide
  obtain ⟨a,b⟩:=this (n / 10) (by omega);obtain ⟨a',b'⟩:=this (n % 10) (by omega);show (bif UInt8.ofNat (48+n / 10)==46 then _ else (bif UInt8.ofNat (48+n % 10)==46 then _ else kD r (10*(10*0+((UInt8.ofNat (48+n / 10)).toNat - 48))+((UInt8.ofNat (48+n % 10)).toNat - 48))))=_;rw [a,cond_false,a',cond_false,b,b'];congr 1;omega
theorem E0:∀(l:List Nat) (n:Nat),(∀x∈l,x<100)→kD (o5 l) n=n :: l
 |[],n,_=>rfl
 |m :: r,n,h=>by
  show kD (46 :: Lib.decDigits m++o5 r) n=_;show n :: kD (Lib.decDigits m++o5 r) 0=_;rw [xB m (h m (by simp)),E0 r m λx hx=>h x (by simp [hx])]
theorem rT {l:List Nat} (h0:l≠[]) (h:∀x∈l,x<100):kD (cr l) 0=l:=by
 match l,h0 with
 |m :: r,_=>
  show kD (Lib.decDigits m++o5 r) 0=_;rw [xB m (h m (by simp)),E0 r m λx hx=>h x (by simp [hx])]
structure oH (p:List Nat) (pa:List UInt8) (ma ro:Int):Prop where
  t:pa=cr p
  ne:p≠[]
  lt:∀x∈p,x<100
  m0:0≤ma
  r0:0≤ro
  mr:ma+ro≤15
  le:p.length+ro≤16
structure NM (s:Sc):Prop where
  l:cO s.l
  g:jH s.g
  pa:∃p,oH p s.pa s.ma s.ro
  nm:∃p,s.nm=cr p∧gP p
structure gj (mx:Int) (n:Nat) (t:Th):Prop where
  co:d_ mx n t.c
  g:jH t.g
  pa:∃p,oH p t.pa t.ma t.ro
  sc:∀s∈t.sc,NM s
  sl:t.sc.length≤n
  v:cO (bD t.v)
section
variable {mx:Int} {q n:Nat} {im:Im} {t:Th} {s:bq} {now:Int}
theorem oH.un {p:List Nat} {pa:List UInt8} {ma ro:Int} (h:oH p pa ma ro):kD pa 0=p:=by rw [h.t];exact rT h.ne h.lt
theorem oH.kp {p:List Nat} (h:oH p t.pa t.ma t.ro):lY t=p ++ [t.ma.toNat]:=by unfold lY;rw [h.un]
theorem oH.pQ {p:List Nat} (h:oH p t.pa t.ma t.ro) (hr:1≤t.ro):gP (lY t):=by
 rw [h.kp];have:=h.le;have:=h.mr;have:=h.m0;have:=h.r0;refine ⟨by simp,by rw [aL];show _+1≤_;omega,λx hx=>?_⟩;rcases aR.1 hx with h1 | h1
 ·exact h.lt x h1
 ·rw [aP.1 h1];omega
theorem oH.child {p:List Nat} (h:oH p t.pa t.ma t.ro) {ro:Int} (h0:0≤ro) (hr:ro<t.ro):oH (lY t) (cr (lY t)) 0 ro:=by
 have hg:=h.pQ (by omega);have hk:=h.kp;have:=h.le;have:=h.mr;have:=h.m0;refine ⟨rfl,hg.1,hg.2.2,jW _,h0,by omega,?_⟩;rw [hk,aL];show ((p.length+1:Nat):Int)+ro≤16;omega
theorem oH.made {p:List Nat} {pa:List UInt8} {ma ro d:Int} (h:oH p pa ma ro) (hd:0≤d) (hr:d<ro):oH p pa (ma+1) (ro - 1 - d):=by
 have:=h.le;have:=h.mr;have:=h.m0;exact ⟨h.t,h.ne,h.lt,by omega,by omega,by omega,by omega⟩
theorem gj.T (hP:tw im) (h:gj mx n t) (hs:gb mx q n s) (hx:mx≤255) (hw:0≤now∧now<1000000000) (hn:n<50000000) (hq:q<90000000):Pk im t s now:=by
 obtain ⟨p,hp⟩:=h.pa;have hu:=hp.un;have:=hp.le;have:=hp.r0;have:=hp.mr;have:=hp.m0;exact {
  x:=h.co.x hP hx (by omega)
  n:=⟨by rw [hu];exact hp.t,by rw [hu];exact hp.ne,by rw [hu];omega,by rw [hu];exact hp.lt,hp.m0,by omega,by omega⟩
  g:=h.g
  gs:=⟨by have:=hs.nm;omega,λp hp=>⟨by have:=(hs.ns p hp).1;omega,(hs.ns p hp).2⟩⟩
  sc:=by have:=h.sl;omega
  w:=hw
  q:=λp hp=>by have:=(hs.th p hp).ql;omega }
def yG (t:Th) (s:bq) (v:Va) (ex:Bool):Bool×bq:=
 if (eX t v ex).st≠3∧(eX t v ex).st≠4 then (false,s) else
 match cD t.id s.th with
 |some (i,o)=>if o.k=6 then (true,kS s i t.id { o with v:=v,ex:=ex,dn:=true }) else (true,s)
 |none=>(true,s)
theorem K2 (c:Ca) (s:bq) (v:Va) (ex:Bool):(nZ c s v ex).1.t=eX c.t v ex∧(nZ c s v ex).2=yG c.t s v ex:=by
 unfold nZ yG;dsimp only
 by_cases h:(eX c.t v ex).st≠3∧(eX c.t v ex).st≠4
 ·rw [if_pos h,if_pos h];exact ⟨rfl,rfl⟩
 ·rw [if_neg h,if_neg h,show (eX c.t v ex).id=c.t.id from rfl];cases cD c.t.id s.th with
  |none=>exact ⟨rfl,rfl⟩
  |some p=>
   obtain ⟨i,o⟩:=p;dsimp only
   by_cases h6:o.k=6
   ·rw [if_pos h6,if_pos h6];exact ⟨rfl,rfl⟩
   ·rw [if_neg h6,if_neg h6];exact ⟨rfl,rfl⟩
inductive qt (now mx:Int) (q n:Nat) (t:Th) (s:bq) (b:Option Nat):Rs→Prop where
  |idle:t.st≠0→qt now mx q n t s b ⟨t,.no,false,s⟩
  |core (g:Gs) (k:Co):t.st=0→GStep t.g g→d_ mx (n+2) k→qt now mx q n t s b ⟨{ t with g:=g,c:=k },.no,false,s⟩
  |fin (g:Gs) (k:Co) (v:Va) (ex:Bool):t.st=0→GStep t.g g→d_ mx (n+2) k→cO (bD v) →
      qt now mx q n t s b ⟨eX { t with g:=g,c:=k } v ex,.no,(yG { t with g:=g,c:=k } s v ex).1,(yG { t with g:=g,c:=k } s v ex).2⟩
  |Nx (k:Co) (ma:Int) (e:Fx) (t':Th) (s':bq):t.st=0→d_ mx n k→0≤ma∧ma≤mx→ka now mx q n { t with c:=k } ma s b e t' s'→qt now mx q n t s b ⟨t',e,false,s'⟩
theorem rV (c:Ca) (v:Va) (ex:Bool) (g:Gs) (k:Co) (b:Option Nat) (hc:c.t={ t with g:=g,c:=k }) (h0:t.st=0) (hg:GStep t.g g) (hk:d_ mx (n+2) k) (hv:cO (bD v)):qt now mx q n t s b (Hc (nZ c s v ex)):=by
 obtain ⟨e1,e2⟩:=K2 c s v ex;have:Hc (nZ c s v ex)=⟨eX { t with g:=g,c:=k } v ex,.no,(yG { t with g:=g,c:=k } s v ex).1,(yG { t with g:=g,c:=k } s v ex).2⟩:=by
  unfold Hc;rw [e1,e2,hc]
 rw [this];exact .fin g k v ex h0 hg hk hv
theorem Gm (hP:tw im) (h:gj mx n t) (hs:gb mx q n s) (h0:0≤mx) (hx:mx≤255) (hn:n<50000000) (b:Option Nat):qt now mx q n t s b (EL im t s now b):=by
  unfold EL
  by_cases hst:t.st=0
  · rw [show (t.st != 0) = false by simp [hst], cond_false]
    have hr:=zF (fr:=(bQ t).fr) (tr:=(bQ t).tr) hP h.co hx
    have hask:=uR (fr:=(bQ t).fr) (tr:=(bQ t).tr) (h.co.x hP hx (by omega))
    generalize hr':du im t.c (bQ t).fr (bQ t).tr=r at hr hask ⊢
    cases k1:r.2.k==1 with
    |true=>exact rV _ _ _ t.g r.1 b rfl hst .same hr.c hr.v
    |false=>
      cases k2:r.2.k==2 with
      |true=>exact rV _ _ _ t.g r.1 b rfl hst .same hr.c hr.v
      |false=>
        cases k3:r.2.k==3 with
        |false=>exact .core t.g r.1 hst .same hr.c
        |true=>
          rw [cond_false,cond_false,cond_true]
          obtain ⟨o,f,F,po,e,hf,hcf,hp,hpc⟩:=hask (by simpa using k3)
          rw [e]
          obtain ⟨⟨i,hi,hpi⟩,_⟩:=wQ hcf
          subst hpi
          unfold PN
          rw [show (lI im t now).t.c.fr.getLast? = some f from hf]
          dsimp only
          rw [hi]
          dsimp only
          have hfo:oI mx f:=h.co.f f (List.mem_of_getLast? hf)
          have hnx:=F9 h.co hfo
          have hck:d_ mx n { qf t.c i.po with fr:=bW t.c.fr f }:=(h.co.pop i.po).bY _ hnx.1 hnx.2
          have hd:=zi (c:=iu (lI im t now) o f i.po) (q:=q) ⟨hck,h.g,h.co.kX _,hfo.m,hs⟩ h0 hcf (CV hp)
          generalize jf (iu (lI im t now) o f i.po) s=R at hd ⊢
          cases R with
          |ok e g=>exact .Nx _ f.ma e _ _ hst hck hfo.m (hd b)
          |ex m c' s'=>
            obtain ⟨rfl,_,g,hg,hc⟩:=hd
            unfold OR.fin
            have hra:=h.co.raise m c'.tr
            unfold kW
            dsimp only
            rw [show (lI im t now).t.c=t.c from rfl]
            generalize raise t.c m c'.tr=r2 at hra ⊢
            have hc2:{ c'.t with c:=r2.1 }={ t with g:=g,c:=r2.1 }:=by rw [hc];rfl
            cases k4:r2.2.k==2 with
            |true=>exact rV _ _ _ g r2.1 b hc2 hst hg (hra.c.mono (by omega)) hra.v
            |false=>
              rw [cond_false]
              unfold Hc
              dsimp only
              rw [hc2]
              exact .core g r2.1 hst hg (hra.c.mono (by omega))
  · rw [show (t.st != 0)=true by simp [hst],cond_true]
    exact .idle hst
end
end Go.Proofs.YtjpgfgajkjhonaaGreatDoor
namespace Go.Proofs.YtjpgfgajkjhonaaGreatDoor
open Go.Vx
set_option maxRecDepth 100000
section
variable {mx:Int} {q n:Nat} {t:Th} {s:bq} {now:Int} {b:Option Nat}
theorem kE.mono {o:Ob} (h:kE mx q o):kE mx (q+1) o:=⟨h.l,h.v,h.w,h.qs,eA h.ql,h.m⟩
theorem gb.mono (h:gb mx q n s):gb mx (q+1) (n+1) s:=⟨eA h.nm,λp hp=>⟨eA (h.ns p hp).1,(h.ns p hp).2⟩,λp hp=>(h.th p hp).mono⟩
theorem gb.set (h:gb mx q n s) (i:Nat) (key:List UInt8) {o:Ob} (ho:kE mx (q+1) o):gb mx (q+1) (n+1) (kS s i key o):=by
 refine ⟨h.mono.nm,h.mono.ns,λp hp=>?_⟩;rcases List.mem_or_eq_of_mem_set hp with h1 | h1
 ·exact h.mono.th p h1
 ·rw [h1];exact ho
theorem Bg {α:Type} {f:α→α} {x:α}:∀{l:List α} {i:Nat},x∈l.modify i f→x∈l∨∃y∈l,x=f y
 |[],i,h=>by simp at h
 |a :: l,0,h=>by
  rw [List.modify_zero_cons] at h;rcases ae.1 h with h1 | h1
  ·exact .inr ⟨a,by simp,h1⟩
  ·exact .inl (by simp [h1])
 |a :: l,i+1,h=>by
  rw [List.modify_succ_cons] at h;rcases ae.1 h with h1 | h1
  ·exact .inl (by simp [h1])
  ·rcases Bg h1 with h2 | ⟨y,h2,h3⟩
   ·exact .inl (by simp [h2])
   ·exact .inr ⟨y,by simp [h2],h3⟩
theorem GM (ns:List (List Nat)) (kp:List Nat):(uD ns kp).length=ns.length+1:=by
 unfold uD;rw [aL,aU,ah,bz];omega
theorem pM {ns:List (List Nat)} {kp x:List Nat}:x∈uD ns kp↔x=kp∨x∈ns:=by
 unfold uD;rw [aR,ae];constructor
 ·rintro (h | h | h)
  ·exact .inr (eR h)
  ·exact .inl h
  ·exact .inr (dq h)
 ·rintro (h | h)
  ·exact .inr (.inl h)
  ·rw [←List.take_append_drop (qm ns kp) ns] at h;rcases aR.1 h with h1 | h1
   ·exact .inl h1
   ·exact .inr (.inr h1)
theorem gb.add (h:gb mx q n s) {kp:List Nat} {o:Ob} (hk:gP kp) (ho:kE mx (q+1) o) (b:Option Nat):gb mx (q+1) (n+1) (kZ s kp o b):=by
 unfold kZ;cases kq o.l&&(cD (cr kp) s.th).isNone with
 |false=>exact h.mono
 |true=>
  rw [cond_true];unfold qq;have hth:∀p∈s.th ++ [(cr kp,o)],kE mx (q+1) p.2:=λp hp=>by
   rcases aR.1 hp with h1 | h1
   ·exact h.mono.th p h1
   ·rw [aP.1 h1];exact ho
  unfold qI;cases qi o.l s.nm with
  |none=>
   refine ⟨?_,λp hp=>?_,hth⟩
   ·show (s.nm++_).length≤_;rw [aL];exact pZ h.nm
   ·rcases aR.1 hp with h1 | h1
    ·exact h.mono.ns p h1
    ·rw [aP.1 h1];exact ⟨pZ (aj _),λx hx=>by rw [aP.1 hx];exact hk⟩
  |some i=>
   refine ⟨?_,λp hp=>?_,hth⟩
   ·show (s.nm.modify i _).length≤_;rw [List.length_modify];exact h.mono.nm
   ·rcases Bg hp with h1 | ⟨y,h1,rfl⟩
    ·exact h.mono.ns p h1
    ·refine ⟨by rw [GM];exact pZ (h.ns y h1).1,λx hx=>?_⟩;rcases pM.1 hx with h2 | h2
     ·rw [h2];exact hk
     ·exact (h.ns y h1).2 x h2
theorem P0.sm {g h:Gs} {ma:Int} {x:En} (H:P0 g ma x h) (hg:jH g):jH h:=by
 rcases H.2 with ⟨_,rfl,_⟩ | ⟨_,rfl,_⟩
 ·exact And.intro (lL _) hg.2
 ·exact And.intro hg.1 (lL _)
theorem ka.keep {ma:Int} {e:Fx} {t':Th} {s':bq} (ht:gj mx n t) (hs:gb mx q n s) (h0:0≤mx) (D:ka now mx q n t ma s b e t' s'):gj mx (n+1) t'∧gb mx (q+1) (n+1) s':=by
 obtain ⟨p,hp⟩:=ht.pa;have hl:=eA ht.sl;cases D with
 |go g k st on hg hk _=>exact ⟨⟨hk,hg.sm ht.g,⟨p,hp⟩,ht.sc,hl,ht.v⟩,hs.mono⟩
 |log x g hg _=>exact ⟨⟨ht.co.mono (cL _),hg.sm ht.g,⟨p,hp⟩,ht.sc,hl,ht.v⟩,hs.mono⟩
 |out x _ _ _ _=>exact ⟨⟨ht.co.mono (cL _),ht.g,⟨p,hp⟩,ht.sc,hl,ht.v⟩,hs.mono⟩
 |set e g i nm o w k st on _ _ _ _ hw _ _ hg hk _ _=>
  refine ⟨⟨hk,?_,⟨p,hp⟩,ht.sc,hl,ht.v⟩,hs.set i nm hw⟩;rcases hg with rfl | rfl
  ·exact ht.g
  ·exact And.intro (lL _) ht.g.2
 |make o k _ _ hr _ ho hk=>
  have h1:=hp.made (d:=0) (jW _) (by omega);rw [Int.sub_zero] at h1;exact ⟨⟨hk,ht.g,⟨p,h1⟩,ht.sc,hl,ht.v⟩,hs.add (hp.pQ hr) ho.mono b⟩
 |fork l ro k d _ _ hl2 hr0 hr hk _=>
  exact ⟨⟨hk,ht.g,⟨p,hp.made hr0 hr⟩,ht.sc,hl,ht.v⟩,hs.add (hp.pQ (by omega)) (B4 mx (q+1) 6 hl2 n5 0 ⟨jW _,h0⟩) b⟩
 |scope l tk ro k _ _ hl2 hr0 hr _ _ hk=>
  refine ⟨⟨hk,And.intro ht.g.1 (lL _),⟨_,hp.child hr0 hr⟩,λx hx=>?_,?_,ht.v⟩,hs.mono⟩
  ·rcases aR.1 hx with h1 | h1
   ·exact ht.sc x h1
   ·rw [aP.1 h1];exact ⟨lL _,ht.g,⟨p,hp.made hr0 hr⟩,⟨_,rfl,hp.pQ (by omega)⟩⟩
  ·show (t.sc++_).length≤_;rw [aL];exact pZ ht.sl
theorem gj.fin (ht:gj mx n t) {v:Va} (hv:cO (bD v)) (ex:Bool):gj mx n (eX t v ex):=⟨ht.co,ht.g,ht.pa,ht.sc,ht.sl,hv⟩
theorem gb.fin (hs:gb mx q n s) {v:Va} (hv:cO (bD v)) (ex:Bool):gb mx (q+1) (n+1) (yG t s v ex).2:=by
 unfold yG;split
 ·exact hs.mono
 ·cases hl:cD t.id s.th with
  |none=>exact hs.mono
  |some p=>
   obtain ⟨i,o⟩:=p;dsimp only;split
   ·obtain ⟨p,hp,rfl⟩:=jl hl;have ho:=hs.th p hp;exact hs.set i t.id ⟨ho.l,hv,ho.w,ho.qs,eA ho.ql,ho.m⟩
   ·exact hs.mono
theorem gj.mono (ht:gj mx n t) {m:Nat} (h:n≤m):gj mx m t:=⟨ht.co.mono h,ht.g,ht.pa,ht.sc,aY ht.sl h,ht.v⟩
theorem gj.core (ht:gj mx n t) {g:Gs} {k:Co} {m:Nat} (hg:GStep t.g g) (hk:d_ mx m k) (h:n≤m):gj mx m { t with g:=g,c:=k }:=⟨hk,hg.sm ht.g,ht.pa,ht.sc,aY ht.sl h,ht.v⟩
theorem qt.keep {r:Rs} (ht:gj mx n t) (hs:gb mx q n s) (h0:0≤mx) (T:qt now mx q n t s b r):gj mx (n+2) r.t∧gb mx (q+1) (n+1) r.s:=by
 cases T with
 |idle _=>exact ⟨ht.mono (by omega),hs.mono⟩
 |core g k _ hg hk=>exact ⟨ht.core hg hk (by omega),hs.mono⟩
 |fin g k v ex _ hg hk hv=>exact ⟨(ht.core hg hk (by omega)).fin hv ex,hs.fin hv ex⟩
 |Nx k ma e t' s' _ hk _ D=>
  have:=ka.keep (t:={ t with c:=k }) ⟨hk,ht.g,ht.pa,ht.sc,ht.sl,ht.v⟩ hs h0 D;exact ⟨this.1.mono (by omega),this.2⟩
theorem Ak (ht:gj mx n t) (k:Nat):cO (bD (jD t k).1):=by
 unfold jD;cases !(t.st==2) || !((k:Int)==(t.sc.length:Int) - 1) with
 |true=>exact ga _
 |false=>
  rw [cond_false];cases !bA t.g.cur ((t.sc[k]?).getD Fa).l with
  |true=>exact ga _
  |false=>exact ht.v
theorem NM.UX {x:Sc} (h:NM x):Lc x:=by
 obtain ⟨p,e,hg⟩:=h.nm;have:Md x=p:=by unfold Md;rw [e];exact rT hg.1 hg.2.2
 exact ⟨by rw [this];exact e,by rw [this];exact hg,h.l⟩
theorem oJ (ht:gj mx n t) (hs:gb mx q n s) (h0:0≤mx) (b:Option Nat):gj mx (n+1) (dX t s now b).1∧gb mx (q+1) (n+1) (dX t s now b).2:=by
 unfold dX;cases hi:t.sc[gQ now t.sc]? with
 |none=>exact ⟨ht.mono (cL _),hs.mono⟩
 |some x=>
  have hx:=ht.sc x (aH hi);have hg:=hx.UX;refine ⟨⟨(ht.co.cut _ _ _).push hx.l,hx.g,hx.pa,λy hy=>ht.sc y (eR hy),?_,n5⟩,hs.add hg.g ?_ b⟩
  ·show (t.sc.take _).length≤_;have:=ht.sl;rw [ah];omega
  ·exact ⟨hx.l,Ak ht _,n5,λx hx=>(by cases hx),aj _,jW _,h0⟩
def kG (im:Im) (now:Int) (b b':Option Nat) (t:Th) (s:bq):Rs:=EL im (dX t s now b).1 (dX t s now b).2 now b'
theorem rZ {im:Im} (hP:tw im) (ht:gj mx n t) (hs:gb mx q n s) (h0:0≤mx) (hx:mx≤255) (hn:n<40000000) (b b':Option Nat) :
  qt now mx (q+1) (n+1) (dX t s now b).1 (dX t s now b).2 b' (kG im now b b' t s):=
 have h:=oJ ht hs h0 b
 Gm hP h.1 h.2 h0 hx (by omega) b'
theorem zG {im:Im} (hP:tw im) (ht:gj mx n t) (hs:gb mx q n s) (h0:0≤mx) (hx:mx≤255) (hn:n<40000000) (b b':Option Nat) :
  gj mx (n+3) (kG im now b b' t s).t∧gb mx (q+2) (n+2) (kG im now b b' t s).s:=
 have h:=oJ ht hs h0 b
 qt.keep h.1 h.2 h0 (rZ hP ht hs h0 hx hn b b')
end
end Go.Proofs.YtjpgfgajkjhonaaGreatDoor
namespace Go.Proofs.YtjpgfgajkjhonaaGreatDoor
open Go.Vx
set_option maxRecDepth 100000
section
variable {mx:Int} {q n:Nat} {t:Th} {s:bq} {now:Int} {b:Option Nat}
def u0 (t:Th):Bool:=(t.st==3)||(t.st==4)
structure EI (mx:Int) (q n:Nat) (dn:Nat) (t:Th) (s:bq):Prop where
  th:gj mx n t
  so:gb mx q n s
  id:t.id = [51]
  c:∃i o,cD [51] s.th=some (i,o)∧o.k=6∧o.dn=u0 t∧(u0 t=true→o.v=t.v∧o.ex=t.ex∧t.ex=(t.st==4)∧t.sc = [])
  d:dn=bif u0 t then 1 else 0
theorem ka.run {ma:Int} {e:Fx} {t':Th} {s':bq} (D:ka now mx q n t ma s b e t' s') (h:t.st=0):t'.id=t.id∧(t'.st=0∨t'.st=1):=by
 cases D with
 |go g k st on _ _ hs=>exact ⟨rfl,by rcases hs with rfl | rfl<;>simp [h]⟩
 |log | out | make | fork | scope=>exact ⟨rfl,.inl h⟩
 |set e g j nm p w k st on _ _ _ _ _ _ _ _ _ hs=>exact ⟨rfl,by rcases hs with rfl | rfl<;>simp [h]⟩
end
end Go.Proofs.YtjpgfgajkjhonaaGreatDoor
namespace Go.Proofs.YtjpgfgajkjhonaaGreatDoor
open Go.Vx
set_option maxRecDepth 100000
section
variable {mx:Int} {q n:Nat} {t:Th} {s:bq} {now:Int} {b:Option Nat}
def names (s:bq):List (List UInt8):=s.th.map (·.1)
end
end Go.Proofs.YtjpgfgajkjhonaaGreatDoor
