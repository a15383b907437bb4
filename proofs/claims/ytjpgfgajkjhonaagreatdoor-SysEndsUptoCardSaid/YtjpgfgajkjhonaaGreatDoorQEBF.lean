/- What each step of a core keeps: its size, small labels, masks. Conditions: as told. -/
import Derived.Test.YtjpgfgajkjhonaaGreatDoorQEBE
namespace Go.Proofs.YtjpgfgajkjhonaaGreatDoor
open Go.Vx
set_option maxRecDepth 100000
theorem lA:cL ⟨[],[]⟩:=⟨ak _,ak _⟩
theorem gD (n:Int):cL (bB (num n)):=lA
theorem jy:cL (bB zeroV):=lA
theorem l_:cL (bB dR):=lA
structure nh (mx:Int) (f:Fr):Prop where
  m:0≤f.ma∧f.ma≤mx
  v:f.vars.length≤40
  s:∀v∈f.vars,cL (bB v)
structure d_ (mx:Int) (n:Nat) (c:Co):Prop where
  fr:c.fr.length≤16
  f:∀f∈c.fr,nh mx f
  st:c.st.length≤n
  s:∀v∈c.st,cL (bB v)
  tr:c.tr.length≤n
structure vL (im:Im):Prop where
  hI:C3 im
  ar:∀g∈im.fs,g.args≤10
  cd:∀g∈im.fs,g.code.length<1000000000
  dm:∀g∈im.fs,∀o∈g.code,o.c≠24∧o.c≠31
  cs:∀v∈im.cs,cL (bB v)
section
variable {mx:Int} {n:Nat} {c:Co}
theorem mG {α:Type} {l:List α} {k:Int} {x:α} (h:x∈gf l k):x∈l:=eR h
theorem nE {α:Type} (l:List α) (k:Int):(gf l k).length≤l.length:=by
 unfold gf;rw [ah];omega
theorem d_.mono {m:Nat} (h:d_ mx n c) (hm:n≤m):d_ mx m c:=⟨h.fr,h.f,aY h.st hm,h.s,aY h.tr hm⟩
theorem d_.cut (h:d_ mx n c) (f k t:Int):d_ mx n (DR c f k t):=
 ⟨aY (nE _ _) h.fr,λx hx=>h.f x (mG hx),aY (nE _ _) h.st,λx hx=>h.s x (mG hx),aY (nE _ _) h.tr⟩
theorem d_.lay (h:d_ mx n c) (l:List Va) (hl:∀v∈l,cL (bB v)):d_ mx (n+l.length) ⟨c.fr,c.st++l,c.tr⟩:=
 ⟨h.fr,h.f,by have:=h.st;show (c.st++l).length≤_;rw [aK];omega,λx hx=>(aT.1 hx).elim (h.s x) (hl x),aY h.tr (Nat.le_add_right _ _)⟩
theorem d_.push (h:d_ mx n c) {v:Va} (hv:cL (bB v)):d_ mx (n+1) (jH c v):=h.lay [v] λx hx=>by rw [aO.1 hx];exact hv
theorem d_.pop (h:d_ mx n c) (k:Int):d_ mx n (qP c k):=⟨h.fr,h.f,aY (nE _ _) h.st,λx hx=>h.s x (mG hx),h.tr⟩
theorem d_.kK (h:d_ mx n c) (k:Int):∀v∈kK c k,cL (bB v):=λv hv=>h.s v (dr hv)
theorem d_.get (h:d_ mx n c) (k:Int) (i:Nat):cL (bB (((Go.Proofs.YtjpgfgajkjhonaaGreatDoor.kK c k)[i]?).getD zeroV)):=by
 cases hi:(Go.Proofs.YtjpgfgajkjhonaaGreatDoor.kK c k)[i]? with
 |none=>exact lA
 |some v=>exact h.kK k v (aH hi)
theorem d_.bW (h:d_ mx n c) (l:List Fr) (h1:l.length≤16) (h2:∀f∈l,nh mx f):d_ mx n ⟨l,c.st,c.tr⟩:=⟨h1,h2,h.st,h.s,h.tr⟩
theorem nh.at {f g:Fr} (h:nh mx f) (h1:g.vars=f.vars) (h2:g.ma=f.ma):nh mx g:=⟨by rw [h2];exact h.m,by rw [h1];exact h.v,by rw [h1];exact h.s⟩
theorem u_ {P:Fr→Prop} {l:List Fr} (h:∀f∈l,P f) (i:Nat) {g:Fr} (hg:P g):∀f∈l.set i g,P f:=λf hf=>by
 rcases List.mem_or_eq_of_mem_set hf with h1 | h1
 ·exact h f h1
 ·rw [h1];exact hg
theorem Eu {f:Fr} (h:d_ mx n c) (hf:nh mx f):(bU c.fr f).length≤16∧∀g∈bU c.fr f,nh mx g:=by
 unfold bU;exact ⟨by rw [gQ];exact h.fr,u_ h.f _ (hf.at rfl rfl)⟩
theorem J1 {f:Fr} {l:List Fr} (h:l.length≤16∧∀g∈l,nh mx g) (hf:nh mx f):(eb l f).length≤16∧∀g∈eb l f,nh mx g:=by
 unfold eb;exact ⟨by rw [gQ];exact h.1,u_ h.2 _ hf⟩
theorem EE {l:List Fr} (i:Nat) (pc:Int) (h:l.length≤16∧∀g∈l,nh mx g):(uA l i pc).length≤16∧∀g∈uA l i pc,nh mx g:=by
 unfold uA;cases hi:l[i]? with
 |none=>exact h
 |some f=>exact ⟨by rw [gQ];exact h.1,u_ h.2 _ ((h.2 f (aH hi)).at rfl rfl)⟩
theorem d_.throw (h:d_ mx n c) (t:Tr) (code:Int):d_ mx (n+1) (rC c t code):=by
 have h1:=h.cut t.f t.h (c.tr.length - 1);obtain ⟨a,b⟩:=EE (t.f - 1).toNat t.a ⟨h1.fr,h1.f⟩;exact (h1.bW _ a b).push (gD code)
structure e9 (mx:Int) (n:Nat) (r:Co×Ou):Prop where
  c:d_ mx n r.1
  v:cL (bB r.2.v)
theorem d_.raise (h:d_ mx n c) (code kp:Int):e9 mx (n+1) (raise c code kp):=by
 unfold Go.Proofs.YtjpgfgajkjhonaaGreatDoor.raise ll;cases decide ((c.tr.length:Int) - 1<max kp 0) with
 |true=>exact ⟨h.mono (cK _),gD _⟩
 |false=>
  rw [cond_false];cases c.tr.getLast? with
  |none=>exact ⟨h.mono (cK _),gD _⟩
  |some t=>
   dsimp only;cases pw c t with
   |true=>exact ⟨h.throw t code,jy⟩
   |false=>exact ⟨h.mono (cK _),gD _⟩
theorem d_.enter (h:d_ mx n c) (he:dZ c=true) (fn vs:Int) (l:List Va) (ma:Int) (hl:l.length≤20) (hs:∀v∈l,cL (bB v)) (hm:0≤ma∧ma≤mx):d_ mx n (ft c fn vs l ma):=by
  have h16:c.fr.length<16:=of_decide_eq_true he
  refine h.bW _ (by rw [aK];exact h16) λf hf=>?_
  rcases aT.1 hf with h1 | h1
  · exact h.f f h1
  · rw [aO.1 h1]
    refine ⟨hm,?_,λv hv=>?_⟩
    · show (l++pj (min (max vs 0) 16).toNat).length≤40
      unfold pj
      rw [aK,List.length_replicate]
      omega
    · rcases aT.1 hv with h2 | h2
      · exact hs v h2
      · unfold pj at h2
        rw [(List.mem_replicate.1 h2).2]
        exact gD 0
theorem e9.bif {b:Bool} {x y:Co×Ou} (hx:e9 mx n x) (hy:b=false→e9 mx n y):e9 mx n (bif b then x else y):=by
 cases b
 ·exact hy rfl
 ·exact hx
theorem e9.T2 {b:Bool} {x y:Co×Ou} (hx:b=true→e9 mx n x) (hy:b=false→e9 mx n y):e9 mx n (bif b then x else y):=by
 cases b
 ·exact hy rfl
 ·exact hx rfl
theorem K8 {l:Lb} (h:cL l):cL (bB (qC l)):=h
theorem JY {a ma:Int} (h:0≤ma∧ma≤mx) (hx:mx≤255):0≤xU a ma∧xU a ma≤mx:=by
 unfold xU;obtain ⟨x,hx'⟩:∃x:UInt8,ma=(x.toNat:Int):=⟨UInt8.ofNat ma.toNat,by rw [mV,dq (by omega)];omega⟩
 obtain ⟨y,hy⟩:∃y:UInt8,IntKind.u8.wrap (jS .and .i64 a 255)=(y.toNat:Int):=by
  have:∀z:Int,∃y:UInt8,IntKind.u8.wrap z=(y.toNat:Int):=λz=>by
   refine ⟨UInt8.ofNat (z % 256).toNat,?_⟩;rw [mV];show z % 256=_;omega
  exact this _
 rw [hx',hy,wD];have:(x &&& y).toNat≤x.toNat:=by rw [UInt8.toNat_and];exact Nat.and_le_left
 omega
end
section
variable {mx:Int} {n:Nat} {c:Co} {im:Im}
theorem y6 {fr tr:Int} (hP:vL im) (h:d_ mx n c) (hx:mx≤255):e9 mx (n+2) (dw im c fr tr):=by
 have h1:=λ(code kp:Int)=>show e9 mx (n+2) (raise c code kp) from let r:=h.raise code kp;⟨r.c.mono (by omega),r.v⟩;unfold dw;cases hf:fit im c with
 |none=>exact ⟨h.mono (by omega),gD _⟩
 |some o=>
  obtain ⟨f,fn,hl,w1,hfn,w2,ho,hr,hop,hpo⟩:=mO hf;simp only [hl];have hfo:nh mx f:=h.f f (List.mem_of_getLast? hl);have hn:=Eu h hfo;have hp:=h.pop (fH im o);have hp':d_ mx n ⟨bU c.fr f,jA (cz im c o 0 0),c.tr⟩:=hp.bW _ hn.1 hn.2;have ha:cL (bB (tD im c o)):=h.get _ 0;have hb:cL (bB (pL im c o)):=h.get _ 1;have hlay:∀l:List Va,l.length≤2→(∀v∈l,cL (bB v))→e9 mx (n+2) (ev im c o f l):=λl h2 h3=>⟨(hp'.lay l h3).mono (by omega),jy⟩
  have l0:=hlay [] (by decide) λv hv=>by cases hv
  have l1:∀v,cL (bB v)→e9 mx (n+2) (ev im c o f [v]):=λv hv=>hlay [v] (cK 1) λw hw=>by rw [aO.1 hw];exact hv
  have l2:∀v w,cL (bB v)→cL (bB w)→e9 mx (n+2) (ev im c o f [v,w]):=λv w hv hw=>hlay [v,w] (aQ 2) λx hx=>by
   rcases ae.1 hx with e | e
   ·rw [e];exact hv
   ·rw [aO.1 e];exact hw
  have hlast:∀g:Fr,nh mx g→e9 mx (n+2) (⟨eb (bU c.fr f) g,jA (cz im c o 0 0),c.tr⟩,cD):=λg hg=>by
   have:=J1 hn hg;exact ⟨(hp.bW _ this.1 this.2).mono (by omega),jy⟩
  have hret:d_ mx n (fm c):=⟨aY (nE _ _) h.fr,λx hx=>h.f x (mG hx),aY (nE _ _) h.st,λx hx=>h.s x (mG hx),aY (List.length_filter_le _ _) h.tr⟩
  have hrv:cL (bB (qO c)):=h.get _ 0;unfold Ar;refine e9.bif ?_ λh3=>e9.bif ?_ λh22=>e9.bif ?_ λh23=>?_
  ·refine hlast _ ⟨hfo.m,by show (f.vars.set _ _).length≤40;rw [gQ];exact hfo.v,λv hv=>?_⟩;rcases List.mem_or_eq_of_mem_set hv with h2 | h2
   ·exact hfo.s v h2
   ·rw [h2];exact ha
  ·exact e9.bif (l1 _ (K8 (oI _ _))) λ_=>h1 _ _
  ·exact e9.bif (l1 _ (K8 (Hg _ _))) λ_=>h1 _ _
  ·unfold mE;refine e9.bif (l1 _ ?_) λ_=>e9.bif (l1 _ ?_) λ_=>e9.bif l0 λ_=>e9.bif (l2 _ _ ha ha) λ_=>e9.bif (l2 _ _ hb ha) λ_=>e9.bif (l1 _ (gD _)) λ_=>
    e9.bif (e9.bif ?_ λ_=>h1 _ _) λ_=>e9.bif (e9.bif (l1 _ (gD _)) λ_=>h1 _ _) λ_=>e9.bif (hlast _ (hfo.at rfl rfl)) λ_=>
    e9.bif (e9.bif (e9.bif l0 λ_=>hlast _ (hfo.at rfl rfl)) λ_=>h1 _ _) λh16=>e9.T2 (λh17=>?_) λ_=>e9.bif (e9.bif ⟨hret.mono (by omega),hrv⟩ λ_=>?_) λ_=>
    e9.bif (e9.bif (h1 _ _) λ_=>h1 _ _) λ_=>e9.bif ?_ λ_=>e9.bif (e9.bif ?_ λ_=>l0) λ_=>e9.bif (hlast _ ?_) λ_=>e9.bif (l1 _ (gD _)) λ_=>⟨h.mono (by omega),jy⟩
   ·cases hi:im.cs[o.a.toNat]? with
    |none=>exact lA
    |some v=>exact hP.cs v (aH hi)
   ·cases hi:f.vars[o.a.toNat]? with
    |none=>exact lA
    |some v=>exact hfo.s v (aH hi)
   ·split
    ·exact l1 _ (gD _)
    ·exact h1 _ _
   ·have h17:o.c=17:=by simpa using h17
    have hlen:=(mC hpo).1;have htk:(fH im o).toNat≤14:=by
     unfold fH;cases hi:inf o.c with
     |none=>exact ak _
     |some i=>
      obtain ⟨_,_,_,_,_,q,_⟩:=sA hi;dsimp only;rw [show (o.c==17)=true by simp [h17],cond_true];cases hg:im.fs[o.a.toNat]? with
      |none=>dsimp only;omega
      |some g=>
       have:=hP.ar g (aH hg);dsimp only;omega
    cases he:dZ ⟨bU c.fr f,jA (cz im c o 0 0),c.tr⟩ with
    |false=>exact h1 _ _
    |true=>
     rw [cond_true];have:=hp'.enter he o.a (match im.fs[o.a.toNat]? with | some g=>g.vars | none=>0) (mc (cz im c o 0 0)) f.ma (by show (kK c (fH im o)).length≤20;omega) (h.kK _) hfo.m;exact ⟨this.mono (by omega),jy⟩
   ·exact ⟨(hret.push hrv).mono (by omega),jy⟩
   ·refine ⟨⟨hn.1,hn.2,aY hp.st (by omega),hp.s,?_⟩,jy⟩;have:=h.tr;show (c.tr++_).length≤_;rw [aK];show c.tr.length+1≤_;omega
   ·refine ⟨⟨hn.1,hn.2,aY hp.st (by omega),hp.s,?_⟩,jy⟩;have:=h.tr;show (c.tr.take _).length≤_;rw [ah];omega
   ·exact ⟨JY hfo.m hx,hfo.v,hfo.s⟩
theorem d_.x {im:Im} (hP:vL im) (h:d_ mx n c) (hx:mx≤255) (hn:n<700000000):Nx im c where
 hI:=hP.hI
 cd:=λi g hg=>hP.cd g (aH hg)
 lf:=by have:=h.fr;omega
 ls:=by have:=h.st;omega
 lt:=by have:=h.tr;omega
 ma:=λf hf=>by
  have:=h.f f (List.mem_of_getLast? hf);exact ⟨⟨this.m.1,by have:=this.m.2;omega⟩,by have:=this.v;omega⟩
 sm:=h.s
 dm:=λo ho=>by
  obtain ⟨f,fn,_,_,hfn,_,hoc,_⟩:=mO ho;exact hP.dm fn (aH hfn) o (aH hoc)
end
end Go.Proofs.YtjpgfgajkjhonaaGreatDoor
namespace Go.Proofs.YtjpgfgajkjhonaaGreatDoor
open Go.Vx
set_option maxRecDepth 100000
theorem fS {g:Gs} {l:Lb}:bR g l=0↔b7 g.cur l=true∧b7 l g.fU=true:=by
 show (bif b7 g.cur l then (bif b7 l g.fU then 0 else -4) else -3)=(0:Int)↔_;cases b7 g.cur l<;>cases b7 l g.fU<;>simp
theorem CB {g:Gs} {l:Lb}:dM g l=0↔b7 (dU g.cur l) g.fU=true:=by
 show (bif b7 (dU g.cur l) g.fU then 0 else -4)=(0:Int)↔_;cases b7 (dU g.cur l) g.fU<;>simp
theorem Cf {g:Gs} {l:Lb}:i_ g l=0↔b7 l g.fU=true∧b7 g.cur l=true:=by
 show (bif b7 l g.fU then (bif b7 g.cur l then 0 else -3) else -4)=(0:Int)↔_;cases b7 g.cur l<;>cases b7 l g.fU<;>simp
theorem GD {g:Gs} {l:Lb} {p:Int}:ki g l p=0↔fY g.cur l p=true∧b7 l g.fU=true:=by
 show (bif fY g.cur l p then (bif b7 l g.fU then 0 else -4) else -3)=(0:Int)↔_;cases fY g.cur l p<;>cases b7 l g.fU<;>simp
theorem FM {g:Gs} {l:Lb} {p:Int}:kX g l p=0↔fY l g.fU p=true∧b7 g.cur l=true:=by
 show (bif fY l g.fU p then (bif b7 g.cur l then 0 else -3) else -4)=(0:Int)↔_;cases fY l g.fU p<;>cases b7 g.cur l<;>simp
inductive GStep (g:Gs):Gs→Prop where
  |same:GStep g g
  |K6 (l:Lb):b7 (dU g.cur l) g.fU=true→GStep g ⟨dU g.cur l,g.fU⟩
  |both (l:Lb):b7 g.cur l=true→b7 l g.fU=true→GStep g ⟨gI l,g.fU⟩
  |lower (l:Lb):b7 g.cur l=true→b7 l g.fU=true→GStep g ⟨g.cur,gI l⟩
theorem GStep.sm {g h:Gs} (H:GStep g h) (hg:iv g):iv h:=by
 cases H with
 |same=>exact hg
 |K6 l _=>exact And.intro (oI _ _) hg.2
 |both l _ _=>exact And.intro (k_ _) hg.2
 |lower l _ _=>exact And.intro hg.1 (k_ _)
structure ju (mx:Int) (q:Nat) (o:Ob):Prop where
  l:cL o.l
  v:cL (bB o.v)
  w:cL (bB o.va.v)
  qs:∀x∈o.va.q,cL (bB x.v)
  ql:o.va.q.length≤q
  m:0≤o.ma∧o.ma≤mx
structure gw (mx:Int) (q n:Nat) (s:bq):Prop where
  nm:s.nm.length≤n
  ns:∀p∈s.nm,p.2.2.length≤n∧∀x∈p.2.2,gK x
  th:∀p∈s.th,ju mx q p.2
def Ng (g:Gs) (ma:Int) (x:En) (h:Gs):Prop:=x.ma=ma ∧
  ((x.fr = g.cur ∧ h = ⟨gI x.to, g.fU⟩ ∧ fY g.cur x.to ma = true ∧ b7 x.to g.fU = true ∧ b7 g.cur x.to = false) ∨
   (x.fr=g.fU∧h=⟨g.cur,gI x.to⟩∧fY x.to g.fU ma=true∧b7 g.cur x.to=true∧b7 x.to g.fU=false))
inductive lT (now mx:Int) (q n:Nat) (t:Th) (ma:Int) (s:bq) (b:Option Nat):Fx→Th→bq→Prop where
  |go (g:Gs) (k:Co) (st:Int) (on:List UInt8):GStep t.g g→d_ mx (n+1) k→(st=t.st∨st=1)→lT now mx q n t ma s b .no { t with g:=g,c:=k,st:=st,on:=on } s
  |log (x:En) (g:Gs):Ng t.g ma x g→cL x.to→lT now mx q n t ma s b (.log x) { t with g:=g } s
  |out (x:Ev):b7 t.g.cur x.l=true→b7 x.l t.g.fU=true→cL x.l→cL (bB x.v)→lT now mx q n t ma s b (.out x) t s
  |set (e:Fx) (g:Gs) (i:Nat) (nm:List UInt8) (o p:Ob) (k:Co) (st:Int) (on:List UInt8):bN nm s.th=some (i,o)→(o.k=4∨o.k=5)→p.k=o.k→p.l=o.l→ju mx (q+1) p →
      b7 t.g.cur o.l=true→b7 o.l t.g.fU=true→(g=t.g∨g=⟨gI o.l,t.g.fU⟩)→d_ mx (n+1) k→(st=t.st∨st=1)→(e = .no∨∃w,e = .L9 w∧∀v∈w.l,cL (bB v)) →
      lT now mx q n t ma s b e { t with g:=g,c:=k,st:=st,on:=on } (kF s i nm p)
  |make (o:Ob) (k:Co):b7 t.g.cur o.l=true→b7 o.l t.g.fU=true→1≤t.ro→(o.k=3∨o.k=4∨o.k=5∨o.k=7)→ju mx q o→d_ mx (n+1) k →
      lT now mx q n t ma s b .no { j4 t with c:=k } (ij s (l4 t) o b)
  |fork (l:Lb) (ro:Int) (k d:Co):b7 t.g.cur l=true→b7 l t.g.fU=true→cL l→0≤ro→ro<t.ro→d_ mx (n+1) k→d_ mx n d →
      lT now mx q n t ma s b (.fork (xK (cr (l4 t)) ⟨t.g.cur,gI l⟩ d ro)) { j4 t with ro:=t.ro - 1 - ro,c:=k } (ij s (l4 t) { fG with k:=6,l:=l } b)
  |scope (l:Lb) (tk ro:Int) (k:Co):b7 t.g.cur l=true→b7 l t.g.fU=true→cL l→0≤ro→ro<t.ro→1≤tk→tk≤1000→d_ mx (n+1) k →
      lT now mx q n t ma s b .no { t with sc:=t.sc ++ [sO t l tk ro now (cr (l4 t))],c:=k,g:=⟨t.g.cur,gI l⟩,pa:=cr (l4 t),ma:=0,ro:=ro } s
def fD (mx:Int) (q n:Nat) (c:Ca) (s:bq):OR→Prop
 |.ok e f=>∀b,lT c.now mx q n c.t c.ma s b e (f b).1.t (f b).2
 |.ex _ c' s'=>s'=s∧c'.tr=c.tr∧∃g,GStep c.t.g g∧c'.t={ c.t with g:=g }
structure oE (mx:Int) (q n:Nat) (c:Ca) (s:bq):Prop where
  co:d_ mx n c.t.c
  g:iv c.t.g
  a:∀v∈c.ar,cL (bB v)
  m:0≤c.ma∧c.ma≤mx
  so:gw mx q n s
section
variable {mx:Int} {q n:Nat} {c:Ca} {s:bq}
theorem cj {b:Bool} {x y:OR} (hx:b=true→fD mx q n c s x) (hy:b=false→fD mx q n c s y):fD mx q n c s (bif b then x else y):=by
 cases b
 ·exact hy rfl
 ·exact hx rfl
theorem dO (m:Int):fD mx q n c s (.ex m c s):=⟨rfl,rfl,c.t.g,.same,rfl⟩
theorem oE.ar (h:oE mx q n c s) (i:Nat):cL (bB (c.ar[i]?.getD dR)):=by
 cases hi:c.ar[i]? with
 |none=>exact lA
 |some v=>exact h.a v (aH hi)
theorem oE.look (h:oE mx q n c s) {nm:List UInt8} {i:Nat} {o:Ob} (hl:bN nm s.th=some (i,o)):ju mx q o:=by
 obtain ⟨p,hp,rfl⟩:=j7 hl;exact h.so.th p hp
theorem xJ (mx:Int) (q:Nat) (k:Int) {l:Lb} (hl:cL l) {v:Va} (hv:cL (bB v)) (fu:Int) {ma:Int} (hm:0≤ma∧ma≤mx):ju mx q { fG with k:=k,l:=l,v:=v,fu:=fu,ma:=ma }:=
 ⟨hl,hv,l_,λx hx=>(by cases hx),ak _,hm⟩
theorem jZ {s:bq} {h:Va} {i:Nat} {o:Ob} (ht:dE s h=some (i,o)):bN h.nm s.th=some (i,o)∧o.k=h.k∧o.l=bB h:=by
 unfold dE at ht;cases hl:bN h.nm s.th with
 |none=>rw [hl] at ht;cases ht
 |some p=>
  obtain ⟨j,p⟩:=p;rw [hl] at ht;dsimp only at ht;cases hb:(p.k==h.k)&&((p.l.s==h.ls)&&(p.l.i==h.li)) with
  |false=>rw [hb] at ht;cases ht
  |true=>
   rw [hb,cond_true,aF,ck] at ht;obtain ⟨rfl,rfl⟩:=ht;simp only [aS,beq_iff_eq] at hb;refine ⟨rfl,hb.1,?_⟩;unfold bB;rw [←hb.2.1,←hb.2.2]
theorem ru {k:Int} {ks:List Int} {ar:List Va} (h:bz (k :: ks) ar=true) (hl:0<ar.length) (hk:k≠0):(ar[0]?.getD dR).k=k:=by
 match ar,hl with
 |v :: r,_=>
  unfold bz at h;rw [List.zip_cons_cons,kO,aS,cP] at h;rcases h.1 with h1 | h1
  ·exact absurd (by simpa using h1) hk
  ·show v.k=k;simpa using h1
theorem jf {a:Int} (h:(a==0)=true):a=0:=by simpa using h
theorem Mk {a:Int} (h:(a==0)=false):a≠0:=by simpa using h
theorem CD {g:Gs} {l:Lb} (h:dM g l=0):cu g l=⟨dU g.cur l,g.fU⟩:=by
 unfold cu;rw [show (dM g l==0)=true by simp [h],cond_true]
theorem sW {g:Gs} {l:Lb} (h:bR g l=0):sX g l=⟨gI l,g.fU⟩:=by
 unfold sX;rw [show (bR g l==0)=true by simp [h],cond_true]
theorem nX {g:Gs} {l:Lb} (h:dM g l=0):GStep g (cu g l):=by
 rw [CD h];exact .K6 l (CB.1 h)
theorem u5 {g:Gs} {l:Lb} (h:bR g l=0):GStep g (sX g l):=by
 rw [sW h];exact .both l (fS.1 h).1 (fS.1 h).2
theorem je (g:Gs) (k:Co) (hg:GStep c.t.g g) (hk:d_ mx (n+1) k):∀b,lT c.now mx q n c.t c.ma s b .no { c.t with g:=g,c:=k } s:=
 λ_=>.go g k c.t.st c.t.on hg hk (.inl rfl)
theorem Jy (h:oE mx q n c s):fD mx q n c s (NQ c s):=je c.t.g _ .same (h.co.push h.g.1)
theorem Jz (h:oE mx q n c s):fD mx q n c s (NV c s):=je c.t.g _ .same (h.co.push h.g.2)
theorem DN (h:oE mx q n c s):fD mx q n c s (n6 c s):=
 cj (λ_=>cj (λh1=>je _ _ (nX (jf h1)) (h.co.mono (cK _))) λ_=>dO _) λ_=>dO _
theorem DO (h:oE mx q n c s):fD mx q n c s (vU c s):=
 cj (λ_=>cj (λh1=>by
  have h2:=Cf.1 (jf h1);refine je _ _ ?_ (h.co.mono (cK _));unfold rZ;rw [h1,cond_true];exact .lower _ h2.2 h2.1) λ_=>dO _) λ_=>dO _
theorem sR (h:oE mx q n c s) (o:Ob) (hk:o.k=3∨o.k=4∨o.k=5∨o.k=7) (ho:ju mx q o):fD mx q n c s (jI c s o):=by
 unfold jI;refine cj (λh1=>cj (λ_=>dO _) λh2=>λb=>?_) λ_=>dO _;have h3:=fS.1 (jf h1);have h2:=of_decide_eq_false h2;exact .make o _ h3.1 h3.2 (by omega) hk ho (h.co.push ho.l)
theorem B1 (h:oE mx q n c s) (h0:0≤mx) (k:Int) (hk:k=3∨k=4):fD mx q n c s (rV k c s):=
 cj (λ_=>sR h _ (by rcases hk with e | e<;>simp [e]) (xJ mx q k (h.ar 1) (h.ar 0) 0 ⟨jK _,h0⟩)) λ_=>dO _
theorem GN (h:oE mx q n c s) (h0:0≤mx):fD mx q n c s (vO c s):=
 cj (λ_=>sR h _ (.inr (.inr (.inl rfl))) (xJ mx q 5 (h.ar 0) l_ 0 ⟨jK _,h0⟩)) λ_=>dO _
theorem GO (h:oE mx q n c s):fD mx q n c s (vP c s):=
 cj (λ_=>sR h _ (.inr (.inr (.inr rfl))) (xJ mx q 7 (h.ar 0) l_ c.o.a h.m)) λ_=>dO _
theorem GM (h:oE mx q n c s):fD mx q n c s (rT c s):=by
 refine cj (λ_=>?_) λ_=>dO _;unfold oQ;refine cj (λh1=>?_) λ_=>dO _;have h2:=nX (jf h1);cases ht:dE s (c.ar[0]?.getD dR) with
 |none=>exact je _ _ h2 (h.co.push (gD 0))
 |some p=>
  obtain ⟨i,o⟩:=p;have ho:=h.look (jZ ht).1;dsimp only;unfold lV;cases o.ex with
  |true=>exact ⟨rfl,rfl,_,h2,rfl⟩
  |false=>exact je _ _ h2 (h.co.push ho.v)
theorem p6 (h:oE mx q n c s) (v:Va) (go:Ca→bq→Ob→RQ) (hg:∀g o,GStep c.t.g g→ju mx q o→fD mx q n c s (go { c with t:={ c.t with g:=g } } s o).or):fD mx q n c s (gn c s v go).or:=by
 unfold gn;cases h1:dM c.t.g (bB v)==0 with
 |false=>exact dO _
 |true=>
  rw [cond_true];have h2:=nX (jf h1);cases ht:dE s v with
  |none=>exact je _ _ h2 (h.co.push (gD 0))
  |some p=>
   obtain ⟨i,o⟩:=p;exact hg _ _ h2 (h.look (jZ ht).1)
theorem xi (h:oE mx q n c s):fD mx q n c s (oP c s):=
 cj (λ_=>p6 h _ _ λg _ hg ho=>je g _ hg (h.co.push ho.v)) λ_=>dO _
theorem GK (h:oE mx q n c s):fD mx q n c s (A0 c s):=by
 refine cj (λ_=>p6 h _ _ λg o hg ho=>?_) λ_=>dO _;unfold lj;cases o.dn with
 |false=>exact λb=>.go g c.t.c 1 _ hg (h.co.mono (cK _)) (.inr rfl)
 |true=>
  cases o.ex with
  |true=>exact ⟨rfl,rfl,g,hg,rfl⟩
  |false=>exact je g _ hg (h.co.push ho.v)
theorem DP (h:oE mx q n c s):fD mx q n c s (qn c s):=by
 refine cj (λ_=>p6 h _ _ λg o hg ho=>?_) λ_=>dO _;unfold jd;cases he:dZ c.t.c with
 |false=>exact ⟨rfl,rfl,g,hg,rfl⟩
 |true=>
  have h1:=h.co.enter he o.fu (gF c.im o.fu) (c.ar.take 1) o.ma (aY (List.length_take_le _ _) (by decide)) (λv hv=>h.a v (eR hv)) ho.m;exact je g _ hg (h1.mono (cK _))
theorem Jw (h:oE mx q n c s):fD mx q n c s (yy c s):=
 cj (λ_=>cj (λh1 _=>.out _ (fS.1 (jf h1)).1 (fS.1 (jf h1)).2 (h.ar 1) (h.ar 0)) λ_=>dO _) λ_=>dO _
theorem GR (h:oE mx q n c s):fD mx q n c s (B0 c s):=by
 refine cj (λ_=>cj (λh1 b=>?_) λ_=>dO _) λ_=>dO _;have h2:=GD.1 (jf h1);unfold zQ sP uY;rw [h1,cond_true,cond_true];cases hf:b7 c.t.g.cur (bB (c.ar[0]?.getD dR)) with
 |true=>exact .go _ c.t.c c.t.st c.t.on (.both _ hf h2.2) (h.co.mono (cK _)) (.inl rfl)
 |false=>exact .log _ _ ⟨rfl,.inl ⟨rfl,rfl,h2.1,h2.2,hf⟩⟩ (h.ar 0)
theorem GP (h:oE mx q n c s):fD mx q n c s (BK c s):=by
 refine cj (λ_=>cj (λh1 b=>?_) λ_=>dO _) λ_=>dO _;have h2:=FM.1 (jf h1);unfold zQ rh uN;rw [h1,cond_true,cond_true];cases hf:b7 (bB (c.ar[0]?.getD dR)) c.t.g.fU with
 |true=>exact .go _ c.t.c c.t.st c.t.on (.lower _ h2.2 hf) (h.co.mono (cK _)) (.inl rfl)
 |false=>exact .log _ _ ⟨rfl,.inr ⟨rfl,rfl,h2.1,h2.2,hf⟩⟩ (h.ar 0)
theorem DL (h:oE mx q n c s) (hl:c.ar.length=2):fD mx q n c s (pJ c s):=by
 refine cj (λhk=>cj (λh1=>?_) λ_=>dO _) λ_=>dO _;have h2:=fS.1 (jf h1);cases ht:dE s (c.ar[0]?.getD dR) with
 |none=>exact je c.t.g c.t.c .same (h.co.mono (cK _))
 |some p=>
  obtain ⟨i,o⟩:=p;obtain ⟨g1,g2,g3⟩:=jZ ht;have ho:=h.look g1;rw [←g3] at h2;exact λb=>.set .no c.t.g i _ o { o with v:=c.ar[1]?.getD dR } c.t.c c.t.st c.t.on g1 (.inl (by rw [g2];exact ru hk (by omega) (by decide))) rfl rfl ⟨ho.l,h.ar 1,ho.w,ho.qs,dV ho.ql,ho.m⟩ h2.1 h2.2 (.inl rfl) (h.co.mono (cK _)) (.inl rfl) (.inl rfl)
theorem uW {l:List Wt} {i:Nat} {x:Wt} (h:x∈qH l i):x∈l:=by
 unfold qH at h;rcases aT.1 h with h1 | h1
 ·exact eR h1
 ·exact dr h1
theorem H4 {o:Ob} (ho:ju mx q o) (id:List UInt8):ju mx (q+1) { o with va:=(ep o.va id).1 }∧cL (bB (ep o.va id).2.1):=by
 have hlen:=tq (x:=o.va) (id:=id);have hq:=ho.ql;have hall:cL (bB (ep o.va id).1.v)∧(∀x∈(ep o.va id).1.q,cL (bB x.v))∧cL (bB (ep o.va id).2.1):=by
  unfold ep;cases o.va.full with
  |false=>
   refine ⟨ho.w,λx hx=>?_,l_⟩;rcases aT.1 hx with h1 | h1
   ·exact ho.qs x h1
   ·rw [aO.1 h1];exact l_
  |true=>
   rw [cond_true];cases hi:o.va.q[qu true o.va.q]? with
   |none=>exact ⟨l_,ho.qs,ho.w⟩
   |some w=>exact ⟨ho.qs w (aH hi),λx hx=>ho.qs x (uW hx),ho.w⟩
 exact ⟨⟨ho.l,ho.v,hall.1,hall.2.1,by show (ep o.va id).1.q.length≤q+1;omega,ho.m⟩,hall.2.2⟩
theorem MN {o:Ob} (ho:ju mx q o) (id:List UInt8) (v:Va) (hv:cL (bB v)):ju mx (q+1) { o with va:=(j1 o.va id v).1 }:=by
 have hlen:=w_ (x:=o.va) (id:=id) (v:=v);have hq:=ho.ql;have hall:cL (bB (j1 o.va id v).1.v)∧(∀x∈(j1 o.va id v).1.q,cL (bB x.v)):=by
  unfold j1;cases o.va.full with
  |true=>
   refine ⟨ho.w,λx hx=>?_⟩;rcases aT.1 hx with h1 | h1
   ·exact ho.qs x h1
   ·rw [aO.1 h1];exact hv
  |false=>
   rw [cond_false];cases hi:o.va.q[qu false o.va.q]? with
   |none=>exact ⟨hv,ho.qs⟩
   |some w=>exact ⟨ho.w,λx hx=>ho.qs x (uW hx)⟩
 exact ⟨ho.l,ho.v,hall.1,hall.2,by show (j1 o.va id v).1.q.length≤q+1;omega,ho.m⟩
theorem AY {id:List UInt8} {l:List Va} (hl:∀v∈l,cL (bB v)):lg id l = .no∨∃w,lg id l = .L9 w∧∀v∈w.l,cL (bB v):=by
 unfold lg;cases id == []
 ·exact .inr ⟨_,rfl,hl⟩
 ·exact .inl rfl
theorem GL (h:oE mx q n c s) (hl:c.ar.length=1):fD mx q n c s (pM c s):=by
 refine cj (λhk=>cj (λh1=>?_) λ_=>dO _) λ_=>dO _;have h1:=jf h1;have h2:=fS.1 h1;cases ht:dE s (c.ar[0]?.getD dR) with
 |none=>exact λb=>.go _ c.t.c 1 _ (u5 h1) (h.co.mono (cK _)) (.inr rfl)
 |some p=>
  obtain ⟨i,o⟩:=p;obtain ⟨g1,g2,g3⟩:=jZ ht;have ho:=h.look g1;have hb:=sW h1;rw [←g3] at h2 hb;have hk5:o.k=4∨o.k=5:=.inr (by rw [g2];exact ru hk (by omega) (by decide));obtain ⟨t1,t2⟩:=H4 ho c.t.id;dsimp only;cases (ep o.va c.t.id).2.2.1 with
  |true=>exact λb=>.set _ _ i _ o { o with va:=(ep o.va c.t.id).1 } _ c.t.st c.t.on g1 hk5 rfl rfl t1 h2.1 h2.2 (.inr (by rw [←g3];exact hb)) (h.co.push t2) (.inl rfl) (AY λv hv=>by cases hv)
  |false=>exact λb=>.set _ _ i _ o { o with va:=(ep o.va c.t.id).1 } _ 1 _ g1 hk5 rfl rfl t1 h2.1 h2.2 (.inr (by rw [←g3];exact hb)) (h.co.mono (cK _)) (.inr rfl) (.inl rfl)
theorem Jv (h:oE mx q n c s) (hl:c.ar.length=2):fD mx q n c s (uD c s):=by
 refine cj (λhk=>cj (λh1=>?_) λ_=>dO _) λ_=>dO _;have h1:=jf h1;have h2:=fS.1 h1;cases ht:dE s (c.ar[0]?.getD dR) with
 |none=>exact λb=>.go _ c.t.c 1 _ (u5 h1) (h.co.mono (cK _)) (.inr rfl)
 |some p=>
  obtain ⟨i,o⟩:=p;obtain ⟨g1,g2,g3⟩:=jZ ht;have ho:=h.look g1;have hb:=sW h1;rw [←g3] at h2 hb;have hk5:o.k=4∨o.k=5:=.inr (by rw [g2];exact ru hk (by omega) (by decide));have t1:=MN ho c.t.id (c.ar[1]?.getD dR) (h.ar 1);dsimp only;cases (j1 o.va c.t.id (c.ar[1]?.getD dR)).2.1 with
  |true=>exact λb=>.set _ _ i _ o { o with va:=(j1 o.va c.t.id (c.ar[1]?.getD dR)).1 } c.t.c c.t.st c.t.on g1 hk5 rfl rfl t1 h2.1 h2.2 (.inr (by rw [←g3];exact hb)) (h.co.mono (cK _)) (.inl rfl) (AY λv hv=>by rw [aO.1 hv];exact h.ar 1)
  |false=>exact λb=>.set _ _ i _ o { o with va:=(j1 o.va c.t.id (c.ar[1]?.getD dR)).1 } _ 1 _ g1 hk5 rfl rfl t1 h2.1 h2.2 (.inr (by rw [←g3];exact hb)) (h.co.mono (cK _)) (.inr rfl) (.inl rfl)
theorem okCo_0 (mx:Int) (n:Nat):d_ mx n c00:=⟨by decide,λf hf=>(by cases hf),ak _,λv hv=>(by cases hv),ak _⟩
theorem GQ (h:oE mx q n c s):fD mx q n c s (BR c s):=by
 refine cj (λ_=>cj (λh1 b=>?_) λ_=>dO _) λ_=>dO _;have h1:=jf h1;unfold jb at h1;cases hw:bR c.t.g (bB (c.ar[2]?.getD dR))==0 with
 |false=>rw [hw,cond_false] at h1;exact absurd h1 (Mk hw)
 |true=>
  rw [hw,cond_true] at h1;have h2:=fS.1 (jf hw);cases hb:decide ((c.ar[1]?.getD dR).n<0)||(decide (999<(c.ar[1]?.getD dR).n)||decide (c.t.ro≤(c.ar[1]?.getD dR).n)) with
  |true=>rw [hb] at h1;cases h1
  |false=>
   simp only [kq,decide_eq_false_iff_not] at hb;have h3:=(okCo_0 mx n).enter (show dZ c00=true by decide) c.o.a (gF c.im c.o.a) [c.ar[0]?.getD dR] c.ma (show 1≤20 by decide) (λv hv=>by rw [aO.1 hv];exact h.ar 0) h.m;exact .fork (bB (c.ar[2]?.getD dR)) (c.ar[1]?.getD dR).n _ _ h2.1 h2.2 (h.ar 2) (by omega) (by omega) (h.co.push (h.ar 2)) h3
theorem DM (h:oE mx q n c s):fD mx q n c s (vA c s):=by
 refine cj (λ_=>cj (λh0 b=>?_) λ_=>dO _) λ_=>dO _;have h1:=jf h0;dsimp only;unfold lC;rw [h0,cond_true];unfold c_ at h1;split at h1
 ·cases h1
 ·split at h1
  ·cases h1
  ·split at h1
   ·rename_i h4;exact absurd h1 h4
   ·split at h1
    ·cases h1
    ·split at h1
     ·cases h1
     ·rename_i a1 a2 a3 a4 a5;have h2:=fS.1 (Classical.not_not.1 a3);have he:dZ c.t.c=true:=by simpa using a5
      have h3:=h.co.enter he c.o.a (gF c.im c.o.a) [c.ar[0]?.getD dR] c.ma (show 1≤20 by decide) (λv hv=>by rw [aO.1 hv];exact h.ar 0) h.m;exact .scope (bB (c.ar[3]?.getD dR)) (c.ar[2]?.getD dR).n (c.ar[1]?.getD dR).n _ h2.1 h2.2 (h.ar 3) (by omega) (by omega) (by omega) (by omega) (h3.mono (cK _))
theorem y_ {F:Nat} {po:Int} (h:oE mx q n c s) (h0:0≤mx) (hF:(c.o.c,F,po)∈codeF) (hl:(c.ar.length:Int)=po):fD mx q n c s (j2 c s):=by
 unfold j2;simp only [codeF,ae,ck,cT,or_false] at hF;rcases hF with h1 | h1 | h1 | h1 | h1 | h1 | h1 | h1 | h1 | h1 | h1 | h1 | h1 | h1 | h1 | h1 | h1 | h1 | h1 | h1<;>obtain ⟨e,_,rfl⟩:=h1<;>rw [e]
 ·exact Jy h
 ·exact Jz h
 ·exact DN h
 ·exact DO h
 ·exact B1 h h0 3 (.inl rfl)
 ·exact GM h
 ·exact B1 h h0 4 (.inr rfl)
 ·exact xi h
 ·exact DL h (by omega)
 ·exact GN h h0
 ·exact GL h (by omega)
 ·exact Jv h (by omega)
 ·exact GQ h
 ·exact GK h
 ·exact DM h
 ·exact Jw h
 ·exact GR h
 ·exact GP h
 ·exact GO h
 ·exact DP h
end
end Go.Proofs.YtjpgfgajkjhonaaGreatDoor
namespace Go.Proofs.YtjpgfgajkjhonaaGreatDoor
open Go.Vx
set_option maxRecDepth 100000
theorem wU (n:Nat) (h:n<100) (r:List UInt8):jt (Lib.decDigits n++r) 0=jt r n:=by
 unfold Lib.decDigits
 by_cases h1:n<10
 ·rw [dif_pos h1];have:∀m:Nat,m<10→(UInt8.ofNat (48+m)==46)=false∧(UInt8.ofNat (48+m)).toNat - 48=m:=by decide
  obtain ⟨a,b⟩:=this n h1;show (bif UInt8.ofNat (48+n)==46 then _ else jt r (10*0+((UInt8.ofNat (48+n)).toNat - 48)))=_;rw [a,cond_false,b,Nat.mul_zero,b8]
 ·rw [dif_neg h1];unfold Lib.decDigits;rw [dif_pos (by omega)];have:∀m:Nat,m<10→(UInt8.ofNat (48+m)==46)=false∧(UInt8.ofNat (48+m)).toNat - 48=m:=by decide
  obtain ⟨a,b⟩:=this (n / 10) (by omega);obtain ⟨a',b'⟩:=this (n % 10) (by omega);show (bif UInt8.ofNat (48+n / 10)==46 then _ else (bif UInt8.ofNat (48+n % 10)==46 then _ else jt r (10*(10*0+((UInt8.ofNat (48+n / 10)).toNat - 48))+((UInt8.ofNat (48+n % 10)).toNat - 48))))=_;rw [a,cond_false,a',cond_false,b,b'];congr 1;omega
theorem Dl:∀(l:List Nat) (n:Nat),(∀x∈l,x<100)→jt (oG l) n=n :: l
 |[],n,_=>rfl
 |m :: r,n,h=>by
  show jt (46 :: Lib.decDigits m++oG r) n=_;show n :: jt (Lib.decDigits m++oG r) 0=_;rw [wU m (h m (by simp)),Dl r m λx hx=>h x (by simp [hx])]
theorem q_ {l:List Nat} (h0:l≠[]) (h:∀x∈l,x<100):jt (cr l) 0=l:=by
 match l,h0 with
 |m :: r,_=>
  show jt (Lib.decDigits m++oG r) 0=_;rw [wU m (h m (by simp)),Dl r m λx hx=>h x (by simp [hx])]
structure n9 (p:List Nat) (pa:List UInt8) (ma ro:Int):Prop where
  t:pa=cr p
  ne:p≠[]
  lt:∀x∈p,x<100
  m0:0≤ma
  r0:0≤ro
  mr:ma+ro≤15
  le:p.length+ro≤16
structure M4 (s:Sc):Prop where
  l:cL s.l
  g:iv s.g
  pa:∃p,n9 p s.pa s.ma s.ro
  nm:∃p,s.nm=cr p∧gK p
structure gZ (mx:Int) (n:Nat) (t:Th):Prop where
  co:d_ mx n t.c
  g:iv t.g
  pa:∃p,n9 p t.pa t.ma t.ro
  sc:∀s∈t.sc,M4 s
  sl:t.sc.length≤n
  v:cL (bB t.v)
section
variable {mx:Int} {q n:Nat} {im:Im} {t:Th} {s:bq} {now:Int}
theorem n9.un {p:List Nat} {pa:List UInt8} {ma ro:Int} (h:n9 p pa ma ro):jt pa 0=p:=by rw [h.t];exact q_ h.ne h.lt
theorem n9.kp {p:List Nat} (h:n9 p t.pa t.ma t.ro):l4 t=p ++ [t.ma.toNat]:=by unfold l4;rw [h.un]
theorem n9.o9 {p:List Nat} (h:n9 p t.pa t.ma t.ro) (hr:1≤t.ro):gK (l4 t):=by
 rw [h.kp];have:=h.le;have:=h.mr;have:=h.m0;have:=h.r0;refine ⟨by simp,by rw [aK];show _+1≤_;omega,λx hx=>?_⟩;rcases aT.1 hx with h1 | h1
 ·exact h.lt x h1
 ·rw [aO.1 h1];omega
theorem n9.child {p:List Nat} (h:n9 p t.pa t.ma t.ro) {ro:Int} (h0:0≤ro) (hr:ro<t.ro):n9 (l4 t) (cr (l4 t)) 0 ro:=by
 have hg:=h.o9 (by omega);have hk:=h.kp;have:=h.le;have:=h.mr;have:=h.m0;refine ⟨rfl,hg.1,hg.2.2,jK _,h0,by omega,?_⟩;rw [hk,aK];show ((p.length+1:Nat):Int)+ro≤16;omega
theorem n9.made {p:List Nat} {pa:List UInt8} {ma ro d:Int} (h:n9 p pa ma ro) (hd:0≤d) (hr:d<ro):n9 p pa (ma+1) (ro - 1 - d):=by
 have:=h.le;have:=h.mr;have:=h.m0;exact ⟨h.t,h.ne,h.lt,by omega,by omega,by omega,by omega⟩
theorem gZ.T (hP:vL im) (h:gZ mx n t) (hs:gw mx q n s) (hx:mx≤255) (hw:0≤now∧now<1000000000) (hn:n<50000000) (hq:q<90000000):Ny im t s now:=by
 obtain ⟨p,hp⟩:=h.pa;have hu:=hp.un;have:=hp.le;have:=hp.r0;have:=hp.mr;have:=hp.m0;exact {
  x:=h.co.x hP hx (by omega)
  n:=⟨by rw [hu];exact hp.t,by rw [hu];exact hp.ne,by rw [hu];omega,by rw [hu];exact hp.lt,hp.m0,by omega,by omega⟩
  g:=h.g
  gs:=⟨by have:=hs.nm;omega,λp hp=>⟨by have:=(hs.ns p hp).1;omega,(hs.ns p hp).2⟩⟩
  sc:=by have:=h.sl;omega
  w:=hw
  q:=λp hp=>by have:=(hs.th p hp).ql;omega }
def vj (t:Th) (s:bq) (v:Va) (ex:Bool):Bool×bq:=
 if (eH t v ex).st≠3∧(eH t v ex).st≠4 then (false,s) else
 match bN t.id s.th with
 |some (i,o)=>if o.k=6 then (true,kF s i t.id { o with v:=v,ex:=ex,dn:=true }) else (true,s)
 |none=>(true,s)
theorem Jn (c:Ca) (s:bq) (v:Va) (ex:Bool):(nN c s v ex).1.t=eH c.t v ex∧(nN c s v ex).2=vj c.t s v ex:=by
 unfold nN vj;dsimp only
 by_cases h:(eH c.t v ex).st≠3∧(eH c.t v ex).st≠4
 ·rw [if_pos h,if_pos h];exact ⟨rfl,rfl⟩
 ·rw [if_neg h,if_neg h,show (eH c.t v ex).id=c.t.id from rfl];cases bN c.t.id s.th with
  |none=>exact ⟨rfl,rfl⟩
  |some p=>
   obtain ⟨i,o⟩:=p;dsimp only
   by_cases h6:o.k=6
   ·rw [if_pos h6,if_pos h6];exact ⟨rfl,rfl⟩
   ·rw [if_neg h6,if_neg h6];exact ⟨rfl,rfl⟩
inductive tf (now mx:Int) (q n:Nat) (t:Th) (s:bq) (b:Option Nat):Rs→Prop where
  |idle:t.st≠0→tf now mx q n t s b ⟨t,.no,false,s⟩
  |core (g:Gs) (k:Co):t.st=0→GStep t.g g→d_ mx (n+2) k→tf now mx q n t s b ⟨{ t with g:=g,c:=k },.no,false,s⟩
  |fin (g:Gs) (k:Co) (v:Va) (ex:Bool):t.st=0→GStep t.g g→d_ mx (n+2) k→cL (bB v) →
      tf now mx q n t s b ⟨eH { t with g:=g,c:=k } v ex,.no,(vj { t with g:=g,c:=k } s v ex).1,(vj { t with g:=g,c:=k } s v ex).2⟩
  |NO (k:Co) (ma:Int) (e:Fx) (t':Th) (s':bq):t.st=0→d_ mx n k→0≤ma∧ma≤mx→lT now mx q n { t with c:=k } ma s b e t' s'→tf now mx q n t s b ⟨t',e,false,s'⟩
theorem rB (c:Ca) (v:Va) (ex:Bool) (g:Gs) (k:Co) (b:Option Nat) (hc:c.t={ t with g:=g,c:=k }) (h0:t.st=0) (hg:GStep t.g g) (hk:d_ mx (n+2) k) (hv:cL (bB v)):tf now mx q n t s b (Gu (nN c s v ex)):=by
 obtain ⟨e1,e2⟩:=Jn c s v ex;have:Gu (nN c s v ex)=⟨eH { t with g:=g,c:=k } v ex,.no,(vj { t with g:=g,c:=k } s v ex).1,(vj { t with g:=g,c:=k } s v ex).2⟩:=by
  unfold Gu;rw [e1,e2,hc]
 rw [this];exact .fin g k v ex h0 hg hk hv
theorem GH (hP:vL im) (h:gZ mx n t) (hs:gw mx q n s) (h0:0≤mx) (hx:mx≤255) (hn:n<50000000) (b:Option Nat):tf now mx q n t s b (D6 im t s now b):=by
  unfold D6
  by_cases hst:t.st=0
  · rw [show (t.st != 0) = false by simp [hst], cond_false]
    have hr:=y6 (fr:=(bP t).fr) (tr:=(bP t).tr) hP h.co hx
    have hask:=tt (fr:=(bP t).fr) (tr:=(bP t).tr) (h.co.x hP hx (by omega))
    generalize hr':dw im t.c (bP t).fr (bP t).tr=r at hr hask ⊢
    cases k1:r.2.k==1 with
    |true=>exact rB _ _ _ t.g r.1 b rfl hst .same hr.c hr.v
    |false=>
      cases k2:r.2.k==2 with
      |true=>exact rB _ _ _ t.g r.1 b rfl hst .same hr.c hr.v
      |false=>
        cases k3:r.2.k==3 with
        |false=>exact .core t.g r.1 hst .same hr.c
        |true=>
          rw [cond_false,cond_false,cond_true]
          obtain ⟨o,f,F,po,e,hf,hcf,hp,hpc⟩:=hask (by simpa using k3)
          rw [e]
          obtain ⟨⟨i,hi,hpi⟩,_⟩:=vp hcf
          subst hpi
          unfold N5
          rw [show (kr im t now).t.c.fr.getLast? = some f from hf]
          dsimp only
          rw [hi]
          dsimp only
          have hfo:nh mx f:=h.co.f f (List.mem_of_getLast? hf)
          have hnx:=Eu h.co hfo
          have hck:d_ mx n { qP t.c i.po with fr:=bU t.c.fr f }:=(h.co.pop i.po).bW _ hnx.1 hnx.2
          have hd:=y_ (c:=iU (kr im t now) o f i.po) (q:=q) ⟨hck,h.g,h.co.kK _,hfo.m,hs⟩ h0 hcf (Bj hp)
          generalize j2 (iU (kr im t now) o f i.po) s=R at hd ⊢
          cases R with
          |ok e g=>exact .NO _ f.ma e _ _ hst hck hfo.m (hd b)
          |ex m c' s'=>
            obtain ⟨rfl,_,g,hg,hc⟩:=hd
            unfold OR.fin
            have hra:=h.co.raise m c'.tr
            unfold kJ
            dsimp only
            rw [show (kr im t now).t.c=t.c from rfl]
            generalize raise t.c m c'.tr=r2 at hra ⊢
            have hc2:{ c'.t with c:=r2.1 }={ t with g:=g,c:=r2.1 }:=by rw [hc];rfl
            cases k4:r2.2.k==2 with
            |true=>exact rB _ _ _ g r2.1 b hc2 hst hg (hra.c.mono (by omega)) hra.v
            |false=>
              rw [cond_false]
              unfold Gu
              dsimp only
              rw [hc2]
              exact .core g r2.1 hst hg (hra.c.mono (by omega))
  · rw [show (t.st != 0)=true by simp [hst],cond_true]
    exact .idle hst
end
end Go.Proofs.YtjpgfgajkjhonaaGreatDoor
namespace Go.Proofs.YtjpgfgajkjhonaaGreatDoor
open Go.Vx
set_option maxRecDepth 100000
section
variable {mx:Int} {q n:Nat} {t:Th} {s:bq} {now:Int} {b:Option Nat}
theorem ju.mono {o:Ob} (h:ju mx q o):ju mx (q+1) o:=⟨h.l,h.v,h.w,h.qs,dV h.ql,h.m⟩
theorem gw.mono (h:gw mx q n s):gw mx (q+1) (n+1) s:=⟨dV h.nm,λp hp=>⟨dV (h.ns p hp).1,(h.ns p hp).2⟩,λp hp=>(h.th p hp).mono⟩
theorem gw.set (h:gw mx q n s) (i:Nat) (key:List UInt8) {o:Ob} (ho:ju mx (q+1) o):gw mx (q+1) (n+1) (kF s i key o):=by
 refine ⟨h.mono.nm,h.mono.ns,λp hp=>?_⟩;rcases List.mem_or_eq_of_mem_set hp with h1 | h1
 ·exact h.mono.th p h1
 ·rw [h1];exact ho
theorem BD {α:Type} {f:α→α} {x:α}:∀{l:List α} {i:Nat},x∈l.modify i f→x∈l∨∃y∈l,x=f y
 |[],i,h=>by simp at h
 |a :: l,0,h=>by
  rw [List.modify_zero_cons] at h;rcases ae.1 h with h1 | h1
  ·exact .inr ⟨a,by simp,h1⟩
  ·exact .inl (by simp [h1])
 |a :: l,i+1,h=>by
  rw [List.modify_succ_cons] at h;rcases ae.1 h with h1 | h1
  ·exact .inl (by simp [h1])
  ·rcases BD h1 with h2 | ⟨y,h2,h3⟩
   ·exact .inl (by simp [h2])
   ·exact .inr ⟨y,by simp [h2],h3⟩
theorem F5 (ns:List (List Nat)) (kp:List Nat):(tW ns kp).length=ns.length+1:=by
 unfold tW;rw [aK,aU,ah,b_];omega
theorem o6 {ns:List (List Nat)} {kp x:List Nat}:x∈tW ns kp↔x=kp∨x∈ns:=by
 unfold tW;rw [aT,ae];constructor
 ·rintro (h | h | h)
  ·exact .inr (eR h)
  ·exact .inl h
  ·exact .inr (dr h)
 ·rintro (h | h)
  ·exact .inr (.inl h)
  ·rw [←List.take_append_drop (qV ns kp) ns] at h;rcases aT.1 h with h1 | h1
   ·exact .inl h1
   ·exact .inr (.inr h1)
theorem gw.add (h:gw mx q n s) {kp:List Nat} {o:Ob} (hk:gK kp) (ho:ju mx (q+1) o) (b:Option Nat):gw mx (q+1) (n+1) (ij s kp o b):=by
 unfold ij;cases jv o.l&&(bN (cr kp) s.th).isNone with
 |false=>exact h.mono
 |true=>
  rw [cond_true];unfold qZ;have hth:∀p∈s.th ++ [(cr kp,o)],ju mx (q+1) p.2:=λp hp=>by
   rcases aT.1 hp with h1 | h1
   ·exact h.mono.th p h1
   ·rw [aO.1 h1];exact ho
  unfold pe;cases qS o.l s.nm with
  |none=>
   refine ⟨?_,λp hp=>?_,hth⟩
   ·show (s.nm++_).length≤_;rw [aK];exact pE h.nm
   ·rcases aT.1 hp with h1 | h1
    ·exact h.mono.ns p h1
    ·rw [aO.1 h1];exact ⟨pE (ak _),λx hx=>by rw [aO.1 hx];exact hk⟩
  |some i=>
   refine ⟨?_,λp hp=>?_,hth⟩
   ·show (s.nm.modify i _).length≤_;rw [List.length_modify];exact h.mono.nm
   ·rcases BD hp with h1 | ⟨y,h1,rfl⟩
    ·exact h.mono.ns p h1
    ·refine ⟨by rw [F5];exact pE (h.ns y h1).1,λx hx=>?_⟩;rcases o6.1 hx with h2 | h2
     ·rw [h2];exact hk
     ·exact (h.ns y h1).2 x h2
theorem Ng.sm {g h:Gs} {ma:Int} {x:En} (H:Ng g ma x h) (hg:iv g):iv h:=by
 rcases H.2 with ⟨_,rfl,_⟩ | ⟨_,rfl,_⟩
 ·exact And.intro (k_ _) hg.2
 ·exact And.intro hg.1 (k_ _)
theorem lT.keep {ma:Int} {e:Fx} {t':Th} {s':bq} (ht:gZ mx n t) (hs:gw mx q n s) (h0:0≤mx) (D:lT now mx q n t ma s b e t' s'):gZ mx (n+1) t'∧gw mx (q+1) (n+1) s':=by
 obtain ⟨p,hp⟩:=ht.pa;have hl:=dV ht.sl;cases D with
 |go g k st on hg hk _=>exact ⟨⟨hk,hg.sm ht.g,⟨p,hp⟩,ht.sc,hl,ht.v⟩,hs.mono⟩
 |log x g hg _=>exact ⟨⟨ht.co.mono (cK _),hg.sm ht.g,⟨p,hp⟩,ht.sc,hl,ht.v⟩,hs.mono⟩
 |out x _ _ _ _=>exact ⟨⟨ht.co.mono (cK _),ht.g,⟨p,hp⟩,ht.sc,hl,ht.v⟩,hs.mono⟩
 |set e g i nm o w k st on _ _ _ _ hw _ _ hg hk _ _=>
  refine ⟨⟨hk,?_,⟨p,hp⟩,ht.sc,hl,ht.v⟩,hs.set i nm hw⟩;rcases hg with rfl | rfl
  ·exact ht.g
  ·exact And.intro (k_ _) ht.g.2
 |make o k _ _ hr _ ho hk=>
  have h1:=hp.made (d:=0) (jK _) (by omega);rw [Int.sub_zero] at h1;exact ⟨⟨hk,ht.g,⟨p,h1⟩,ht.sc,hl,ht.v⟩,hs.add (hp.o9 hr) ho.mono b⟩
 |fork l ro k d _ _ hl2 hr0 hr hk _=>
  exact ⟨⟨hk,ht.g,⟨p,hp.made hr0 hr⟩,ht.sc,hl,ht.v⟩,hs.add (hp.o9 (by omega)) (xJ mx (q+1) 6 hl2 l_ 0 ⟨jK _,h0⟩) b⟩
 |scope l tk ro k _ _ hl2 hr0 hr _ _ hk=>
  refine ⟨⟨hk,And.intro ht.g.1 (k_ _),⟨_,hp.child hr0 hr⟩,λx hx=>?_,?_,ht.v⟩,hs.mono⟩
  ·rcases aT.1 hx with h1 | h1
   ·exact ht.sc x h1
   ·rw [aO.1 h1];exact ⟨k_ _,ht.g,⟨p,hp.made hr0 hr⟩,⟨_,rfl,hp.o9 (by omega)⟩⟩
  ·show (t.sc++_).length≤_;rw [aK];exact pE ht.sl
theorem gZ.fin (ht:gZ mx n t) {v:Va} (hv:cL (bB v)) (ex:Bool):gZ mx n (eH t v ex):=⟨ht.co,ht.g,ht.pa,ht.sc,ht.sl,hv⟩
theorem gw.fin (hs:gw mx q n s) {v:Va} (hv:cL (bB v)) (ex:Bool):gw mx (q+1) (n+1) (vj t s v ex).2:=by
 unfold vj;split
 ·exact hs.mono
 ·cases hl:bN t.id s.th with
  |none=>exact hs.mono
  |some p=>
   obtain ⟨i,o⟩:=p;dsimp only;split
   ·obtain ⟨p,hp,rfl⟩:=j7 hl;have ho:=hs.th p hp;exact hs.set i t.id ⟨ho.l,hv,ho.w,ho.qs,dV ho.ql,ho.m⟩
   ·exact hs.mono
theorem gZ.mono (ht:gZ mx n t) {m:Nat} (h:n≤m):gZ mx m t:=⟨ht.co.mono h,ht.g,ht.pa,ht.sc,aY ht.sl h,ht.v⟩
theorem gZ.core (ht:gZ mx n t) {g:Gs} {k:Co} {m:Nat} (hg:GStep t.g g) (hk:d_ mx m k) (h:n≤m):gZ mx m { t with g:=g,c:=k }:=⟨hk,hg.sm ht.g,ht.pa,ht.sc,aY ht.sl h,ht.v⟩
theorem tf.keep {r:Rs} (ht:gZ mx n t) (hs:gw mx q n s) (h0:0≤mx) (T:tf now mx q n t s b r):gZ mx (n+2) r.t∧gw mx (q+1) (n+1) r.s:=by
 cases T with
 |idle _=>exact ⟨ht.mono (by omega),hs.mono⟩
 |core g k _ hg hk=>exact ⟨ht.core hg hk (by omega),hs.mono⟩
 |fin g k v ex _ hg hk hv=>exact ⟨(ht.core hg hk (by omega)).fin hv ex,hs.fin hv ex⟩
 |NO k ma e t' s' _ hk _ D=>
  have:=lT.keep (t:={ t with c:=k }) ⟨hk,ht.g,ht.pa,ht.sc,ht.sl,ht.v⟩ hs h0 D;exact ⟨this.1.mono (by omega),this.2⟩
theorem gZ.HO (ht:gZ mx n t) {v:Va} (hv:cL (bB v)):gZ mx (n+1) (l9 t [v]):=
 ⟨ht.co.lay [v] (λx hx=>by rw [aO.1 hx];exact hv),ht.g,ht.pa,ht.sc,dV ht.sl,ht.v⟩
theorem AK (ht:gZ mx n t) (k:Nat):cL (bB (ic t k).1):=by
 unfold ic;cases !(t.st==2) || !((k:Int)==(t.sc.length:Int) - 1) with
 |true=>exact gD _
 |false=>
  rw [cond_false];cases !b7 t.g.cur ((t.sc[k]?).getD Ew).l with
  |true=>exact gD _
  |false=>exact ht.v
theorem M4.Ti {x:Sc} (h:M4 x):Kv x:=by
 obtain ⟨p,e,hg⟩:=h.nm;have:Lv x=p:=by unfold Lv;rw [e];exact q_ hg.1 hg.2.2
 exact ⟨by rw [this];exact e,by rw [this];exact hg,h.l⟩
theorem nj (ht:gZ mx n t) (hs:gw mx q n s) (h0:0≤mx) (b:Option Nat):gZ mx (n+1) (dk t s now b).1∧gw mx (q+1) (n+1) (dk t s now b).2:=by
 unfold dk;cases hi:t.sc[jE now t.sc]? with
 |none=>exact ⟨ht.mono (cK _),hs.mono⟩
 |some x=>
  have hx:=ht.sc x (aH hi);have hg:=hx.Ti;refine ⟨⟨(ht.co.cut _ _ _).push hx.l,hx.g,hx.pa,λy hy=>ht.sc y (eR hy),?_,l_⟩,hs.add hg.g ?_ b⟩
  ·show (t.sc.take _).length≤_;have:=ht.sl;rw [ah];omega
  ·exact ⟨hx.l,AK ht _,l_,λx hx=>(by cases hx),ak _,jK _,h0⟩
def oH (im:Im) (now:Int) (b b':Option Nat) (t:Th) (s:bq):Rs:=D6 im (dk t s now b).1 (dk t s now b).2 now b'
theorem y7 {im:Im} (hP:vL im) (ht:gZ mx n t) (hs:gw mx q n s) (h0:0≤mx) (hx:mx≤255) (hn:n<40000000) (b b':Option Nat) :
  tf now mx (q+1) (n+1) (dk t s now b).1 (dk t s now b).2 b' (oH im now b b' t s):=
 have h:=nj ht hs h0 b
 GH hP h.1 h.2 h0 hx (by omega) b'
end
end Go.Proofs.YtjpgfgajkjhonaaGreatDoor
namespace Go.Proofs.YtjpgfgajkjhonaaGreatDoor
open Go.Vx
set_option maxRecDepth 100000
section
variable {mx:Int} {q n:Nat} {t:Th} {s:bq} {now:Int} {b:Option Nat}
theorem xT {key:List UInt8} {r:List (List UInt8×Ob)}:∀{l:List (List UInt8×Ob)} {x:Nat×Ob},bN key l=some x→bN key (l++r)=some x
 |[],x,h=>by cases h
 |p :: l,x,h=>by
  show (if key=p.1 then some (0,p.2) else (bN key (l++r)).map λx=>(x.1+1,x.2))=_;have h':(if key=p.1 then some (0,p.2) else (bN key l).map λx=>(x.1+1,x.2))=some x:=h
  by_cases hk:key=p.1
  ·rw [if_pos hk] at h' ⊢;exact h'
  ·rw [if_neg hk] at h' ⊢;cases hl:bN key l with
   |none=>rw [hl] at h';cases h'
   |some y=>rw [xT hl];rw [hl] at h';exact h'
theorem re {key nm:List UInt8} {o p:Ob}:∀{l:List (List UInt8×Ob)} {i:Nat},bN nm l=some (i,o)→bN key (l.set i (nm,p))=if key=nm then some (i,p) else bN key l
 |[],i,h=>by cases h
 |x :: l,i,h=>by
  have h':(if nm=x.1 then some (0,x.2) else (bN nm l).map λx=>(x.1+1,x.2))=some (i,o):=h
  by_cases hk:nm=x.1
  ·rw [if_pos hk,aF,ck] at h';obtain ⟨rfl,_⟩:=h';show (if key=nm then some (0,p) else (bN key l).map λx=>(x.1+1,x.2))=_
   by_cases hn:key=nm
   ·rw [if_pos hn,if_pos hn]
   ·rw [if_neg hn,if_neg hn];show _=if key=x.1 then some (0,x.2) else _;rw [if_neg (by rw [←hk];exact hn)]
  ·rw [if_neg hk] at h';cases hl:bN nm l with
   |none=>rw [hl] at h';cases h'
   |some y=>
    obtain ⟨j,o'⟩:=y;rw [hl] at h';simp only [bF,aF,ck] at h';obtain ⟨rfl,rfl⟩:=h';show (if key=x.1 then some (0,x.2) else (bN key (l.set j (nm,p))).map λx=>(x.1+1,x.2))=_;rw [re hl];show _=if key=nm then some (j+1,p) else if key=x.1 then some (0,x.2) else (bN key l).map λx=>(x.1+1,x.2)
    by_cases hn:key=nm
    ·rw [if_pos hn,if_pos hn,if_neg (by rw [hn];exact hk)];rfl
    ·rw [if_neg hn,if_neg hn]
theorem tO {key nm:List UInt8} {o p:Ob} {l:List (List UInt8×Ob)} {i:Nat} (h:bN nm l=some (i,o)) (hk:key≠nm):bN key (l.set i (nm,p))=bN key l:=by rw [re h,if_neg hk]
theorem pT {key:List UInt8} {kp:List Nat} {o:Ob} {b:Option Nat} {x:Nat×Ob} (h:bN key s.th=some x):bN key (ij s kp o b).th=some x:=by
 unfold ij;cases jv o.l&&(bN (cr kp) s.th).isNone
 ·exact h
 ·exact xT h
def gX (t:Th):Bool:=(t.st==3)||(t.st==4)
structure EI (mx:Int) (q n:Nat) (dn:Nat) (t:Th) (s:bq):Prop where
  th:gZ mx n t
  so:gw mx q n s
  id:t.id = [51]
  c:∃i o,bN [51] s.th=some (i,o)∧o.k=6∧o.dn=gX t∧(gX t=true→o.v=t.v∧o.ex=t.ex∧t.ex=(t.st==4)∧t.sc = [])
  d:dn=bif gX t then 1 else 0
def kv (t:Th):Th:=bif t.st==1 then l9 t [num 0] else t
theorem xD {t:Th} (h:t.st=0):gX t=false:=by unfold gX;rw [h];rfl
theorem Ee {t:Th} (h:t.st=1):gX t=false:=by unfold gX;rw [h];rfl
theorem EI.HO {d:Nat} (h:EI mx q n d t s):EI mx (q+1) (n+1) d (kv t) s:=by
 unfold kv;cases h1:t.st==1 with
 |false=>exact ⟨h.th.mono (cK _),h.so.mono,h.id,h.c,h.d⟩
 |true=>
  have h1:t.st=1:=by simpa using h1
  have ho:=Ee h1;have hw:gX (l9 t [num 0])=false:=rfl;obtain ⟨i,o,c1,c2,c3,_⟩:=h.c;exact ⟨h.th.HO (gD 0),h.so.mono,h.id,⟨i,o,c1,c2,by rw [c3,ho];exact hw.symm,λhc=>by rw [cond_true,hw] at hc;cases hc⟩,by rw [h.d,ho];exact (congrArg (λb=>bif b then 1 else 0) hw).symm⟩
theorem EI.leave {d:Nat} (h0:0≤mx) (h:EI mx q n d t s) (now:Int) (b:Option Nat):EI mx (q+1) (n+1) d (dk t s now b).1 (dk t s now b).2:=by
 obtain ⟨k1,k2⟩:=nj (now:=now) h.th h.so h0 b;obtain ⟨i,o,c1,c2,c3,c4⟩:=h.c;unfold dk at k1 k2 ⊢;cases hi:t.sc[jE now t.sc]? with
 |none=>
  rw [hi] at k1 k2;exact ⟨k1,k2,h.id,⟨i,o,c1,c2,c3,c4⟩,h.d⟩
 |some x=>
  rw [hi] at k1 k2;have hno:gX t=false:=by
   cases ho:gX t with
   |false=>rfl
   |true=>
    rw [(c4 ho).2.2.2] at hi;cases hi
  have hw:gX (pU t (jE now t.sc) x)=false:=rfl;refine ⟨k1,k2,h.id,⟨i,o,pT c1,c2,?_,λhc=>?_⟩,?_⟩
  ·rw [c3,hno];exact hw.symm
  ·have hc:gX (pU t (jE now t.sc) x)=true:=hc;rw [hw] at hc;cases hc
  ·rw [h.d,hno];exact (congrArg (λb=>bif b then 1 else 0) hw).symm
theorem lT.cell {ma:Int} {e:Fx} {t':Th} {s':bq} {i:Nat} {o:Ob} {key:List UInt8} (D:lT now mx q n t ma s b e t' s') (hl:bN key s.th=some (i,o)) (hk:o.k=6):bN key s'.th=some (i,o):=by
 cases D with
 |go | log | out | scope=>exact hl
 |set e g j nm p w k st on h1 h2=>
  have hne:key≠nm:=by
   rintro rfl
   rw [hl] at h1;cases h1;omega
  exact (tO h1 hne).trans hl
 |make o k=>exact pT hl
 |fork l ro k d=>exact pT hl
theorem lT.run {ma:Int} {e:Fx} {t':Th} {s':bq} (D:lT now mx q n t ma s b e t' s') (h:t.st=0):t'.id=t.id∧(t'.st=0∨t'.st=1):=by
 cases D with
 |go g k st on _ _ hs=>exact ⟨rfl,by rcases hs with rfl | rfl<;>simp [h]⟩
 |log | out | make | fork | scope=>exact ⟨rfl,.inl h⟩
 |set e g j nm p w k st on _ _ _ _ _ _ _ _ _ hs=>exact ⟨rfl,by rcases hs with rfl | rfl<;>simp [h]⟩
theorem EI.tick {d:Nat} {r:Rs} (h0:0≤mx) (h:EI mx q n d t s) (T:tf now mx q n t s b r):EI mx (q+2) (n+2) (d+bif r.d then 1 else 0) r.t r.s:=by
 obtain ⟨k1,k2⟩:=T.keep h.th h.so h0;have k2:=k2.mono;obtain ⟨i,o,c1,c2,c3,c4⟩:=h.c;cases T with
 |idle _=>exact ⟨k1,k2,h.id,⟨i,o,c1,c2,c3,c4⟩,h.d⟩
 |core g k hst _ _=>exact ⟨k1,k2,h.id,⟨i,o,c1,c2,c3,c4⟩,h.d⟩
 |NO k ma e t' s' hst _ _ D=>
  obtain ⟨d1,d2⟩:=D.run hst;have hw:gX t'=false:=by rcases d2 with e | e<;>unfold gX<;>rw [e]<;>rfl
  have ho:=xD hst;refine ⟨k1,k2,d1.trans h.id,⟨i,o,D.cell c1 c2,c2,by rw [c3,ho];exact hw.symm,λhc=>?_⟩,by rw [h.d,ho];exact (congrArg (λb=>bif b then 1 else 0) hw).symm⟩;have hc:gX t'=true:=hc;rw [hw] at hc;cases hc
 |fin g k v ex hst _ _ _=>
  have ho:=xD hst;have hid:t.id = [51]:=h.id;have hd:=h.d;rw [ho] at c3 hd;unfold vj at k2 ⊢;unfold eH at k1 k2 ⊢;dsimp only at k1 k2 ⊢;cases hsc:t.sc.isEmpty with
  |false=>
   rw [hsc] at k1 k2;rw [Bool.not_false,cond_true] at k1 k2 ⊢;rw [if_pos (by decide)] at k2 ⊢;refine ⟨k1,k2,h.id,⟨i,o,c1,c2,c3,λhc=>(by cases hc)⟩,?_⟩;exact hd
  |true=>
   rw [hsc] at k1 k2;have hnil:t.sc = []:=ez.1 hsc;have hov:∀e:Bool,¬((bif e then (4:Int) else 3)≠3∧(bif e then (4:Int) else 3)≠4):=by decide
   rw [Bool.not_true,cond_false] at k1 k2 ⊢;rw [hid] at k1;rw [if_neg (hov ex),hid,c1] at k2 ⊢;dsimp only at k2 ⊢;rw [if_pos c2] at k2 ⊢;have hw:gX { t with g:=g,c:=k,st:=bif ex then (4:Int) else 3,v:=v,ex:=ex,on:=[] }=true:=by cases ex<;>rfl
   refine ⟨k1,k2,rfl,⟨i,{ o with v:=v,ex:=ex,dn:=true },?_,c2,hw.symm,λ_=>⟨rfl,rfl,by cases ex<;>rfl,hnil⟩⟩,?_⟩
   ·exact (re c1).trans (if_pos rfl)
   ·show _=bif gX { t with g:=g,c:=k,st:=bif ex then (4:Int) else 3,v:=v,ex:=ex,on:=[] } then 1 else 0;rw [hw,hd];rfl
theorem EI.step {d:Nat} {im:Im} (hP:vL im) (h0:0≤mx) (hx:mx≤255) (hn:n<30000000) (h:EI mx q n d t s) (b b':Option Nat) :
  EI mx (q+4) (n+4) (d+bif (oH im now b b' (kv t) s).d then 1 else 0) (oH im now b b' (kv t) s).t (oH im now b b' (kv t) s).s:=
 have h1:=h.HO
 (h1.leave h0 now b).tick h0 (y7 hP h1.th h1.so h0 hx (by omega) b b')
end
end Go.Proofs.YtjpgfgajkjhonaaGreatDoor
namespace Go.Proofs.YtjpgfgajkjhonaaGreatDoor
open Go.Vx
set_option maxRecDepth 100000
section
variable {mx:Int} {q n:Nat} {t:Th} {s:bq} {now:Int} {b:Option Nat}
def names (s:bq):List (List UInt8):=s.th.map (·.1)
end
end Go.Proofs.YtjpgfgajkjhonaaGreatDoor
