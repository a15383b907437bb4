/- Lemmas. Conditions: none. -/
import Derived.Test.YtmigecldjbgneaaGreatDoorQKBD
namespace Go.Proofs.YtmigecldjbgneaaGreatDoor
open Go.Vx
set_option maxRecDepth 100000
theorem lB:cC ⟨[],[]⟩:=⟨aY _,aY _⟩
theorem fq(n:Int):cC (bF (num n)):=lB
theorem kh:cC (bF zeroV):=lB
theorem mc:cC (bF ck):=lB
structure p7(mx:Int)(f:Fr):Prop where
  m:0<=f.ma/\f.ma<=mx
  v:f.vars.length<=40
  s:∀v∈f.vars,cC (bF v)
structure d_(mx:Int)(n:Nat)(c:Co):Prop where
  fr:c.fr.length<=16
  f:∀f∈c.fr,p7 mx f
  st:c.st.length<=n
  s:∀v∈c.st,cC (bF v)
  tr:c.tr.length<=n
structure BR(im:Im):Prop where
  hI:GA im
  ar:∀g∈im.fs,g.args<=10
  cd:∀g∈im.fs,g.code.length<1000000000
  dm:∀g∈im.fs,∀o∈g.code,o.c≠24/\o.c≠31
  cs:∀v∈im.cs,cC (bF v)
section
variable{mx:Int}{n:Nat}{c:Co}
theorem nr{α:Type}{l:List α}{k:Int}{x:α}(h:x∈gn l k):x∈l:=fZ h
theorem pC{α:Type}(l:List α)(k:Int):(gn l k).length<=l.length:=by
 unfold gn;rw[a_];omega
theorem d_.mono{m:Nat}(h:d_ mx n c)(hm:n<=m):d_ mx m c:=⟨h.fr,h.f,aX h.st hm,h.s,aX h.tr hm⟩
theorem d_.cut(h:d_ mx n c)(f k t:Int):d_ mx n (Fb c f k t):=
 ⟨aX (pC _ _) h.fr,λx hx=>h.f x (nr hx),aX (pC _ _) h.st,λx hx=>h.s x (nr hx),aX (pC _ _) h.tr⟩
theorem d_.lay(h:d_ mx n c)(l:List Va)(hl:∀v∈l,cC (bF v)):d_ mx (n+l.length) ⟨c.fr,c.st++l,c.tr⟩:=
 ⟨h.fr,h.f,by have:=h.st;show(c.st++l).length<=_;rw[aM];omega,λx hx=>(aT.1 hx).elim (h.s x) (hl x),aX h.tr (Nat.le_add_right _ _)⟩
theorem d_.push(h:d_ mx n c){v:Va}(hv:cC (bF v)):d_ mx (n+1) (jb c v):=h.lay [v] λx hx=>by rw[aF.1 hx];exact hv
theorem d_.pop(h:d_ mx n c)(k:Int):d_ mx n (sM c k):=⟨h.fr,h.f,aX (pC _ _) h.st,λx hx=>h.s x (nr hx),h.tr⟩
theorem d_.lF(h:d_ mx n c)(k:Int):∀v∈lF c k,cC (bF v):=λv hv=>h.s v (eS hv)
theorem d_.get(h:d_ mx n c)(k:Int)(i:Nat):cC (bF (((Go.Proofs.YtmigecldjbgneaaGreatDoor.lF c k)[i]?).getD zeroV)):=by
 cases hi:(Go.Proofs.YtmigecldjbgneaaGreatDoor.lF c k)[i]? with
 |none=>exact lB
 |some v=>exact h.lF k v (aG hi)
theorem d_.bW(h:d_ mx n c)(l:List Fr)(h1:l.length<=16)(h2:∀f∈l,p7 mx f):d_ mx n ⟨l,c.st,c.tr⟩:=⟨h1,h2,h.st,h.s,h.tr⟩
theorem p7.at{f g:Fr}(h:p7 mx f)(h1:g.vars=f.vars)(h2:g.ma=f.ma):p7 mx g:=⟨by rw[h2];exact h.m,by rw[h1];exact h.v,by rw[h1];exact h.s⟩
theorem wz{P:Fr->Prop}{l:List Fr}(h:∀f∈l,P f)(i:Nat){g:Fr}(hg:P g):∀f∈l.set i g,P f:=λf hf=>by
 rcases iu hf with h1|h1
 .exact h f h1
 .rw[h1];exact hg
theorem Hv{f:Fr}(h:d_ mx n c)(hf:p7 mx f):(bS c.fr f).length<=16/\∀g∈bS c.fr f,p7 mx g:=by
 unfold bS;exact⟨by rw[dJ];exact h.fr,wz h.f _ (hf.at rfl rfl)⟩
theorem Ml{f:Fr}{l:List Fr}(h:l.length<=16/\∀g∈l,p7 mx g)(hf:p7 mx f):(ea l f).length<=16/\∀g∈ea l f,p7 mx g:=by
 unfold ea;exact⟨by rw[dJ];exact h.1,wz h.2 _ hf⟩
theorem Gx{l:List Fr}(i:Nat)(pc:Int)(h:l.length<=16/\∀g∈l,p7 mx g):(vn l i pc).length<=16/\∀g∈vn l i pc,p7 mx g:=by
 unfold vn;cases hi:l[i]? with
 |none=>exact h
 |some f=>exact⟨by rw[dJ];exact h.1,wz h.2 _ ((h.2 f (aG hi)).at rfl rfl)⟩
theorem d_.throw(h:d_ mx n c)(t:Tr)(code:Int):d_ mx (n+1) (tO c t code):=by
 have h1:=h.cut t.f t.h (c.tr.length-1);obtain⟨a,b⟩:=Gx (t.f-1).toNat t.a ⟨h1.fr,h1.f⟩;exact(h1.bW _ a b).push (fq code)
structure e9(mx:Int)(n:Nat)(r:Co×Ou):Prop where
  c:d_ mx n r.1
  v:cC (bF r.2.v)
theorem d_.raise(h:d_ mx n c)(code kp:Int):e9 mx (n+1) (raise c code kp):=by
 unfold Go.Proofs.YtmigecldjbgneaaGreatDoor.raise nO;cases decide ((c.tr.length:Int)-1<max kp 0) with
 |true=>exact⟨h.mono (bM _),fq _⟩
 |false=>
  rw[ε];cases c.tr.getLast? with
  |none=>exact⟨h.mono (bM _),fq _⟩
  |some t=>
   dsimp only;cases ri c t with
   |true=>exact⟨h.throw t code,kh⟩
   |false=>exact⟨h.mono (bM _),fq _⟩
theorem d_.enter(h:d_ mx n c)(he:dW c=true)(fn vs:Int)(l:List Va)(ma:Int)(hl:l.length<=20)(hs:∀v∈l,cC (bF v))(hm:0<=ma/\ma<=mx):d_ mx n (gK c fn vs l ma):=by
  have h16:c.fr.length<16:=θ he
  refine h.bW _ (by rw[aM];exact h16) λf hf=>?_
  rcases aT.1 hf with h1|h1
  · exact h.f f h1
  · rw [aF.1 h1]
    refine⟨hm,?_,λv hv=>?_⟩
    · show(l++rh (min (max vs 0) 16).toNat).length<=40
      unfold rh
      rw[aM,List.length_replicate]
      omega
    · rcases aT.1 hv with h2|h2
      · exact hs v h2
      · unfold rh at h2
        rw[(List.mem_replicate.1 h2).2]
        exact fq 0
theorem e9.bif{b:Bool}{x y:Co×Ou}(hx:e9 mx n x)(hy:b=false->e9 mx n y):e9 mx n (bif b then x else y):=by
 cases b
 .exact hy rfl
 .exact hx
theorem e9.Xm{b:Bool}{x y:Co×Ou}(hx:b=true->e9 mx n x)(hy:b=false->e9 mx n y):e9 mx n (bif b then x else y):=by
 cases b
 .exact hy rfl
 .exact hx rfl
theorem PF{l:Lb}(h:cC l):cC (bF (sh l)):=h
theorem Mi{a ma:Int}(h:0<=ma/\ma<=mx)(hx:mx<=255):0<=zY a ma/\zY a ma<=mx:=by
 unfold zY;obtain⟨x,hx'⟩:∃x:UInt8,ma=(x.toNat:Int):=⟨UInt8.ofNat ma.toNat,by rw[gL,cm (by omega)];omega⟩
 obtain⟨y,hy⟩:∃y:UInt8,IntKind.u8.wrap (jF .and .i64 a 255)=(y.toNat:Int):=by
  have:∀z:Int,∃y:UInt8,IntKind.u8.wrap z=(y.toNat:Int):=λz=>by
   refine⟨UInt8.ofNat (z % 256).toNat,?_⟩;rw[gL];show z % 256=_;omega
  exact this _
 rw[hx',hy,CR];have:(x &&& y).toNat<=x.toNat:=by rw[UInt8.toNat_and];exact Nat.and_le_left
 omega
end
section
variable{mx:Int}{n:Nat}{c:Co}{im:Im}
theorem Ar{fr tr:Int}(hP:BR im)(h:d_ mx n c)(hx:mx<=255):e9 mx (n+2) (ij im c fr tr):=by
 have h1:=λ(code kp:Int)=>show e9 mx (n+2) (raise c code kp)from let r:=h.raise code kp;⟨r.c.mono (by omega),r.v⟩;unfold ij;cases hf:fit im c with
 |none=>exact⟨h.mono (by omega),fq _⟩
 |some o=>
  obtain⟨f,fn,hl,w1,hfn,w2,ho,hr,hop,hpo⟩:=qe hf;simp only[hl];have hfo:p7 mx f:=h.f f (List.mem_of_getLast? hl);have hn:=Hv h hfo;have hp:=h.pop (bm im o);have hp':d_ mx n ⟨bS c.fr f,j3 (cn im c o 0 0),c.tr⟩:=hp.bW _ hn.1 hn.2;have ha:cC (bF (vQ im c o)):=h.get _ 0;have hb:cC (bF (q_ im c o)):=h.get _ 1;have hlay:∀l:List Va,l.length<=2->(∀v∈l,cC (bF v))->e9 mx (n+2) (fD im c o f l):=λl h2 h3=>⟨(hp'.lay l h3).mono (by omega),kh⟩
  have l0:=hlay [] (by decide) λv hv=>by cases hv
  have l1:∀v,cC (bF v)->e9 mx (n+2) (fD im c o f [v]):=λv hv=>hlay [v] (bM 1) λw hw=>by rw[aF.1 hw];exact hv
  have l2:∀v w,cC (bF v)->cC (bF w)->e9 mx (n+2) (fD im c o f [v,w]):=λv w hv hw=>hlay [v,w] (aL 2) λx hx=>by
   rcases ah.1 hx with e|e
   .rw[e];exact hv
   .rw[aF.1 e];exact hw
  have hlast:∀g:Fr,p7 mx g->e9 mx (n+2) (⟨ea (bS c.fr f) g,j3 (cn im c o 0 0),c.tr⟩,bu):=λg hg=>by
   have:=Ml hn hg;exact⟨(hp.bW _ this.1 this.2).mono (by omega),kh⟩
  have hret:d_ mx n (ft c):=⟨aX (pC _ _) h.fr,λx hx=>h.f x (nr hx),aX (pC _ _) h.st,λx hx=>h.s x (nr hx),aX (List.length_filter_le _ _) h.tr⟩
  have hrv:cC (bF (sL c)):=h.get _ 0;unfold Cz;refine e9.bif ?_ λh3=>e9.bif ?_ λh22=>e9.bif ?_ λh23=>?_
  .refine hlast _ ⟨hfo.m,by show(f.vars.set _ _).length<=40;rw[dJ];exact hfo.v,λv hv=>?_⟩;rcases iu hv with h2|h2
   .exact hfo.s v h2
   .rw[h2];exact ha
  .exact e9.bif (l1 _ (PF (wu _ _))) λ_=>h1 _ _
  .exact e9.bif (l1 _ (PF (Lo _ _))) λ_=>h1 _ _
  .unfold nZ;refine e9.bif (l1 _ ?_) λ_=>e9.bif (l1 _ ?_) λ_=>e9.bif l0 λ_=>e9.bif (l2 _ _ ha ha) λ_=>e9.bif (l2 _ _ hb ha) λ_=>e9.bif (l1 _ (fq _)) λ_=>
    e9.bif (e9.bif ?_ λ_=>h1 _ _) λ_=>e9.bif (e9.bif (l1 _ (fq _)) λ_=>h1 _ _) λ_=>e9.bif (hlast _ (hfo.at rfl rfl)) λ_=>
    e9.bif (e9.bif (e9.bif l0 λ_=>hlast _ (hfo.at rfl rfl)) λ_=>h1 _ _) λh16=>e9.Xm (λh17=>?_) λ_=>e9.bif (e9.bif ⟨hret.mono (by omega),hrv⟩ λ_=>?_) λ_=>
    e9.bif (e9.bif (h1 _ _) λ_=>h1 _ _) λ_=>e9.bif ?_ λ_=>e9.bif (e9.bif ?_ λ_=>l0) λ_=>e9.bif (hlast _ ?_) λ_=>e9.bif (l1 _ (fq _)) λ_=>⟨h.mono (by omega),kh⟩
   .cases hi:im.cs[o.a.toNat]? with
    |none=>exact lB
    |some v=>exact hP.cs v (aG hi)
   .cases hi:f.vars[o.a.toNat]? with
    |none=>exact lB
    |some v=>exact hfo.s v (aG hi)
   .split
    .exact l1 _ (fq _)
    .exact h1 _ _
   .have h17:o.c=17:=by simpa using h17
    have hlen:=(nX hpo).1;have htk:(bm im o).toNat<=14:=by
     unfold bm;cases hi:inf o.c with
     |none=>exact aY _
     |some i=>
      obtain⟨_,_,_,_,_,q,_⟩:=ei hi;dsimp only;rw[show(o.c==17)=true by simp[h17],δ];cases hg:im.fs[o.a.toNat]? with
      |none=>dsimp only;omega
      |some g=>
       have:=hP.ar g (aG hg);dsimp only;omega
    cases he:dW ⟨bS c.fr f,j3 (cn im c o 0 0),c.tr⟩ with
    |false=>exact h1 _ _
    |true=>
     rw[δ];have:=hp'.enter he o.a (match im.fs[o.a.toNat]? with|some g=>g.vars|none=>0) (oY (cn im c o 0 0)) f.ma (by show(lF c (bm im o)).length<=20;omega) (h.lF _) hfo.m;exact⟨this.mono (by omega),kh⟩
   .exact⟨(hret.push hrv).mono (by omega),kh⟩
   .refine⟨⟨hn.1,hn.2,aX hp.st (by omega),hp.s,?_⟩,kh⟩;have:=h.tr;show(c.tr++_).length<=_;rw[aM];show c.tr.length+1<=_;omega
   .refine⟨⟨hn.1,hn.2,aX hp.st (by omega),hp.s,?_⟩,kh⟩;have:=h.tr;show(c.tr.take _).length<=_;rw[a_];omega
   .exact⟨Mi hfo.m hx,hfo.v,hfo.s⟩
theorem d_.x{im:Im}(hP:BR im)(h:d_ mx n c)(hx:mx<=255)(hn:n<700000000):Vu im c where
 hI:=hP.hI
 cd:=λi g hg=>hP.cd g (aG hg)
 lf:=by have:=h.fr;omega
 ls:=by have:=h.st;omega
 lt:=by have:=h.tr;omega
 ma:=λf hf=>by
  have:=h.f f (List.mem_of_getLast? hf);exact⟨⟨this.m.1,by have:=this.m.2;omega⟩,by have:=this.v;omega⟩
 sm:=h.s
 dm:=λo ho=>by
  obtain⟨f,fn,_,_,hfn,_,hoc,_⟩:=qe ho;exact hP.dm fn (aG hfn) o (aG hoc)
end
theorem fe{g:Gs}{l:Lb}:b5 g l=0<->bH g.cur l=true/\bH l g.gT=true:=by
 show(bif bH g.cur l then(bif bH l g.gT then 0 else -4)else -3)=(0:Int)<->_;cases bH g.cur l<;>cases bH l g.gT<;>simp
theorem EP{g:Gs}{l:Lb}:dY g l=0<->bH (dS g.cur l) g.gT=true:=by
 show(bif bH (dS g.cur l) g.gT then 0 else -4)=(0:Int)<->_;cases bH (dS g.cur l) g.gT<;>simp
theorem Er{g:Gs}{l:Lb}:j2 g l=0<->bH l g.gT=true/\bH g.cur l=true:=by
 show(bif bH l g.gT then(bif bH g.cur l then 0 else -3)else -4)=(0:Int)<->_;cases bH g.cur l<;>cases bH l g.gT<;>simp
theorem J_{g:Gs}{l:Lb}{p:Int}:lq g l p=0<->fk g.cur l p=true/\bH l g.gT=true:=by
 show(bif fk g.cur l p then(bif bH l g.gT then 0 else -4)else -3)=(0:Int)<->_;cases fk g.cur l p<;>cases bH l g.gT<;>simp
theorem JH{g:Gs}{l:Lb}{p:Int}:lX g l p=0<->fk l g.gT p=true/\bH g.cur l=true:=by
 show(bif fk l g.gT p then(bif bH g.cur l then 0 else -3)else -4)=(0:Int)<->_;cases fk l g.gT p<;>cases bH g.cur l<;>simp
inductive GStep(g:Gs):Gs->Prop where
  |same:GStep g g
  |PA (l:Lb):bH (dS g.cur l) g.gT=true->GStep g ⟨dS g.cur l,g.gT⟩
  |both (l:Lb):bH g.cur l=true->bH l g.gT=true->GStep g ⟨gV l,g.gT⟩
  |lower (l:Lb):bH g.cur l=true->bH l g.gT=true->GStep g ⟨g.cur,gV l⟩
theorem GStep.sm{g h:Gs}(H:GStep g h)(hg:jl g):jl h:=by
 cases H with
 |same=>exact hg
 |PA l _=>exact And.intro (wu _ _) hg.2
 |both l _ _=>exact And.intro (ki _) hg.2
 |lower l _ _=>exact And.intro hg.1 (ki _)
structure m_(mx:Int)(q:Nat)(o:Ob):Prop where
  l:cC o.l
  v:cC (bF o.v)
  w:cC (bF o.va.v)
  qs:∀x∈o.va.q,cC (bF x.v)
  ql:o.va.q.length<=q
  m:0<=o.ma/\o.ma<=mx
structure fB(mx:Int)(q n:Nat)(s:br):Prop where
  nm:s.nm.length<=n
  ns:∀p∈s.nm,p.2.2.length<=n/\∀x∈p.2.2,dr x
  th:∀p∈s.th,m_ mx q p.2
def Sf(g:Gs)(ma:Int)(x:En)(h:Gs):Prop:=x.ma=ma /\
  ((x.fr = g.cur ∧ h = ⟨gV x.to, g.gT⟩ ∧ fk g.cur x.to ma = true ∧ bH x.to g.gT = true ∧ bH g.cur x.to = false) ∨
   (x.fr=g.gT/\h=⟨g.cur,gV x.to⟩/\fk x.to g.gT ma=true/\bH g.cur x.to=true/\bH x.to g.gT=false))
inductive pJ(now mx:Int)(q n:Nat)(t:Th)(ma:Int)(s:br)(b:Option Nat):Fx->Th->br->Prop where
  |go (g:Gs) (k:Co) (st:Int) (on:List UInt8):GStep t.g g->d_ mx (n+1) k->(st=t.st\/st=1)->pJ now mx q n t ma s b .no {t with g:=g,c:=k,st:=st,on:=on} s
  |log (x:En) (g:Gs):Sf t.g ma x g->cC x.to->pJ now mx q n t ma s b (.log x) {t with g:=g} s
  |out (x:Ev):bH t.g.cur x.l=true->bH x.l t.g.gT=true->cC x.l->cC (bF x.v)->pJ now mx q n t ma s b (.out x) t s
  |set (e:Fx) (g:Gs) (i:Nat) (nm:List UInt8) (o p:Ob) (k:Co) (st:Int) (on:List UInt8):bw nm s.th=some (i,o)->(o.k=4\/o.k=5)->p.k=o.k->p.l=o.l->m_ mx (q+1) p ->
      bH t.g.cur o.l=true->bH o.l t.g.gT=true->(g=t.g\/g=⟨gV o.l,t.g.gT⟩)->d_ mx (n+1) k->(st=t.st\/st=1)->(e=.no\/∃w,e=.Ab w/\w.l.length<=1/\∀v∈w.l,cC (bF v)) ->
      pJ now mx q n t ma s b e {t with g:=g,c:=k,st:=st,on:=on} (jw s i nm p)
  |make (o:Ob) (k:Co):bH t.g.cur o.l=true->bH o.l t.g.gT=true->1<=t.ro->(o.k=3\/o.k=4\/o.k=5\/o.k=7)->m_ mx q o->d_ mx (n+1) k ->
      pJ now mx q n t ma s b .no {nj t with c:=k} (lr s (qE t) o b)
  |fork (l:Lb) (ro:Int) (k d:Co):bH t.g.cur l=true->bH l t.g.gT=true->cC l->0<=ro->ro<t.ro->d_ mx (n+1) k->d_ mx n d ->
      pJ now mx q n t ma s b (.fork (DD (b8 (qE t)) ⟨t.g.cur,gV l⟩ d ro)) {nj t with ro:=t.ro-1-ro,c:=k} (lr s (qE t) {fo with k:=6,l:=l} b)
  |scope (l:Lb) (tk ro:Int) (k:Co):bH t.g.cur l=true->bH l t.g.gT=true->cC l->0<=ro->ro<t.ro->1<=tk->tk<=1000->d_ mx (n+1) k ->
      pJ now mx q n t ma s b .no {t with sc:=t.sc++[uf t l tk ro now (b8 (qE t))],c:=k,g:=⟨t.g.cur,gV l⟩,pa:=b8 (qE t),ma:=0,ro:=ro} s
def fL(mx:Int)(q n:Nat)(c:Ca)(s:br):OR->Prop
 |.ok e f=>∀b,pJ c.now mx q n c.t c.ma s b e (f b).1.t (f b).2
 |.ex _ c' s'=>s'=s/\c'.tr=c.tr/\∃g,GStep c.t.g g/\c'.t={c.t with g:=g}
structure o8(mx:Int)(q n:Nat)(c:Ca)(s:br):Prop where
  co:d_ mx n c.t.c
  g:jl c.t.g
  a:∀v∈c.ar,cC (bF v)
  m:0<=c.ma/\c.ma<=mx
  so:fB mx q n s
section
variable{mx:Int}{q n:Nat}{c:Ca}{s:br}
theorem cY{b:Bool}{x y:OR}(hx:b=true->fL mx q n c s x)(hy:b=false->fL mx q n c s y):fL mx q n c s (bif b then x else y):=by
 cases b
 .exact hy rfl
 .exact hx rfl
theorem dQ(m:Int):fL mx q n c s (.ex m c s):=⟨rfl,rfl,c.t.g,.same,rfl⟩
theorem o8.ar(h:o8 mx q n c s)(i:Nat):cC (bF (c.ar[i]?.getD ck)):=by
 cases hi:c.ar[i]? with
 |none=>exact lB
 |some v=>exact h.a v (aG hi)
theorem o8.look(h:o8 mx q n c s){nm:List UInt8}{i:Nat}{o:Ob}(hl:bw nm s.th=some (i,o)):m_ mx q o:=by
 obtain⟨p,hp,rfl⟩:=gW hl;exact h.so.th p hp
theorem DA(mx:Int)(q:Nat)(k:Int){l:Lb}(hl:cC l){v:Va}(hv:cC (bF v))(fu:Int){ma:Int}(hm:0<=ma/\ma<=mx):m_ mx q {fo with k:=k,l:=l,v:=v,fu:=fu,ma:=ma}:=
 ⟨hl,hv,mc,λx hx=>(by cases hx),aY _,hm⟩
theorem jt{s:br}{h:Va}{i:Nat}{o:Ob}(ht:dD s h=some (i,o)):bw h.nm s.th=some (i,o)/\o.k=h.k/\o.l=bF h:=by
 unfold dD at ht;cases hl:bw h.nm s.th with
 |none=>rw[hl]at ht;cases ht
 |some p=>
  obtain⟨j,p⟩:=p;rw[hl]at ht;dsimp only at ht;cases hb:(p.k==h.k)&&((p.l.s==h.ls)&&(p.l.i==h.li)) with
  |false=>rw[hb]at ht;cases ht
  |true=>
   rw[hb,δ,aD,dG]at ht;obtain⟨rfl,rfl⟩:=ht;simp only[aO,ξ]at hb;refine⟨rfl,hb.1,?_⟩;unfold bF;rw[<-hb.2.1,<-hb.2.2]
theorem uP{k:Int}{ks:List Int}{ar:List Va}(h:cH (k::ks) ar=true)(hl:0<ar.length)(hk:k≠0):(ar[0]?.getD ck).k=k:=by
 match ar,hl with
 |v::r,_=>
  unfold cH at h;rw[List.zip_cons_cons,qB,aO,cT]at h;rcases h.1 with h1|h1
  .exact absurd (by simpa using h1) hk
  .show v.k=k;simpa using h1
theorem kM{a:Int}(h:(a==0)=true):a=0:=by simpa using h
theorem R2{a:Int}(h:(a==0)=false):a≠0:=by simpa using h
theorem ER{g:Gs}{l:Lb}(h:dY g l=0):cj g l=⟨dS g.cur l,g.gT⟩:=by
 unfold cj;rw[show(dY g l==0)=true by simp[h],δ]
theorem uq{g:Gs}{l:Lb}(h:b5 g l=0):ur g l=⟨gV l,g.gT⟩:=by
 unfold ur;rw[show(b5 g l==0)=true by simp[h],δ]
theorem pY{g:Gs}{l:Lb}(h:dY g l=0):GStep g (cj g l):=by
 rw[ER h];exact .PA l (EP.1 h)
theorem wY{g:Gs}{l:Lb}(h:b5 g l=0):GStep g (ur g l):=by
 rw[uq h];exact .both l (fe.1 h).1 (fe.1 h).2
theorem kI(g:Gs)(k:Co)(hg:GStep c.t.g g)(hk:d_ mx (n+1) k):∀b,pJ c.now mx q n c.t c.ma s b .no {c.t with g:=g,c:=k} s:=
 λ_=>.go g k c.t.st c.t.on hg hk (.inl rfl)
theorem NT(h:o8 mx q n c s):fL mx q n c s (SJ c s):=kI c.t.g _ .same (h.co.push h.g.1)
theorem NU(h:o8 mx q n c s):fL mx q n c s (SN c s):=kI c.t.g _ .same (h.co.push h.g.2)
theorem F5(h:o8 mx q n c s):fL mx q n c s (xJ c s):=
 cY (λ_=>cY (λh1=>kI _ _ (pY (kM h1)) (h.co.mono (bM _))) λ_=>dQ _) λ_=>dQ _
theorem F6(h:o8 mx q n c s):fL mx q n c s (x6 c s):=
 cY (λ_=>cY (λh1=>by
  have h2:=Er.1 (kM h1);refine kI _ _ ?_ (h.co.mono (bM _));unfold uE;rw[h1,δ];exact .lower _ h2.2 h2.1) λ_=>dQ _) λ_=>dQ _
theorem ui(h:o8 mx q n c s)(o:Ob)(hk:o.k=3\/o.k=4\/o.k=5\/o.k=7)(ho:m_ mx q o):fL mx q n c s (jd c s o):=by
 unfold jd;refine cY (λh1=>cY (λ_=>dQ _) λh2=>λb=>?_) λ_=>dQ _;have h3:=fe.1 (kM h1);have h2:=ι h2;exact .make o _ h3.1 h3.2 (by omega) hk ho (h.co.push ho.l)
theorem Dj(h:o8 mx q n c s)(h0:0<=mx)(k:Int)(hk:k=3\/k=4):fL mx q n c s (tz k c s):=
 cY (λ_=>ui h _ (by rcases hk with e|e<;>simp[e]) (DA mx q k (h.ar 1) (h.ar 0) 0 ⟨eT _,h0⟩)) λ_=>dQ _
theorem KL(h:o8 mx q n c s)(h0:0<=mx):fL mx q n c s (xU c s):=
 cY (λ_=>ui h _ (.inr (.inr (.inl rfl))) (DA mx q 5 (h.ar 0) mc 0 ⟨eT _,h0⟩)) λ_=>dQ _
theorem KM(h:o8 mx q n c s):fL mx q n c s (xV c s):=
 cY (λ_=>ui h _ (.inr (.inr (.inr rfl))) (DA mx q 7 (h.ar 0) mc c.o.a h.m)) λ_=>dQ _
theorem KJ(h:o8 mx q n c s):fL mx q n c s (Cy c s):=by
 refine cY (λ_=>?_) λ_=>dQ _;unfold rp;refine cY (λh1=>?_) λ_=>dQ _;have h2:=pY (kM h1);cases ht:dD s (c.ar[0]?.getD ck) with
 |none=>exact kI _ _ h2 (h.co.push (fq 0))
 |some p=>
  obtain⟨i,o⟩:=p;have ho:=h.look (jt ht).1;dsimp only;unfold nQ;cases o.ex with
  |true=>exact⟨rfl,rfl,_,h2,rfl⟩
  |false=>exact kI _ _ h2 (h.co.push ho.v)
theorem rX(h:o8 mx q n c s)(v:Va)(go:Ca->br->Ob->RQ)(hg:∀g o,GStep c.t.g g->m_ mx q o->fL mx q n c s (go {c with t:={c.t with g:=g}} s o).or):fL mx q n c s (gz c s v go).or:=by
 unfold gz;cases h1:dY c.t.g (bF v)==0 with
 |false=>exact dQ _
 |true=>
  rw[δ];have h2:=pY (kM h1);cases ht:dD s v with
  |none=>exact kI _ _ h2 (h.co.push (fq 0))
  |some p=>
   obtain⟨i,o⟩:=p;exact hg _ _ h2 (h.look (jt ht).1)
theorem AJ(h:o8 mx q n c s):fL mx q n c s (qK c s):=
 cY (λ_=>rX h _ _ λg _ hg ho=>kI g _ hg (h.co.push ho.v)) λ_=>dQ _
theorem KG(h:o8 mx q n c s):fL mx q n c s (C6 c s):=by
 refine cY (λ_=>rX h _ _ λg o hg ho=>?_) λ_=>dQ _;unfold nL;cases o.dn with
 |false=>exact λb=>.go g c.t.c 1 _ hg (h.co.mono (bM _)) (.inr rfl)
 |true=>
  cases o.ex with
  |true=>exact⟨rfl,rfl,g,hg,rfl⟩
  |false=>exact kI g _ hg (h.co.push ho.v)
theorem F7(h:o8 mx q n c s):fL mx q n c s (su c s):=by
 refine cY (λ_=>rX h _ _ λg o hg ho=>?_) λ_=>dQ _;unfold kH;cases he:dW c.t.c with
 |false=>exact⟨rfl,rfl,g,hg,rfl⟩
 |true=>
  have h1:=h.co.enter he o.fu (gU c.im o.fu) (c.ar.take 1) o.ma (aX (List.length_take_le _ _) (by decide)) (λv hv=>h.a v (fZ hv)) ho.m;exact kI g _ hg (h1.mono (bM _))
theorem NS(h:o8 mx q n c s):fL mx q n c s (MO c s):=
 cY (λ_=>cY (λh1 _=>.out _ (fe.1 (kM h1)).1 (fe.1 (kM h1)).2 (h.ar 1) (h.ar 0)) λ_=>dQ _) λ_=>dQ _
theorem KQ(h:o8 mx q n c s):fL mx q n c s (Dh c s):=by
 refine cY (λ_=>cY (λh1 b=>?_) λ_=>dQ _) λ_=>dQ _;have h2:=J_.1 (kM h1);unfold B6 ug wR;rw[h1,δ,δ];cases hf:bH c.t.g.cur (bF (c.ar[0]?.getD ck)) with
 |true=>exact .go _ c.t.c c.t.st c.t.on (.both _ hf h2.2) (h.co.mono (bM _)) (.inl rfl)
 |false=>exact .log _ _ ⟨rfl,.inl ⟨rfl,rfl,h2.1,h2.2,hf⟩⟩ (h.ar 0)
theorem KN(h:o8 mx q n c s):fL mx q n c s (DQ c s):=by
 refine cY (λ_=>cY (λh1 b=>?_) λ_=>dQ _) λ_=>dQ _;have h2:=JH.1 (kM h1);unfold B6 uI wD;rw[h1,δ,δ];cases hf:bH (bF (c.ar[0]?.getD ck)) c.t.g.gT with
 |true=>exact .go _ c.t.c c.t.st c.t.on (.lower _ h2.2 hf) (h.co.mono (bM _)) (.inl rfl)
 |false=>exact .log _ _ ⟨rfl,.inr ⟨rfl,rfl,h2.1,h2.2,hf⟩⟩ (h.ar 0)
theorem F3(h:o8 mx q n c s)(hl:c.ar.length=2):fL mx q n c s (qz c s):=by
 refine cY (λhk=>cY (λh1=>?_) λ_=>dQ _) λ_=>dQ _;have h2:=fe.1 (kM h1);cases ht:dD s (c.ar[0]?.getD ck) with
 |none=>exact kI c.t.g c.t.c .same (h.co.mono (bM _))
 |some p=>
  obtain⟨i,o⟩:=p;obtain⟨g1,g2,g3⟩:=jt ht;have ho:=h.look g1;rw[<-g3]at h2;exact λb=>.set .no c.t.g i _ o {o with v:=c.ar[1]?.getD ck} c.t.c c.t.st c.t.on g1 (.inl (by rw[g2];exact uP hk (by omega) (by decide))) rfl rfl ⟨ho.l,h.ar 1,ho.w,ho.qs,cU ho.ql,ho.m⟩ h2.1 h2.2 (.inl rfl) (h.co.mono (bM _)) (.inl rfl) (.inl rfl)
theorem rW{l:List Wt}{i:Nat}{x:Wt}(h:x∈lp l i):x∈l:=by
 unfold lp at h;rcases aT.1 h with h1|h1
 .exact fZ h1
 .exact eS h1
theorem Ld{o:Ob}(ho:m_ mx q o)(id:List UInt8):m_ mx (q+1) {o with va:=(e_ o.va id).1}/\cC (bF (e_ o.va id).2.1):=by
 have hlen:=vg (x:=o.va) (id:=id);have hq:=ho.ql;have hall:cC (bF (e_ o.va id).1.v)/\(∀x∈(e_ o.va id).1.q,cC (bF x.v))/\cC (bF (e_ o.va id).2.1):=by
  unfold e_;cases o.va.full with
  |false=>
   refine⟨ho.w,λx hx=>?_,mc⟩;rcases aT.1 hx with h1|h1
   .exact ho.qs x h1
   .rw[aF.1 h1];exact mc
  |true=>
   rw[δ];cases hi:o.va.q[tB true o.va.q]? with
   |none=>exact⟨mc,ho.qs,ho.w⟩
   |some w=>exact⟨ho.qs w (aG hi),λx hx=>ho.qs x (rW hx),ho.w⟩
 exact⟨⟨ho.l,ho.v,hall.1,hall.2.1,by show(e_ o.va id).1.q.length<=q+1;omega,ho.m⟩,hall.2.2⟩
theorem Qs{o:Ob}(ho:m_ mx q o)(id:List UInt8)(v:Va)(hv:cC (bF v)):m_ mx (q+1) {o with va:=(jx o.va id v).1}:=by
 have hlen:=zD (x:=o.va) (id:=id) (v:=v);have hq:=ho.ql;have hall:cC (bF (jx o.va id v).1.v)/\(∀x∈(jx o.va id v).1.q,cC (bF x.v)):=by
  unfold jx;cases o.va.full with
  |true=>
   refine⟨ho.w,λx hx=>?_⟩;rcases aT.1 hx with h1|h1
   .exact ho.qs x h1
   .rw[aF.1 h1];exact hv
  |false=>
   rw[ε];cases hi:o.va.q[tB false o.va.q]? with
   |none=>exact⟨hv,ho.qs⟩
   |some w=>exact⟨ho.w,λx hx=>ho.qs x (rW hx)⟩
 exact⟨ho.l,ho.v,hall.1,hall.2,by show(jx o.va id v).1.q.length<=q+1;omega,ho.m⟩
theorem C4{id:List UInt8}{l:List Va}(h1:l.length<=1)(hl:∀v∈l,cC (bF v)):nJ id l=.no\/∃w,nJ id l=.Ab w/\w.l.length<=1/\∀v∈w.l,cC (bF v):=by
 unfold nJ;cases id == []
 .exact .inr ⟨_,rfl,h1,hl⟩
 .exact .inl rfl
theorem KH(h:o8 mx q n c s)(hl:c.ar.length=1):fL mx q n c s (rA c s):=by
 refine cY (λhk=>cY (λh1=>?_) λ_=>dQ _) λ_=>dQ _;have h1:=kM h1;have h2:=fe.1 h1;cases ht:dD s (c.ar[0]?.getD ck) with
 |none=>exact λb=>.go _ c.t.c 1 _ (wY h1) (h.co.mono (bM _)) (.inr rfl)
 |some p=>
  obtain⟨i,o⟩:=p;obtain⟨g1,g2,g3⟩:=jt ht;have ho:=h.look g1;have hb:=uq h1;rw[<-g3]at h2 hb;have hk5:o.k=4\/o.k=5:=.inr (by rw[g2];exact uP hk (by omega) (by decide));obtain⟨t1,t2⟩:=Ld ho c.t.id;dsimp only;cases(e_ o.va c.t.id).2.2.1 with
  |true=>exact λb=>.set _ _ i _ o {o with va:=(e_ o.va c.t.id).1} _ c.t.st c.t.on g1 hk5 rfl rfl t1 h2.1 h2.2 (.inr (by rw[<-g3];exact hb)) (h.co.push t2) (.inl rfl) (C4 (aY _) λv hv=>by cases hv)
  |false=>exact λb=>.set _ _ i _ o {o with va:=(e_ o.va c.t.id).1} _ 1 _ g1 hk5 rfl rfl t1 h2.1 h2.2 (.inr (by rw[<-g3];exact hb)) (h.co.mono (bM _)) (.inr rfl) (.inl rfl)
theorem NR(h:o8 mx q n c s)(hl:c.ar.length=2):fL mx q n c s (vr c s):=by
 refine cY (λhk=>cY (λh1=>?_) λ_=>dQ _) λ_=>dQ _;have h1:=kM h1;have h2:=fe.1 h1;cases ht:dD s (c.ar[0]?.getD ck) with
 |none=>exact λb=>.go _ c.t.c 1 _ (wY h1) (h.co.mono (bM _)) (.inr rfl)
 |some p=>
  obtain⟨i,o⟩:=p;obtain⟨g1,g2,g3⟩:=jt ht;have ho:=h.look g1;have hb:=uq h1;rw[<-g3]at h2 hb;have hk5:o.k=4\/o.k=5:=.inr (by rw[g2];exact uP hk (by omega) (by decide));have t1:=Qs ho c.t.id (c.ar[1]?.getD ck) (h.ar 1);dsimp only;cases(jx o.va c.t.id (c.ar[1]?.getD ck)).2.1 with
  |true=>exact λb=>.set _ _ i _ o {o with va:=(jx o.va c.t.id (c.ar[1]?.getD ck)).1} c.t.c c.t.st c.t.on g1 hk5 rfl rfl t1 h2.1 h2.2 (.inr (by rw[<-g3];exact hb)) (h.co.mono (bM _)) (.inl rfl) (C4 (aL 1) λv hv=>by rw[aF.1 hv];exact h.ar 1)
  |false=>exact λb=>.set _ _ i _ o {o with va:=(jx o.va c.t.id (c.ar[1]?.getD ck)).1} _ 1 _ g1 hk5 rfl rfl t1 h2.1 h2.2 (.inr (by rw[<-g3];exact hb)) (h.co.mono (bM _)) (.inr rfl) (.inl rfl)
theorem okCo_0(mx:Int)(n:Nat):d_ mx n c00:=⟨by decide,λf hf=>(by cases hf),aY _,λv hv=>(by cases hv),aY _⟩
theorem KO(h:o8 mx q n c s):fL mx q n c s (D6 c s):=by
 refine cY (λ_=>cY (λh1 b=>?_) λ_=>dQ _) λ_=>dQ _;have h1:=kM h1;unfold kF at h1;cases hw:b5 c.t.g (bF (c.ar[2]?.getD ck))==0 with
 |false=>rw[hw,ε]at h1;exact absurd h1 (R2 hw)
 |true=>
  rw[hw,δ]at h1;have h2:=fe.1 (kM hw);cases hb:decide ((c.ar[1]?.getD ck).n<0)||(decide (999<(c.ar[1]?.getD ck).n)||decide (c.t.ro<=(c.ar[1]?.getD ck).n)) with
  |true=>rw[hb]at h1;cases h1
  |false=>
   simp only[iU,decide_eq_false_iff_not]at hb;have h3:=(okCo_0 mx n).enter (show dW c00=true by decide) c.o.a (gU c.im c.o.a) [c.ar[0]?.getD ck] c.ma (show 1<=20 by decide) (λv hv=>by rw[aF.1 hv];exact h.ar 0) h.m;exact .fork (bF (c.ar[2]?.getD ck)) (c.ar[1]?.getD ck).n _ _ h2.1 h2.2 (h.ar 2) (by omega) (by omega) (h.co.push (h.ar 2)) h3
theorem F4(h:o8 mx q n c s):fL mx q n c s (xA c s):=by
 refine cY (λ_=>cY (λh0 b=>?_) λ_=>dQ _) λ_=>dQ _;have h1:=kM h0;dsimp only;unfold mC;rw[h0,δ];unfold cr at h1;split at h1
 .cases h1
 .split at h1
  .cases h1
  .split at h1
   .rename_i h4;exact absurd h1 h4
   .split at h1
    .cases h1
    .split at h1
     .cases h1
     .rename_i a1 a2 a3 a4 a5;have h2:=fe.1 (Classical.not_not.1 a3);have he:dW c.t.c=true:=by simpa using a5
      have h3:=h.co.enter he c.o.a (gU c.im c.o.a) [c.ar[0]?.getD ck] c.ma (show 1<=20 by decide) (λv hv=>by rw[aF.1 hv];exact h.ar 0) h.m;exact .scope (bF (c.ar[3]?.getD ck)) (c.ar[2]?.getD ck).n (c.ar[1]?.getD ck).n _ h2.1 h2.2 (h.ar 3) (by omega) (by omega) (by omega) (by omega) (h3.mono (bM _))
theorem BN{F:Nat}{po:Int}(h:o8 mx q n c s)(h0:0<=mx)(hF:(c.o.c,F,po)∈codeF)(hl:(c.ar.length:Int)=po):fL mx q n c s (jz c s):=by
 unfold jz;simp only[codeF,ah,dG,eN,or_false]at hF;rcases hF with h1|h1|h1|h1|h1|h1|h1|h1|h1|h1|h1|h1|h1|h1|h1|h1|h1|h1|h1|h1<;>obtain⟨e,_,rfl⟩:=h1<;>rw[e]
 .exact NT h
 .exact NU h
 .exact F5 h
 .exact F6 h
 .exact Dj h h0 3 (.inl rfl)
 .exact KJ h
 .exact Dj h h0 4 (.inr rfl)
 .exact AJ h
 .exact F3 h (by omega)
 .exact KL h h0
 .exact KH h (by omega)
 .exact NR h (by omega)
 .exact KO h
 .exact KG h
 .exact F4 h
 .exact NS h
 .exact KQ h
 .exact KN h
 .exact KM h
 .exact F7 h
end
theorem yX(n:Nat)(h:n<100)(r:List UInt8):gk (Lib.decDigits n++r) 0=gk r n:=by
 unfold Lib.decDigits
 by_cases h1:n<10
 .rw[dif_pos h1];have:∀m:Nat,m<10->(UInt8.ofNat (48+m)==46)=false/\(UInt8.ofNat (48+m)).toNat-48=m:=by decide
  obtain⟨a,b⟩:=this n h1;show(bif UInt8.ofNat (48+n)==46 then _ else gk r (10*0+((UInt8.ofNat (48+n)).toNat-48)))=_;rw[a,ε,b,Nat.mul_zero,cE]
 .rw[dif_neg h1];unfold Lib.decDigits;rw[dif_pos (by omega)];have:∀m:Nat,m<10->(UInt8.ofNat (48+m)==46)=false/\(UInt8.ofNat (48+m)).toNat-48=m:=by decide
  obtain⟨a,b⟩:=this (n / 10) (by omega);obtain⟨a',b'⟩:=this (n % 10) (by omega);show(bif UInt8.ofNat (48+n / 10)==46 then _ else(bif UInt8.ofNat (48+n % 10)==46 then _ else gk r (10*(10*0+((UInt8.ofNat (48+n / 10)).toNat-48))+((UInt8.ofNat (48+n % 10)).toNat-48))))=_;rw[a,ε,a',ε,b,b'];congr 1;omega
theorem GQ:∀(l:List Nat)(n:Nat),(∀x∈l,x<100)->gk (sG l) n=n::l
 |[],n,_=>rfl
 |m::r,n,h=>by
  show gk (46::Lib.decDigits m++sG r) n=_;show n::gk (Lib.decDigits m++sG r) 0=_;rw[yX m (h m (by simp)),GQ r m λx hx=>h x (by simp[hx])]
theorem tK{l:List Nat}(h0:l≠[])(h:∀x∈l,x<100):gk (b8 l) 0=l:=by
 match l,h0 with
 |m::r,_=>
  show gk (Lib.decDigits m++sG r) 0=_;rw[yX m (h m (by simp)),GQ r m λx hx=>h x (by simp[hx])]
structure qN(p:List Nat)(pa:List UInt8)(ma ro:Int):Prop where
  t:pa=b8 p
  ne:p≠[]
  lt:∀x∈p,x<100
  m0:0<=ma
  r0:0<=ro
  mr:ma+ro<=15
  le:p.length+ro<=16
structure RJ(s:Sc):Prop where
  l:cC s.l
  g:jl s.g
  pa:∃p,qN p s.pa s.ma s.ro
  nm:∃p,s.nm=b8 p/\dr p
structure fS(mx:Int)(n:Nat)(t:Th):Prop where
  co:d_ mx n t.c
  g:jl t.g
  pa:∃p,qN p t.pa t.ma t.ro
  sc:∀s∈t.sc,RJ s
  sl:t.sc.length<=n
  v:cC (bF t.v)
section
variable{mx:Int}{q n:Nat}{im:Im}{t:Th}{s:br}{now:Int}
theorem qN.un{p:List Nat}{pa:List UInt8}{ma ro:Int}(h:qN p pa ma ro):gk pa 0=p:=by rw[h.t];exact tK h.ne h.lt
theorem qN.kp{p:List Nat}(h:qN p t.pa t.ma t.ro):qE t=p++[t.ma.toNat]:=by unfold qE;rw[h.un]
theorem qN.oG{p:List Nat}(h:qN p t.pa t.ma t.ro)(hr:1<=t.ro):dr (qE t):=by
 rw[h.kp];have:=h.le;have:=h.mr;have:=h.m0;have:=h.r0;refine⟨by simp,by rw[aM];show _+1<=_;omega,λx hx=>?_⟩;rcases aT.1 hx with h1|h1
 .exact h.lt x h1
 .rw[aF.1 h1];omega
theorem qN.child{p:List Nat}(h:qN p t.pa t.ma t.ro){ro:Int}(h0:0<=ro)(hr:ro<t.ro):qN (qE t) (b8 (qE t)) 0 ro:=by
 have hg:=h.oG (by omega);have hk:=h.kp;have:=h.le;have:=h.mr;have:=h.m0;refine⟨rfl,hg.1,hg.2.2,eT _,h0,by omega,?_⟩;rw[hk,aM];show((p.length+1:Nat):Int)+ro<=16;omega
theorem qN.made{p:List Nat}{pa:List UInt8}{ma ro d:Int}(h:qN p pa ma ro)(hd:0<=d)(hr:d<ro):qN p pa (ma+1) (ro-1-d):=by
 have:=h.le;have:=h.mr;have:=h.m0;exact⟨h.t,h.ne,h.lt,by omega,by omega,by omega,by omega⟩
theorem fS.T(hP:BR im)(h:fS mx n t)(hs:fB mx q n s)(hx:mx<=255)(hw:0<=now/\now<1000000000)(hn:n<50000000)(hq:q<90000000):RI im t s now:=by
 obtain⟨p,hp⟩:=h.pa;have hu:=hp.un;have:=hp.le;have:=hp.r0;have:=hp.mr;have:=hp.m0;exact{
  x:=h.co.x hP hx (by omega)
  n:=⟨by rw[hu];exact hp.t,by rw[hu];exact hp.ne,by rw[hu];omega,by rw[hu];exact hp.lt,hp.m0,by omega,by omega⟩
  g:=h.g
  gs:=⟨by have:=hs.nm;omega,λp hp=>⟨by have:=(hs.ns p hp).1;omega,(hs.ns p hp).2⟩⟩
  sc:=by have:=h.sl;omega
  w:=hw
  q:=λp hp=>by have:=(hs.th p hp).ql;omega}
def xp(t:Th)(s:br)(v:Va)(ex:Bool):Bool×br:=
 if(eV t v ex).st≠3/\(eV t v ex).st≠4 then(false,s) else
 match bw t.id s.th with
 |some (i,o)=>if o.k=6 then(true,jw s i t.id {o with v:=v,ex:=ex,dn:=true})else(true,s)
 |none=>(true,s)
theorem Da(c:Ca)(s:br)(v:Va)(ex:Bool):(nB c s v ex).1.t=eV c.t v ex/\(nB c s v ex).2=xp c.t s v ex:=by
 unfold nB xp;dsimp only
 by_cases h:(eV c.t v ex).st≠3/\(eV c.t v ex).st≠4
 .rw[ζ h,ζ h];exact⟨rfl,rfl⟩
 .rw[η h,η h,show(eV c.t v ex).id=c.t.id from rfl];cases bw c.t.id s.th with
  |none=>exact⟨rfl,rfl⟩
  |some p=>
   obtain⟨i,o⟩:=p;dsimp only
   by_cases h6:o.k=6
   .rw[ζ h6,ζ h6];exact⟨rfl,rfl⟩
   .rw[η h6,η h6];exact⟨rfl,rfl⟩
inductive vE(now mx:Int)(q n:Nat)(t:Th)(s:br)(b:Option Nat):Rs->Prop where
  |idle:t.st≠0->vE now mx q n t s b ⟨t,.no,false,s⟩
  |core (g:Gs) (k:Co):t.st=0->GStep t.g g->d_ mx (n+2) k->vE now mx q n t s b ⟨{t with g:=g,c:=k},.no,false,s⟩
  |fin (g:Gs) (k:Co) (v:Va) (ex:Bool):t.st=0->GStep t.g g->d_ mx (n+2) k->cC (bF v) ->
      vE now mx q n t s b ⟨eV {t with g:=g,c:=k} v ex,.no,(xp {t with g:=g,c:=k} s v ex).1,(xp {t with g:=g,c:=k} s v ex).2⟩
  |SI (k:Co) (ma:Int) (e:Fx) (t':Th) (s':br):t.st=0->d_ mx n k->0<=ma/\ma<=mx->pJ now mx q n {t with c:=k} ma s b e t' s'->vE now mx q n t s b ⟨t',e,false,s'⟩
theorem tM(c:Ca)(v:Va)(ex:Bool)(g:Gs)(k:Co)(b:Option Nat)(hc:c.t={t with g:=g,c:=k})(h0:t.st=0)(hg:GStep t.g g)(hk:d_ mx (n+2) k)(hv:cC (bF v)):vE now mx q n t s b (EZ (nB c s v ex)):=by
 obtain⟨e1,e2⟩:=Da c s v ex;have:EZ (nB c s v ex)=⟨eV {t with g:=g,c:=k} v ex,.no,(xp {t with g:=g,c:=k} s v ex).1,(xp {t with g:=g,c:=k} s v ex).2⟩:=by
  unfold EZ;rw[e1,e2,hc]
 rw[this];exact .fin g k v ex h0 hg hk hv
theorem AH (hP:BR im) (h:fS mx n t) (hs:fB mx q n s) (h0:0≤mx) (hx:mx≤255) (hn:n<50000000) (b:Option Nat):vE now mx q n t s b (xw im t s now b):=by
  unfold xw
  by_cases hst:t.st=0
  · rw [show (t.st != 0) = false by simp [hst], ε]
    have hr:=Ar (fr:=(cZ t).fr) (tr:=(cZ t).tr) hP h.co hx
    have hask:=vi (fr:=(cZ t).fr) (tr:=(cZ t).tr) (h.co.x hP hx (by omega))
    generalize hr':ij im t.c (cZ t).fr (cZ t).tr=r at hr hask⊢
    cases k1:r.2.k==1 with
    |true=>exact tM _ _ _ t.g r.1 b rfl hst .same hr.c hr.v
    |false=>
      cases k2:r.2.k==2 with
      |true=>exact tM _ _ _ t.g r.1 b rfl hst .same hr.c hr.v
      |false=>
        cases k3:r.2.k==3 with
        |false=>exact .core t.g r.1 hst .same hr.c
        |true=>
          rw[ε,ε,δ]
          obtain⟨o,f,F,po,e,hf,hcf,hp,hpc⟩:=hask (by simpa using k3)
          rw[e]
          obtain⟨⟨i,hi,hpi⟩,_⟩:=xx hcf
          subst hpi
          unfold S5
          rw[show(sQ im t now).t.c.fr.getLast?=some f from hf]
          dsimp only
          rw[hi]
          dsimp only
          have hfo:p7 mx f:=h.co.f f (List.mem_of_getLast? hf)
          have hnx:=Hv h.co hfo
          have hck:d_ mx n {sM t.c i.po with fr:=bS t.c.fr f}:=(h.co.pop i.po).bW _ hnx.1 hnx.2
          have hd:=BN (c:=py (sQ im t now) o f i.po) (q:=q) ⟨hck,h.g,h.co.lF _,hfo.m,hs⟩ h0 hcf (ED hp)
          generalize jz (py (sQ im t now) o f i.po) s=R at hd⊢
          cases R with
          |ok e g=>exact .SI _ f.ma e _ _ hst hck hfo.m (hd b)
          |ex m c' s'=>
            obtain⟨rfl,_,g,hg,hc⟩:=hd
            unfold OR.fin
            have hra:=h.co.raise m c'.tr
            unfold lE
            dsimp only
            rw[show(sQ im t now).t.c=t.c from rfl]
            generalize raise t.c m c'.tr=r2 at hra⊢
            have hc2:{c'.t with c:=r2.1}={t with g:=g,c:=r2.1}:=by rw[hc];rfl
            cases k4:r2.2.k==2 with
            |true=>exact tM _ _ _ g r2.1 b hc2 hst hg (hra.c.mono (by omega)) hra.v
            |false=>
              rw[ε]
              unfold EZ
              dsimp only
              rw[hc2]
              exact .core g r2.1 hst hg (hra.c.mono (by omega))
  · rw[show(t.st != 0)=true by simp[hst],δ]
    exact .idle hst
end
section
variable{mx:Int}{q n:Nat}{t:Th}{s:br}{now:Int}{b:Option Nat}
theorem m_.mono{o:Ob}(h:m_ mx q o):m_ mx (q+1) o:=⟨h.l,h.v,h.w,h.qs,cU h.ql,h.m⟩
theorem fB.mono(h:fB mx q n s):fB mx (q+1) (n+1) s:=⟨cU h.nm,λp hp=>⟨cU (h.ns p hp).1,(h.ns p hp).2⟩,λp hp=>(h.th p hp).mono⟩
theorem fB.Q4(h:fB mx q n s)(i:Nat)(key:List UInt8){o:Ob}(ho:m_ mx q o):fB mx q n (jw s i key o):=by
 refine⟨h.nm,h.ns,λp hp=>?_⟩;rcases iu hp with h1|h1
 .exact h.th p h1
 .rw[h1];exact ho
theorem fB.set(h:fB mx q n s)(i:Nat)(key:List UInt8){o:Ob}(ho:m_ mx (q+1) o):fB mx (q+1) (n+1) (jw s i key o):=h.mono.Q4 i key ho
theorem si{α:Type}{f:α->α}{x:α}:∀{l:List α}{i:Nat},x∈l.modify i f->x∈l\/∃y∈l,x=f y
 |[],i,h=>by simp at h
 |a::l,0,h=>by
  rw[List.modify_zero_cons]at h;rcases ah.1 h with h1|h1
  .exact .inr ⟨a,by simp,h1⟩
  .exact .inl (by simp[h1])
 |a::l,i+1,h=>by
  rw[List.modify_succ_cons]at h;rcases ah.1 h with h1|h1
  .exact .inl (by simp[h1])
  .rcases si h1 with h2|⟨y,h2,h3⟩
   .exact .inl (by simp[h2])
   .exact .inr ⟨y,by simp[h2],h3⟩
theorem q6(ns:List (List Nat))(kp:List Nat):(mN ns kp).length=ns.length+1:=by
 unfold mN;rw[aM,aZ,a_,dt];omega
theorem oF{ns:List (List Nat)}{kp x:List Nat}:x∈mN ns kp<->x=kp\/x∈ns:=by
 unfold mN;rw[aT,ah];constructor
 .rintro (h|h|h)
  .exact .inr (fZ h)
  .exact .inl h
  .exact .inr (eS h)
 .rintro (h|h)
  .exact .inr (.inl h)
  .rw[<-List.take_append_drop (mV ns kp) ns]at h;rcases aT.1 h with h1|h1
   .exact .inl h1
   .exact .inr (.inr h1)
theorem fB.add(h:fB mx q n s){kp:List Nat}{o:Ob}(hk:dr kp)(ho:m_ mx (q+1) o)(b:Option Nat):fB mx (q+1) (n+1) (lr s kp o b):=by
 unfold lr;cases pN o.l&&(bw (b8 kp) s.th).isNone with
 |false=>exact h.mono
 |true=>
  rw[δ];unfold Ko;have hth:∀p∈s.th++[(b8 kp,o)],m_ mx (q+1) p.2:=λp hp=>by
   rcases aT.1 hp with h1|h1
   .exact h.mono.th p h1
   .rw[aF.1 h1];exact ho
  unfold CU;cases xi o.l s.nm with
  |none=>
   refine⟨?_,λp hp=>?_,hth⟩
   .show(s.nm++_).length<=_;rw[aM];exact f_ h.nm
   .rcases aT.1 hp with h1|h1
    .exact h.mono.ns p h1
    .rw[aF.1 h1];exact⟨f_ (aY _),λx hx=>by rw[aF.1 hx];exact hk⟩
  |some i=>
   refine⟨?_,λp hp=>?_,hth⟩
   .show(s.nm.modify i _).length<=_;rw[oT];exact h.mono.nm
   .rcases si hp with h1|⟨y,h1,rfl⟩
    .exact h.mono.ns p h1
    .refine⟨by rw[q6];exact f_ (h.ns y h1).1,λx hx=>?_⟩;rcases oF.1 hx with h2|h2
     .rw[h2];exact hk
     .exact(h.ns y h1).2 x h2
theorem Sf.sm{g h:Gs}{ma:Int}{x:En}(H:Sf g ma x h)(hg:jl g):jl h:=by
 rcases H.2 with⟨_,rfl,_⟩|⟨_,rfl,_⟩
 .exact And.intro (ki _) hg.2
 .exact And.intro hg.1 (ki _)
theorem pJ.keep{ma:Int}{e:Fx}{t':Th}{s':br}(ht:fS mx n t)(hs:fB mx q n s)(h0:0<=mx)(D:pJ now mx q n t ma s b e t' s'):fS mx (n+1) t'/\fB mx (q+1) (n+1) s':=by
 obtain⟨p,hp⟩:=ht.pa;have hl:=cU ht.sl;cases D with
 |go g k st on hg hk _=>exact⟨⟨hk,hg.sm ht.g,⟨p,hp⟩,ht.sc,hl,ht.v⟩,hs.mono⟩
 |log x g hg _=>exact⟨⟨ht.co.mono (bM _),hg.sm ht.g,⟨p,hp⟩,ht.sc,hl,ht.v⟩,hs.mono⟩
 |out x _ _ _ _=>exact⟨⟨ht.co.mono (bM _),ht.g,⟨p,hp⟩,ht.sc,hl,ht.v⟩,hs.mono⟩
 |set e g i nm o w k st on _ _ _ _ hw _ _ hg hk _ _=>
  refine⟨⟨hk,?_,⟨p,hp⟩,ht.sc,hl,ht.v⟩,hs.set i nm hw⟩;rcases hg with rfl|rfl
  .exact ht.g
  .exact And.intro (ki _) ht.g.2
 |make o k _ _ hr _ ho hk=>
  have h1:=hp.made (d:=0) (eT _) (by omega);rw[Int.sub_zero]at h1;exact⟨⟨hk,ht.g,⟨p,h1⟩,ht.sc,hl,ht.v⟩,hs.add (hp.oG hr) ho.mono b⟩
 |fork l ro k d _ _ hl2 hr0 hr hk _=>
  exact⟨⟨hk,ht.g,⟨p,hp.made hr0 hr⟩,ht.sc,hl,ht.v⟩,hs.add (hp.oG (by omega)) (DA mx (q+1) 6 hl2 mc 0 ⟨eT _,h0⟩) b⟩
 |scope l tk ro k _ _ hl2 hr0 hr _ _ hk=>
  refine⟨⟨hk,And.intro ht.g.1 (ki _),⟨_,hp.child hr0 hr⟩,λx hx=>?_,?_,ht.v⟩,hs.mono⟩
  .rcases aT.1 hx with h1|h1
   .exact ht.sc x h1
   .rw[aF.1 h1];exact⟨ki _,ht.g,⟨p,hp.made hr0 hr⟩,⟨_,rfl,hp.oG (by omega)⟩⟩
  .show(t.sc++_).length<=_;rw[aM];exact f_ ht.sl
theorem fS.fin(ht:fS mx n t){v:Va}(hv:cC (bF v))(ex:Bool):fS mx n (eV t v ex):=⟨ht.co,ht.g,ht.pa,ht.sc,ht.sl,hv⟩
theorem fB.VA(hs:fB mx q n s){v:Va}(hv:cC (bF v))(ex:Bool):fB mx q n (xp t s v ex).2:=by
 unfold xp;split
 .exact hs
 .cases hl:bw t.id s.th with
  |none=>exact hs
  |some p=>
   obtain⟨i,o⟩:=p;dsimp only;split
   .obtain⟨p,hp,rfl⟩:=gW hl;have ho:=hs.th p hp;exact hs.Q4 i t.id ⟨ho.l,hv,ho.w,ho.qs,ho.ql,ho.m⟩
   .exact hs
theorem fB.fin(hs:fB mx q n s){v:Va}(hv:cC (bF v))(ex:Bool):fB mx (q+1) (n+1) (xp t s v ex).2:=(hs.VA hv ex).mono
theorem fS.mono(ht:fS mx n t){m:Nat}(h:n<=m):fS mx m t:=⟨ht.co.mono h,ht.g,ht.pa,ht.sc,aX ht.sl h,ht.v⟩
theorem fS.core(ht:fS mx n t){g:Gs}{k:Co}{m:Nat}(hg:GStep t.g g)(hk:d_ mx m k)(h:n<=m):fS mx m {t with g:=g,c:=k}:=⟨hk,hg.sm ht.g,ht.pa,ht.sc,aX ht.sl h,ht.v⟩
theorem vE.keep{r:Rs}(ht:fS mx n t)(hs:fB mx q n s)(h0:0<=mx)(T:vE now mx q n t s b r):fS mx (n+2) r.t/\fB mx (q+1) (n+1) r.s:=by
 cases T with
 |idle _=>exact⟨ht.mono (by omega),hs.mono⟩
 |core g k _ hg hk=>exact⟨ht.core hg hk (by omega),hs.mono⟩
 |fin g k v ex _ hg hk hv=>exact⟨(ht.core hg hk (by omega)).fin hv ex,hs.fin hv ex⟩
 |SI k ma e t' s' _ hk _ D=>
  have:=pJ.keep (t:={t with c:=k}) ⟨hk,ht.g,ht.pa,ht.sc,ht.sl,ht.v⟩ hs h0 D;exact⟨this.1.mono (by omega),this.2⟩
def Hu(mx:Int)(n:Nat):Fx->Prop
 |.no=>True
 |.out x=>cC x.l
 |.log _=>True
 |.Ab w=>w.l.length<=1/\∀v∈w.l,cC (bF v)
 |.fork x=>fS mx n x/\∃p,dr p/\x.id=b8 p
theorem pJ.ef{ma:Int}{e:Fx}{t':Th}{s':br}(ht:fS mx n t)(D:pJ now mx q n t ma s b e t' s'):Hu mx n e/\t'.id=t.id:=by
 obtain⟨p,hp⟩:=ht.pa;cases D with
 |go|log|make|scope=>exact⟨trivial,rfl⟩
 |out x _ _ h _=>exact⟨h,rfl⟩
 |set e g i nm o w k st on _ _ _ _ _ _ _ _ _ _ h=>
  rcases h with rfl|⟨_,rfl,h⟩
  .exact⟨trivial,rfl⟩
  .exact⟨h,rfl⟩
 |fork l ro k d _ _ hl2 hr0 hr _ hd=>exact⟨⟨⟨hd,And.intro ht.g.1 (ki _),⟨_,hp.child hr0 hr⟩,λx hx=>(by cases hx),aY _,mc⟩,_,hp.oG (by omega),rfl⟩,rfl⟩
theorem vE.ef{r:Rs}(ht:fS mx n t)(T:vE now mx q n t s b r):Hu mx n r.e/\r.t.id=t.id:=by
 cases T with
 |idle|core|fin=>exact⟨trivial,rfl⟩
 |SI k ma e t' s' _ hk _ D=>exact pJ.ef (t:={t with c:=k}) ⟨hk,ht.g,ht.pa,ht.sc,ht.sl,ht.v⟩ D
theorem fS.TG(ht:fS mx n t){v:Va}(hv:cC (bF v)):fS mx (n+1) (ic t [v]):=
 ⟨ht.co.lay [v] (λx hx=>by rw[aF.1 hx];exact hv),ht.g,ht.pa,ht.sc,cU ht.sl,ht.v⟩
theorem fS.TF(ht:fS mx n t):fS mx (n+1) (ic t []):=
 ⟨(ht.co.lay [] (λx hx=>by cases hx)).mono (bM _),ht.g,ht.pa,ht.sc,cU ht.sl,ht.v⟩
theorem CN(ht:fS mx n t)(k:Nat):cC (bF (jW t k).1):=by
 unfold jW;cases !(t.st==2)||!((k:Int)==(t.sc.length:Int)-1) with
 |true=>exact fq _
 |false=>
  rw[ε];cases !bH t.g.cur ((t.sc[k]?).getD M1).l with
  |true=>exact fq _
  |false=>exact ht.v
theorem RJ.Xv{x:Sc}(h:RJ x):U0 x:=by
 obtain⟨p,e,hg⟩:=h.nm;have:TU x=p:=by unfold TU;rw[e];exact tK hg.1 hg.2.2
 exact⟨by rw[this];exact e,by rw[this];exact hg,h.l⟩
theorem B7(ht:fS mx n t)(hs:fB mx q n s)(h0:0<=mx)(b:Option Nat):fS mx (n+1) (sj t s now b).1/\fB mx (q+1) (n+1) (sj t s now b).2:=by
 unfold sj;cases hi:t.sc[lj now t.sc]? with
 |none=>exact⟨ht.mono (bM _),hs.mono⟩
 |some x=>
  have hx:=ht.sc x (aG hi);have hg:=hx.Xv;refine⟨⟨(ht.co.cut _ _ _).push hx.l,hx.g,hx.pa,λy hy=>ht.sc y (fZ hy),?_,mc⟩,hs.add hg.g ?_ b⟩
  .show(t.sc.take _).length<=_;have:=ht.sl;rw[a_];omega
  .exact⟨hx.l,CN ht _,mc,λx hx=>(by cases hx),aY _,eT _,h0⟩
end
end Go.Proofs.YtmigecldjbgneaaGreatDoor