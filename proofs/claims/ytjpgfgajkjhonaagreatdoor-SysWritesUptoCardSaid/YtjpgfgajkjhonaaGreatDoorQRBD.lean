/- Lemmas. Conditions: none. -/
import Derived.Test.YtjpgfgajkjhonaaGreatDoorQRBC
namespace Go.Proofs.YtjpgfgajkjhonaaGreatDoor
open Go.Vx
set_option maxRecDepth 100000
def LA(l:List UInt8)(x:Nat):Bool:=kg (eb l) x
theorem qO(l:List UInt8):∀k,k<=64->∃T:Nat,AG l k=(T:Int)/\T<2 ^ 64/\∀j,T.testBit j=(decide (j<k)&&kg l j)
 |0,_=>⟨0,rfl,by decide,λj=>by simp⟩
 |k+1,hk=>by
  obtain⟨T,h1,h2,h3⟩:=qO l k (by omega);rw[vE];cases hb:kg l k with
  |false=>
   rw[ε];refine⟨T,h1,h2,λj=>?_⟩;rw[h3 j]
   by_cases hj:j=k
   .subst hj;simp[hb]
   .have:decide (j<k)=decide (j<k+1):=by rw[decide_eq_decide];omega
    rw[this]
  |true=>
   rw[δ];have hpw:(2:Nat) ^ k<2 ^ 64:=Nat.pow_lt_pow_right (by decide) (by omega);have hs:AS .shl .u64 1 k=((2 ^ k:Nat):Int):=by
    show IntKind.u64.wrap (1*2 ^ min ((k:Int)).toNat 64)=_;rw[show min ((k:Int)).toNat 64=k by omega];show((1*2 ^ k:Int)) % 18446744073709551616=_;have:(1*2 ^ k:Int)=((2 ^ k:Nat):Int):=by simp
    rw[this];generalize(2:Nat) ^ k=p at hpw;omega
   have ho:∀a b:Nat,a<2 ^ 64->b<2 ^ 64->jG .or .u64 (a:Int) (b:Int)=((a ||| b:Nat):Int):=by
    intro a b ha hb;show((((BitVec.ofInt 64 (a:Int) ||| BitVec.ofInt 64 (b:Int)).toNat:Nat):Int)) % 18446744073709551616=_;have hlt:=Nat.or_lt_two_pow ha hb;simp only[lY,BitVec.toNat_or,BitVec.toNat_ofNat,dQ ha,dQ hb];omega
   rw[h1,hs,ho T _ h2 hpw];refine⟨T ||| 2 ^ k,rfl,Nat.or_lt_two_pow h2 hpw,λj=>?_⟩;rw[Nat.testBit_or,h3 j,Nat.testBit_two_pow]
   by_cases hj:j=k
   .subst hj;simp[hb]
   .have h4:decide (j<k)=decide (j<k+1):=by rw[decide_eq_decide];omega
    rw[h4,show decide (k=j)=false by simp;omega,lB]
theorem pf(a b:List UInt8):iO a b=true<->∀x,x<64->LA a x=true->LA b x=true:=by
 obtain⟨S,a1,a2,a3⟩:=qO (eb a) 64 (aM _);obtain⟨T,b1,b2,b3⟩:=qO (eb b) 64 (aM _);unfold iO sU;rw[a1,b1,ξ];have e:jG .andNot .u64 (S:Int) (T:Int)=0<->(BitVec.ofNat 64 S &&& ~~~BitVec.ofNat 64 T)=0#64:=by
  show((((BitVec.ofInt 64 (S:Int) &&& ~~~BitVec.ofInt 64 (T:Int)).toNat:Nat):Int)) % 18446744073709551616=0<->_;rw[lY,lY];generalize BitVec.ofNat 64 S &&& ~~~BitVec.ofNat 64 T=w;have:=w.isLt;rw[<-BitVec.toNat_inj];simp only[BitVec.toNat_ofNat];omega
 rw[e];constructor
 .intro h x hx hs;have h1:(BitVec.ofNat 64 S &&& ~~~BitVec.ofNat 64 T).getLsbD x=false:=by rw[h];simp
  simp only[BitVec.getLsbD_and,BitVec.getLsbD_not,BitVec.getLsbD_ofNat,hx,decide_true,pJ,a3 x,b3 x]at h1;have hs:kg (eb a) x=true:=hs;rw[hs]at h1;show kg (eb b) x=true;simpa using h1
 .intro h;refine BitVec.eq_of_getLsbD_eq λi hi=>?_;have h1:=h i hi;unfold LA at h1;simp only[BitVec.getLsbD_and,BitVec.getLsbD_not,BitVec.getLsbD_ofNat,hi,decide_true,pJ,a3 i,b3 i];cases hs:kg (eb a) i with
  |false=>simp
  |true=>rw[h1 hs];simp
theorem Ec(l m:Lb):bI l m=true<->(∀x,x<64->LA m.s x=true->LA l.s x=true)/\∀x,x<64->LA l.i x=true->LA m.i x=true:=by
 unfold bI;rw[aP,pf,pf]
theorem Pf:((List.range 64).all λx=> !LA [0] x)=true:=zx0
theorem K_:((List.range 64).all λx=>LA [] x)=true:=zx0
theorem BU(l:Lb):bI l ⟨[0],[]⟩=true:=by
 rw[Ec];constructor
 .intro x hx h;have h1:=aS.1 Pf x (cn.2 hx);rw[h]at h1;cases h1
 .intro x hx _;exact aS.1 K_ x (cn.2 hx)
theorem wH(l m:Lb):cL (da l m):=by
 simp only[cL,da,qg,N4];exact And.intro (ft _) (ft _)
theorem Kx(l m:Lb):cL (nA l m):=by
 simp only[cL,nA,qg,N4];exact And.intro (ft _) (ft _)
theorem l7(l:Lb):cL (gT l):=by
 unfold cL gT;exact And.intro (ft _) (ft _)
theorem l8:cL ⟨[],[]⟩:=⟨ae _,ae _⟩
theorem gf(n:Int):cL (a_ (num n)):=l8
theorem kR:cL (a_ zeroV):=l8
theorem oT:cL (a_ dT):=l8
structure pA(mx:Int)(f:Fr):Prop where
  m:0<=f.ma/\f.ma<=mx
  v:f.vars.length<=40
  s:∀v∈f.vars,cL (a_ v)
structure eA(mx:Int)(n:Nat)(c:Co):Prop where
  fr:c.fr.length<=16
  f:∀f∈c.fr,pA mx f
  st:c.st.length<=n
  s:∀v∈c.st,cL (a_ v)
  tr:c.tr.length<=n
structure pY(im:Im):Prop where
  hI:FN im
  ar:∀g∈im.fs,g.args<=10
  cd:∀g∈im.fs,g.code.length<1000000000
  dm:∀g∈im.fs,∀o∈g.code,o.c≠24/\o.c≠31
  cs:∀v∈im.cs,cL (a_ v)
section
variable{mx:Int}{n:Nat}{c:Co}
theorem m_{α:Type}{l:List α}{k:Int}{x:α}(h:x∈gw l k):x∈l:=dq h
theorem oC{α:Type}(l:List α)(k:Int):(gw l k).length<=l.length:=by
 unfold gw;rw[bC];omega
theorem eA.mono{m:Nat}(h:eA mx n c)(hm:n<=m):eA mx m c:=⟨h.fr,h.f,aV h.st hm,h.s,aV h.tr hm⟩
theorem eA.cut(h:eA mx n c)(f k t:Int):eA mx n (Ez c f k t):=
 ⟨aV (oC _ _) h.fr,λx hx=>h.f x (m_ hx),aV (oC _ _) h.st,λx hx=>h.s x (m_ hx),aV (oC _ _) h.tr⟩
theorem eA.lay(h:eA mx n c)(l:List Va)(hl:∀v∈l,cL (a_ v)):eA mx (n+l.length) ⟨c.fr,c.st++l,c.tr⟩:=
 ⟨h.fr,h.f,by have:=h.st;show(c.st++l).length<=_;rw[aK];omega,λx hx=>(aR.1 hx).elim (h.s x) (hl x),aV h.tr (Nat.le_add_right _ _)⟩
theorem eA.push(h:eA mx n c){v:Va}(hv:cL (a_ v)):eA mx (n+1) (jX c v):=h.lay [v] λx hx=>by rw[aL.1 hx];exact hv
theorem eA.pop(h:eA mx n c)(k:Int):eA mx n (rR c k):=⟨h.fr,h.f,aV (oC _ _) h.st,λx hx=>h.s x (m_ hx),h.tr⟩
theorem eA.kf(h:eA mx n c)(k:Int):∀v∈kf c k,cL (a_ v):=λv hv=>h.s v (dJ hv)
theorem eA.get(h:eA mx n c)(k:Int)(i:Nat):cL (a_ (((Go.Proofs.YtjpgfgajkjhonaaGreatDoor.kf c k)[i]?).getD zeroV)):=by
 cases hi:(Go.Proofs.YtjpgfgajkjhonaaGreatDoor.kf c k)[i]? with
 |none=>exact l8
 |some v=>exact h.kf k v (aJ hi)
theorem eA.bY(h:eA mx n c)(l:List Fr)(h1:l.length<=16)(h2:∀f∈l,pA mx f):eA mx n ⟨l,c.st,c.tr⟩:=⟨h1,h2,h.st,h.s,h.tr⟩
theorem pA.at{f g:Fr}(h:pA mx f)(h1:g.vars=f.vars)(h2:g.ma=f.ma):pA mx g:=⟨by rw[h2];exact h.m,by rw[h1];exact h.v,by rw[h1];exact h.s⟩
theorem wM{P:Fr->Prop}{l:List Fr}(h:∀f∈l,P f)(i:Nat){g:Fr}(hg:P g):∀f∈l.set i g,P f:=λf hf=>by
 rcases fP hf with h1|h1
 .exact h f h1
 .rw[h1];exact hg
theorem Gq{f:Fr}(h:eA mx n c)(hf:pA mx f):(bV c.fr f).length<=16/\∀g∈bV c.fr f,pA mx g:=by
 unfold bV;exact⟨by rw[ga];exact h.fr,wM h.f _ (hf.at rfl rfl)⟩
theorem Lt{f:Fr}{l:List Fr}(h:l.length<=16/\∀g∈l,pA mx g)(hf:pA mx f):(ed l f).length<=16/\∀g∈ed l f,pA mx g:=by
 unfold ed;exact⟨by rw[ga];exact h.1,wM h.2 _ hf⟩
theorem Fv{l:List Fr}(i:Nat)(pc:Int)(h:l.length<=16/\∀g∈l,pA mx g):(vJ l i pc).length<=16/\∀g∈vJ l i pc,pA mx g:=by
 unfold vJ;cases hi:l[i]? with
 |none=>exact h
 |some f=>exact⟨by rw[ga];exact h.1,wM h.2 _ ((h.2 f (aJ hi)).at rfl rfl)⟩
theorem eA.throw(h:eA mx n c)(t:Tr)(code:Int):eA mx (n+1) (sT c t code):=by
 have h1:=h.cut t.f t.h (c.tr.length-1);obtain⟨a,b⟩:=Fv (t.f-1).toNat t.a ⟨h1.fr,h1.f⟩;exact(h1.bY _ a b).push (gf code)
structure e9(mx:Int)(n:Nat)(r:Co×Ou):Prop where
  c:eA mx n r.1
  v:cL (a_ r.2.v)
theorem eA.raise(h:eA mx n c)(code kp:Int):e9 mx (n+1) (raise c code kp):=by
 unfold Go.Proofs.YtjpgfgajkjhonaaGreatDoor.raise mX;cases decide ((c.tr.length:Int)-1<max kp 0) with
 |true=>exact⟨h.mono (cA _),gf _⟩
 |false=>
  rw[ε];cases c.tr.getLast? with
  |none=>exact⟨h.mono (cA _),gf _⟩
  |some t=>
   dsimp only;cases qt c t with
   |true=>exact⟨h.throw t code,kR⟩
   |false=>exact⟨h.mono (cA _),gf _⟩
theorem eA.enter(h:eA mx n c)(he:db c=true)(fn vs:Int)(l:List Va)(ma:Int)(hl:l.length<=20)(hs:∀v∈l,cL (a_ v))(hm:0<=ma/\ma<=mx):eA mx n (gA c fn vs l ma):=by
  have h16:c.fr.length<16:=θ he
  refine h.bY _ (by rw[aK];exact h16) λf hf=>?_
  rcases aR.1 hf with h1|h1
  · exact h.f f h1
  · rw [aL.1 h1]
    refine⟨hm,?_,λv hv=>?_⟩
    · show(l++qp (min (max vs 0) 16).toNat).length<=40
      unfold qp
      rw[aK,List.length_replicate]
      omega
    · rcases aR.1 hv with h2|h2
      · exact hs v h2
      · unfold qp at h2
        rw[(List.mem_replicate.1 h2).2]
        exact gf 0
theorem e9.bif{b:Bool}{x y:Co×Ou}(hx:e9 mx n x)(hy:b=false->e9 mx n y):e9 mx n (bif b then x else y):=by
 cases b
 .exact hy rfl
 .exact hx
theorem e9.W7{b:Bool}{x y:Co×Ou}(hx:b=true->e9 mx n x)(hy:b=false->e9 mx n y):e9 mx n (bif b then x else y):=by
 cases b
 .exact hy rfl
 .exact hx rfl
theorem NR{l:Lb}(h:cL l):cL (a_ (rB l)):=h
theorem Lq{a ma:Int}(h:0<=ma/\ma<=mx)(hx:mx<=255):0<=ye a ma/\ye a ma<=mx:=by
 unfold ye;obtain⟨x,hx'⟩:∃x:UInt8,ma=(x.toNat:Int):=⟨UInt8.ofNat ma.toNat,by rw[nR,dQ (by omega)];omega⟩
 obtain⟨y,hy⟩:∃y:UInt8,IntKind.u8.wrap (jG .and .i64 a 255)=(y.toNat:Int):=by
  have:∀z:Int,∃y:UInt8,IntKind.u8.wrap z=(y.toNat:Int):=λz=>by
   refine⟨UInt8.ofNat (z % 256).toNat,?_⟩;rw[nR];show z % 256=_;omega
  exact this _
 rw[hx',hy,xY];have:(x &&& y).toNat<=x.toNat:=by rw[UInt8.toNat_and];exact Nat.and_le_left
 omega
end
section
variable{mx:Int}{n:Nat}{c:Co}{im:Im}
theorem AJ{fr tr:Int}(hP:pY im)(h:eA mx n c)(hx:mx<=255):e9 mx (n+2) (du im c fr tr):=by
 have h1:=λ(code kp:Int)=>show e9 mx (n+2) (raise c code kp)from let r:=h.raise code kp;⟨r.c.mono (by omega),r.v⟩;unfold du;cases hf:fit im c with
 |none=>exact⟨h.mono (by omega),gf _⟩
 |some o=>
  obtain⟨f,fn,hl,w1,hfn,w2,ho,hr,hop,hpo⟩:=nI hf;simp only[hl];have hfo:pA mx f:=h.f f (List.mem_of_getLast? hl);have hn:=Gq h hfo;have hp:=h.pop (fL im o);have hp':eA mx n ⟨bV c.fr f,jP (cz im c o 0 0),c.tr⟩:=hp.bY _ hn.1 hn.2;have ha:cL (a_ (u7 im c o)):=h.get _ 0;have hb:cL (a_ (qM im c o)):=h.get _ 1;have hlay:∀l:List Va,l.length<=2->(∀v∈l,cL (a_ v))->e9 mx (n+2) (fB im c o f l):=λl h2 h3=>⟨(hp'.lay l h3).mono (by omega),kR⟩
  have l0:=hlay [] (by decide) λv hv=>by cases hv
  have l1:∀v,cL (a_ v)->e9 mx (n+2) (fB im c o f [v]):=λv hv=>hlay [v] (cA 1) λw hw=>by rw[aL.1 hw];exact hv
  have l2:∀v w,cL (a_ v)->cL (a_ w)->e9 mx (n+2) (fB im c o f [v,w]):=λv w hv hw=>hlay [v,w] (aM 2) λx hx=>by
   rcases af.1 hx with e|e
   .rw[e];exact hv
   .rw[aL.1 e];exact hw
  have hlast:∀g:Fr,pA mx g->e9 mx (n+2) (⟨ed (bV c.fr f) g,jP (cz im c o 0 0),c.tr⟩,cD):=λg hg=>by
   have:=Lt hn hg;exact⟨(hp.bY _ this.1 this.2).mono (by omega),kR⟩
  have hret:eA mx n (fw c):=⟨aV (oC _ _) h.fr,λx hx=>h.f x (m_ hx),aV (oC _ _) h.st,λx hx=>h.s x (m_ hx),aV (List.length_filter_le _ _) h.tr⟩
  have hrv:cL (a_ (rQ c)):=h.get _ 0;unfold CO;refine e9.bif ?_ λh3=>e9.bif ?_ λh22=>e9.bif ?_ λh23=>?_
  .refine hlast _ ⟨hfo.m,by show(f.vars.set _ _).length<=40;rw[ga];exact hfo.v,λv hv=>?_⟩;rcases fP hv with h2|h2
   .exact hfo.s v h2
   .rw[h2];exact ha
  .exact e9.bif (l1 _ (NR (wH _ _))) λ_=>h1 _ _
  .exact e9.bif (l1 _ (NR (Kx _ _))) λ_=>h1 _ _
  .unfold mw;refine e9.bif (l1 _ ?_) λ_=>e9.bif (l1 _ ?_) λ_=>e9.bif l0 λ_=>e9.bif (l2 _ _ ha ha) λ_=>e9.bif (l2 _ _ hb ha) λ_=>e9.bif (l1 _ (gf _)) λ_=>
    e9.bif (e9.bif ?_ λ_=>h1 _ _) λ_=>e9.bif (e9.bif (l1 _ (gf _)) λ_=>h1 _ _) λ_=>e9.bif (hlast _ (hfo.at rfl rfl)) λ_=>
    e9.bif (e9.bif (e9.bif l0 λ_=>hlast _ (hfo.at rfl rfl)) λ_=>h1 _ _) λh16=>e9.W7 (λh17=>?_) λ_=>e9.bif (e9.bif ⟨hret.mono (by omega),hrv⟩ λ_=>?_) λ_=>
    e9.bif (e9.bif (h1 _ _) λ_=>h1 _ _) λ_=>e9.bif ?_ λ_=>e9.bif (e9.bif ?_ λ_=>l0) λ_=>e9.bif (hlast _ ?_) λ_=>e9.bif (l1 _ (gf _)) λ_=>⟨h.mono (by omega),kR⟩
   .cases hi:im.cs[o.a.toNat]? with
    |none=>exact l8
    |some v=>exact hP.cs v (aJ hi)
   .cases hi:f.vars[o.a.toNat]? with
    |none=>exact l8
    |some v=>exact hfo.s v (aJ hi)
   .split
    .exact l1 _ (gf _)
    .exact h1 _ _
   .have h17:o.c=17:=by simpa using h17
    have hlen:=(mo hpo).1;have htk:(fL im o).toNat<=14:=by
     unfold fL;cases hi:inf o.c with
     |none=>exact ae _
     |some i=>
      obtain⟨_,_,_,_,_,q,_⟩:=te hi;dsimp only;rw[show(o.c==17)=true by simp[h17],δ];cases hg:im.fs[o.a.toNat]? with
      |none=>dsimp only;omega
      |some g=>
       have:=hP.ar g (aJ hg);dsimp only;omega
    cases he:db ⟨bV c.fr f,jP (cz im c o 0 0),c.tr⟩ with
    |false=>exact h1 _ _
    |true=>
     rw[δ];have:=hp'.enter he o.a (match im.fs[o.a.toNat]? with|some g=>g.vars|none=>0) (nW (cz im c o 0 0)) f.ma (by show(kf c (fL im o)).length<=20;omega) (h.kf _) hfo.m;exact⟨this.mono (by omega),kR⟩
   .exact⟨(hret.push hrv).mono (by omega),kR⟩
   .refine⟨⟨hn.1,hn.2,aV hp.st (by omega),hp.s,?_⟩,kR⟩;have:=h.tr;show(c.tr++_).length<=_;rw[aK];show c.tr.length+1<=_;omega
   .refine⟨⟨hn.1,hn.2,aV hp.st (by omega),hp.s,?_⟩,kR⟩;have:=h.tr;show(c.tr.take _).length<=_;rw[bC];omega
   .exact⟨Lq hfo.m hx,hfo.v,hfo.s⟩
theorem eA.x{im:Im}(hP:pY im)(h:eA mx n c)(hx:mx<=255)(hn:n<700000000):Rv im c where
 hI:=hP.hI
 cd:=λi g hg=>hP.cd g (aJ hg)
 lf:=by have:=h.fr;omega
 ls:=by have:=h.st;omega
 lt:=by have:=h.tr;omega
 ma:=λf hf=>by
  have:=h.f f (List.mem_of_getLast? hf);exact⟨⟨this.m.1,by have:=this.m.2;omega⟩,by have:=this.v;omega⟩
 sm:=h.s
 dm:=λo ho=>by
  obtain⟨f,fn,_,_,hfn,_,hoc,_⟩:=nI ho;exact hP.dm fn (aJ hfn) o (aJ hoc)
end
theorem fZ{g:Gs}{l:Lb}:bT g l=0<->bI g.cur l=true/\bI l g.fo=true:=by
 show(bif bI g.cur l then(bif bI l g.fo then 0 else -4)else -3)=(0:Int)<->_;cases bI g.cur l<;>cases bI l g.fo<;>simp
theorem D9{g:Gs}{l:Lb}:dN g l=0<->bI (da g.cur l) g.fo=true:=by
 show(bif bI (da g.cur l) g.fo then 0 else -4)=(0:Int)<->_;cases bI (da g.cur l) g.fo<;>simp
theorem EL{g:Gs}{l:Lb}:jO g l=0<->bI l g.fo=true/\bI g.cur l=true:=by
 show(bif bI l g.fo then(bif bI g.cur l then 0 else -3)else -4)=(0:Int)<->_;cases bI g.cur l<;>cases bI l g.fo<;>simp
theorem JQ{g:Gs}{l:Lb}{p:Int}:lT g l p=0<->fh g.cur l p=true/\bI l g.fo=true:=by
 show(bif fh g.cur l p then(bif bI l g.fo then 0 else -4)else -3)=(0:Int)<->_;cases fh g.cur l p<;>cases bI l g.fo<;>simp
theorem HL{g:Gs}{l:Lb}{p:Int}:lL g l p=0<->fh l g.fo p=true/\bI g.cur l=true:=by
 show(bif fh l g.fo p then(bif bI g.cur l then 0 else -3)else -4)=(0:Int)<->_;cases fh l g.fo p<;>cases bI g.cur l<;>simp
inductive GStep(g:Gs):Gs->Prop where
  |same:GStep g g
  |NP (l:Lb):bI (da g.cur l) g.fo=true->GStep g ⟨da g.cur l,g.fo⟩
  |both (l:Lb):bI g.cur l=true->bI l g.fo=true->GStep g ⟨gT l,g.fo⟩
  |lower (l:Lb):bI g.cur l=true->bI l g.fo=true->GStep g ⟨g.cur,gT l⟩
theorem GStep.sm{g h:Gs}(H:GStep g h)(hg:jL g):jL h:=by
 cases H with
 |same=>exact hg
 |NP l _=>exact And.intro (wH _ _) hg.2
 |both l _ _=>exact And.intro (l7 _) hg.2
 |lower l _ _=>exact And.intro hg.1 (l7 _)
structure kL(mx:Int)(q:Nat)(o:Ob):Prop where
  l:cL o.l
  v:cL (a_ o.v)
  w:cL (a_ o.va.v)
  qs:∀x∈o.va.q,cL (a_ x.v)
  ql:o.va.q.length<=q
  m:0<=o.ma/\o.ma<=mx
structure fy(mx:Int)(q n:Nat)(s:b7):Prop where
  nm:s.nm.length<=n
  ns:∀p∈s.nm,p.2.2.length<=n/\∀x∈p.2.2,ee x
  th:∀p∈s.th,kL mx q p.2
def Rh(g:Gs)(ma:Int)(x:En)(h:Gs):Prop:=x.ma=ma /\
  ((x.fr = g.cur ∧ h = ⟨gT x.to, g.fo⟩ ∧ fh g.cur x.to ma = true ∧ bI x.to g.fo = true ∧ bI g.cur x.to = false) ∨
   (x.fr=g.fo/\h=⟨g.cur,gT x.to⟩/\fh x.to g.fo ma=true/\bI g.cur x.to=true/\bI x.to g.fo=false))
inductive jT(now mx:Int)(q n:Nat)(t:Th)(ma:Int)(s:b7)(b:Option Nat):Fx->Th->b7->Prop where
  |go (g:Gs) (k:Co) (st:Int) (on:List UInt8):GStep t.g g->eA mx (n+1) k->(st=t.st\/st=1)->jT now mx q n t ma s b .no {t with g:=g,c:=k,st:=st,on:=on} s
  |log (x:En) (g:Gs):Rh t.g ma x g->cL x.to->jT now mx q n t ma s b (.log x) {t with g:=g} s
  |out (x:Ev):bI t.g.cur x.l=true->bI x.l t.g.fo=true->cL x.l->cL (a_ x.v)->jT now mx q n t ma s b (.out x) t s
  |set (e:Fx) (g:Gs) (i:Nat) (nm:List UInt8) (o p:Ob) (k:Co) (st:Int) (on:List UInt8):bW nm s.th=some (i,o)->(o.k=4\/o.k=5)->p.k=o.k->p.l=o.l->kL mx (q+1) p ->
      bI t.g.cur o.l=true->bI o.l t.g.fo=true->(g=t.g\/g=⟨gT o.l,t.g.fo⟩)->eA mx (n+1) k->(st=t.st\/st=1)->(e=.no\/∃w,e=.KZ w/\∀v∈w.l,cL (a_ v)) ->
      jT now mx q n t ma s b e {t with g:=g,c:=k,st:=st,on:=on} (jk s i nm p)
  |make (o:Ob) (k:Co):bI t.g.cur o.l=true->bI o.l t.g.fo=true->1<=t.ro->(o.k=3\/o.k=4\/o.k=5\/o.k=7)->kL mx q o->eA mx (n+1) k ->
      jT now mx q n t ma s b .no {jo t with c:=k} (j8 s (kz t) o b)
  |fork (l:Lb) (ro:Int) (k d:Co):bI t.g.cur l=true->bI l t.g.fo=true->cL l->0<=ro->ro<t.ro->eA mx (n+1) k->eA mx n d ->
      jT now mx q n t ma s b (.fork (yW (bm (kz t)) ⟨t.g.cur,gT l⟩ d ro)) {jo t with ro:=t.ro-1-ro,c:=k} (j8 s (kz t) {fK with k:=6,l:=l} b)
  |scope (l:Lb) (tk ro:Int) (k:Co):bI t.g.cur l=true->bI l t.g.fo=true->cL l->0<=ro->ro<t.ro->1<=tk->tk<=1000->eA mx (n+1) k ->
      jT now mx q n t ma s b .no {t with sc:=t.sc++[q9 t l tk ro now (bm (kz t))],c:=k,g:=⟨t.g.cur,gT l⟩,pa:=bm (kz t),ma:=0,ro:=ro} s
def fG(mx:Int)(q n:Nat)(c:Ca)(s:b7):OR->Prop
 |.ok e f=>∀b,jT c.now mx q n c.t c.ma s b e (f b).1.t (f b).2
 |.ex _ c' s'=>s'=s/\c'.tr=c.tr/\∃g,GStep c.t.g g/\c'.t={c.t with g:=g}
structure pM(mx:Int)(q n:Nat)(c:Ca)(s:b7):Prop where
  co:eA mx n c.t.c
  g:jL c.t.g
  a:∀v∈c.ar,cL (a_ v)
  m:0<=c.ma/\c.ma<=mx
  so:fy mx q n s
section
variable{mx:Int}{q n:Nat}{c:Ca}{s:b7}
theorem cq{b:Bool}{x y:OR}(hx:b=true->fG mx q n c s x)(hy:b=false->fG mx q n c s y):fG mx q n c s (bif b then x else y):=by
 cases b
 .exact hy rfl
 .exact hx rfl
theorem dP(m:Int):fG mx q n c s (.ex m c s):=⟨rfl,rfl,c.t.g,.same,rfl⟩
theorem pM.ar(h:pM mx q n c s)(i:Nat):cL (a_ (c.ar[i]?.getD dT)):=by
 cases hi:c.ar[i]? with
 |none=>exact l8
 |some v=>exact h.a v (aJ hi)
theorem pM.look(h:pM mx q n c s){nm:List UInt8}{i:Nat}{o:Ob}(hl:bW nm s.th=some (i,o)):kL mx q o:=by
 obtain⟨p,hp,rfl⟩:=i_ hl;exact h.so.th p hp
theorem CQ(mx:Int)(q:Nat)(k:Int){l:Lb}(hl:cL l){v:Va}(hv:cL (a_ v))(fu:Int){ma:Int}(hm:0<=ma/\ma<=mx):kL mx q {fK with k:=k,l:=l,v:=v,fu:=fu,ma:=ma}:=
 ⟨hl,hv,oT,λx hx=>(by cases hx),ae _,hm⟩
theorem jh{s:b7}{h:Va}{i:Nat}{o:Ob}(ht:dH s h=some (i,o)):bW h.nm s.th=some (i,o)/\o.k=h.k/\o.l=a_ h:=by
 unfold dH at ht;cases hl:bW h.nm s.th with
 |none=>rw[hl]at ht;cases ht
 |some p=>
  obtain⟨j,p⟩:=p;rw[hl]at ht;dsimp only at ht;cases hb:(p.k==h.k)&&((p.l.s==h.ls)&&(p.l.i==h.li)) with
  |false=>rw[hb]at ht;cases ht
  |true=>
   rw[hb,δ,aE,bz]at ht;obtain⟨rfl,rfl⟩:=ht;simp only[aP,ξ]at hb;refine⟨rfl,hb.1,?_⟩;unfold a_;rw[<-hb.2.1,<-hb.2.2]
theorem tW{k:Int}{ks:List Int}{ar:List Va}(h:bw (k::ks) ar=true)(hl:0<ar.length)(hk:k≠0):(ar[0]?.getD dT).k=k:=by
 match ar,hl with
 |v::r,_=>
  unfold bw at h;rw[List.zip_cons_cons,lA,aP,cI]at h;rcases h.1 with h1|h1
  .exact absurd (by simpa using h1) hk
  .show v.k=k;simpa using h1
theorem jz{a:Int}(h:(a==0)=true):a=0:=by simpa using h
theorem Q6{a:Int}(h:(a==0)=false):a≠0:=by simpa using h
theorem Db{g:Gs}{l:Lb}(h:dN g l=0):cw g l=⟨da g.cur l,g.fo⟩:=by
 unfold cw;rw[show(dN g l==0)=true by simp[h],δ]
theorem uL{g:Gs}{l:Lb}(h:bT g l=0):uM g l=⟨gT l,g.fo⟩:=by
 unfold uM;rw[show(bT g l==0)=true by simp[h],δ]
theorem o6{g:Gs}{l:Lb}(h:dN g l=0):GStep g (cw g l):=by
 rw[Db h];exact .NP l (D9.1 h)
theorem vr{g:Gs}{l:Lb}(h:bT g l=0):GStep g (uM g l):=by
 rw[uL h];exact .both l (fZ.1 h).1 (fZ.1 h).2
theorem jy(g:Gs)(k:Co)(hg:GStep c.t.g g)(hk:eA mx (n+1) k):∀b,jT c.now mx q n c.t c.ma s b .no {c.t with g:=g,c:=k} s:=
 λ_=>.go g k c.t.st c.t.on hg hk (.inl rfl)
theorem M8(h:pM mx q n c s):fG mx q n c s (RH c s):=jy c.t.g _ .same (h.co.push h.g.1)
theorem M9(h:pM mx q n c s):fG mx q n c s (RP c s):=jy c.t.g _ .same (h.co.push h.g.2)
theorem Es(h:pM mx q n c s):fG mx q n c s (oh c s):=
 cq (λ_=>cq (λh1=>jy _ _ (o6 (jz h1)) (h.co.mono (cA _))) λ_=>dP _) λ_=>dP _
theorem Et(h:pM mx q n c s):fG mx q n c s (wv c s):=
 cq (λ_=>cq (λh1=>by
  have h2:=EL.1 (jz h1);refine jy _ _ ?_ (h.co.mono (cA _));unfold tJ;rw[h1,δ];exact .lower _ h2.2 h2.1) λ_=>dP _) λ_=>dP _
theorem uG(h:pM mx q n c s)(o:Ob)(hk:o.k=3\/o.k=4\/o.k=5\/o.k=7)(ho:kL mx q o):fG mx q n c s (jY c s o):=by
 unfold jY;refine cq (λh1=>cq (λ_=>dP _) λh2=>λb=>?_) λ_=>dP _;have h3:=fZ.1 (jz h1);have h2:=ι h2;exact .make o _ h3.1 h3.2 (by omega) hk ho (h.co.push ho.l)
theorem Cu(h:pM mx q n c s)(h0:0<=mx)(k:Int)(hk:k=3\/k=4):fG mx q n c s (tD k c s):=
 cq (λ_=>uG h _ (by rcases hk with e|e<;>simp[e]) (CQ mx q k (h.ar 1) (h.ar 0) 0 ⟨eV _,h0⟩)) λ_=>dP _
theorem J1(h:pM mx q n c s)(h0:0<=mx):fG mx q n c s (wh c s):=
 cq (λ_=>uG h _ (.inr (.inr (.inl rfl))) (CQ mx q 5 (h.ar 0) oT 0 ⟨eV _,h0⟩)) λ_=>dP _
theorem J2(h:pM mx q n c s):fG mx q n c s (wi c s):=
 cq (λ_=>uG h _ (.inr (.inr (.inr rfl))) (CQ mx q 7 (h.ar 0) oT c.o.a h.m)) λ_=>dP _
theorem J0(h:pM mx q n c s):fG mx q n c s (tA c s):=by
 refine cq (λ_=>?_) λ_=>dP _;unfold pW;refine cq (λh1=>?_) λ_=>dP _;have h2:=o6 (jz h1);cases ht:dH s (c.ar[0]?.getD dT) with
 |none=>exact jy _ _ h2 (h.co.push (gf 0))
 |some p=>
  obtain⟨i,o⟩:=p;have ho:=h.look (jh ht).1;dsimp only;unfold mJ;cases o.ex with
  |true=>exact⟨rfl,rfl,_,h2,rfl⟩
  |false=>exact jy _ _ h2 (h.co.push ho.v)
theorem qb(h:pM mx q n c s)(v:Va)(go:Ca->b7->Ob->RQ)(hg:∀g o,GStep c.t.g g->kL mx q o->fG mx q n c s (go {c with t:={c.t with g:=g}} s o).or):fG mx q n c s (h_ c s v go).or:=by
 unfold h_;cases h1:dN c.t.g (a_ v)==0 with
 |false=>exact dP _
 |true=>
  rw[δ];have h2:=o6 (jz h1);cases ht:dH s v with
  |none=>exact jy _ _ h2 (h.co.push (gf 0))
  |some p=>
   obtain⟨i,o⟩:=p;exact hg _ _ h2 (h.look (jh ht).1)
theorem zD(h:pM mx q n c s):fG mx q n c s (pV c s):=
 cq (λ_=>qb h _ _ λg _ hg ho=>jy g _ hg (h.co.push ho.v)) λ_=>dP _
theorem JY(h:pM mx q n c s):fG mx q n c s (Bo c s):=by
 refine cq (λ_=>qb h _ _ λg o hg ho=>?_) λ_=>dP _;unfold mW;cases o.dn with
 |false=>exact λb=>.go g c.t.c 1 _ hg (h.co.mono (cA _)) (.inr rfl)
 |true=>
  cases o.ex with
  |true=>exact⟨rfl,rfl,g,hg,rfl⟩
  |false=>exact jy g _ hg (h.co.push ho.v)
theorem Eu(h:pM mx q n c s):fG mx q n c s (sH c s):=by
 refine cq (λ_=>qb h _ _ λg o hg ho=>?_) λ_=>dP _;unfold jx;cases he:db c.t.c with
 |false=>exact⟨rfl,rfl,g,hg,rfl⟩
 |true=>
  have h1:=h.co.enter he o.fu (gR c.im o.fu) (c.ar.take 1) o.ma (aV (List.length_take_le _ _) (by decide)) (λv hv=>h.a v (dq hv)) ho.m;exact jy g _ hg (h1.mono (cA _))
theorem M7(h:pM mx q n c s):fG mx q n c s (A6 c s):=
 cq (λ_=>cq (λh1 _=>.out _ (fZ.1 (jz h1)).1 (fZ.1 (jz h1)).2 (h.ar 1) (h.ar 0)) λ_=>dP _) λ_=>dP _
theorem J5(h:pM mx q n c s):fG mx q n c s (Ct c s):=by
 refine cq (λ_=>cq (λh1 b=>?_) λ_=>dP _) λ_=>dP _;have h2:=JQ.1 (jz h1);unfold Ao uE vk;rw[h1,δ,δ];cases hf:bI c.t.g.cur (a_ (c.ar[0]?.getD dT)) with
 |true=>exact .go _ c.t.c c.t.st c.t.on (.both _ hf h2.2) (h.co.mono (cA _)) (.inl rfl)
 |false=>exact .log _ _ ⟨rfl,.inl ⟨rfl,rfl,h2.1,h2.2,hf⟩⟩ (h.ar 0)
theorem J3(h:pM mx q n c s):fG mx q n c s (Cb c s):=by
 refine cq (λ_=>cq (λh1 b=>?_) λ_=>dP _) λ_=>dP _;have h2:=HL.1 (jz h1);unfold Ao tO vW;rw[h1,δ,δ];cases hf:bI (a_ (c.ar[0]?.getD dT)) c.t.g.fo with
 |true=>exact .go _ c.t.c c.t.st c.t.on (.lower _ h2.2 hf) (h.co.mono (cA _)) (.inl rfl)
 |false=>exact .log _ _ ⟨rfl,.inr ⟨rfl,rfl,h2.1,h2.2,hf⟩⟩ (h.ar 0)
theorem Ep(h:pM mx q n c s)(hl:c.ar.length=2):fG mx q n c s (qK c s):=by
 refine cq (λhk=>cq (λh1=>?_) λ_=>dP _) λ_=>dP _;have h2:=fZ.1 (jz h1);cases ht:dH s (c.ar[0]?.getD dT) with
 |none=>exact jy c.t.g c.t.c .same (h.co.mono (cA _))
 |some p=>
  obtain⟨i,o⟩:=p;obtain⟨g1,g2,g3⟩:=jh ht;have ho:=h.look g1;rw[<-g3]at h2;exact λb=>.set .no c.t.g i _ o {o with v:=c.ar[1]?.getD dT} c.t.c c.t.st c.t.on g1 (.inl (by rw[g2];exact tW hk (by omega) (by decide))) rfl rfl ⟨ho.l,h.ar 1,ho.w,ho.qs,eC ho.ql,ho.m⟩ h2.1 h2.2 (.inl rfl) (h.co.mono (cA _)) (.inl rfl) (.inl rfl)
theorem vi{l:List Wt}{i:Nat}{x:Wt}(h:x∈rJ l i):x∈l:=by
 unfold rJ at h;rcases aR.1 h with h1|h1
 .exact dq h1
 .exact dJ h1
theorem Kk{o:Ob}(ho:kL mx q o)(id:List UInt8):kL mx (q+1) {o with va:=(eu o.va id).1}/\cL (a_ (eu o.va id).2.1):=by
 have hlen:=vD (x:=o.va) (id:=id);have hq:=ho.ql;have hall:cL (a_ (eu o.va id).1.v)/\(∀x∈(eu o.va id).1.q,cL (a_ x.v))/\cL (a_ (eu o.va id).2.1):=by
  unfold eu;cases o.va.full with
  |false=>
   refine⟨ho.w,λx hx=>?_,oT⟩;rcases aR.1 hx with h1|h1
   .exact ho.qs x h1
   .rw[aL.1 h1];exact oT
  |true=>
   rw[δ];cases hi:o.va.q[sM true o.va.q]? with
   |none=>exact⟨oT,ho.qs,ho.w⟩
   |some w=>exact⟨ho.qs w (aJ hi),λx hx=>ho.qs x (vi hx),ho.w⟩
 exact⟨⟨ho.l,ho.v,hall.1,hall.2.1,by show(eu o.va id).1.q.length<=q+1;omega,ho.m⟩,hall.2.2⟩
theorem P_{o:Ob}(ho:kL mx q o)(id:List UInt8)(v:Va)(hv:cL (a_ v)):kL mx (q+1) {o with va:=(jl o.va id v).1}:=by
 have hlen:=yK (x:=o.va) (id:=id) (v:=v);have hq:=ho.ql;have hall:cL (a_ (jl o.va id v).1.v)/\(∀x∈(jl o.va id v).1.q,cL (a_ x.v)):=by
  unfold jl;cases o.va.full with
  |true=>
   refine⟨ho.w,λx hx=>?_⟩;rcases aR.1 hx with h1|h1
   .exact ho.qs x h1
   .rw[aL.1 h1];exact hv
  |false=>
   rw[ε];cases hi:o.va.q[sM false o.va.q]? with
   |none=>exact⟨hv,ho.qs⟩
   |some w=>exact⟨ho.w,λx hx=>ho.qs x (vi hx)⟩
 exact⟨ho.l,ho.v,hall.1,hall.2,by show(jl o.va id v).1.q.length<=q+1;omega,ho.m⟩
theorem Bm{id:List UInt8}{l:List Va}(hl:∀v∈l,cL (a_ v)):mU id l=.no\/∃w,mU id l=.KZ w/\∀v∈w.l,cL (a_ v):=by
 unfold mU;cases id == []
 .exact .inr ⟨_,rfl,hl⟩
 .exact .inl rfl
theorem JZ(h:pM mx q n c s)(hl:c.ar.length=1):fG mx q n c s (qN c s):=by
 refine cq (λhk=>cq (λh1=>?_) λ_=>dP _) λ_=>dP _;have h1:=jz h1;have h2:=fZ.1 h1;cases ht:dH s (c.ar[0]?.getD dT) with
 |none=>exact λb=>.go _ c.t.c 1 _ (vr h1) (h.co.mono (cA _)) (.inr rfl)
 |some p=>
  obtain⟨i,o⟩:=p;obtain⟨g1,g2,g3⟩:=jh ht;have ho:=h.look g1;have hb:=uL h1;rw[<-g3]at h2 hb;have hk5:o.k=4\/o.k=5:=.inr (by rw[g2];exact tW hk (by omega) (by decide));obtain⟨t1,t2⟩:=Kk ho c.t.id;dsimp only;cases(eu o.va c.t.id).2.2.1 with
  |true=>exact λb=>.set _ _ i _ o {o with va:=(eu o.va c.t.id).1} _ c.t.st c.t.on g1 hk5 rfl rfl t1 h2.1 h2.2 (.inr (by rw[<-g3];exact hb)) (h.co.push t2) (.inl rfl) (Bm λv hv=>by cases hv)
  |false=>exact λb=>.set _ _ i _ o {o with va:=(eu o.va c.t.id).1} _ 1 _ g1 hk5 rfl rfl t1 h2.1 h2.2 (.inr (by rw[<-g3];exact hb)) (h.co.mono (cA _)) (.inr rfl) (.inl rfl)
theorem M6(h:pM mx q n c s)(hl:c.ar.length=2):fG mx q n c s (vN c s):=by
 refine cq (λhk=>cq (λh1=>?_) λ_=>dP _) λ_=>dP _;have h1:=jz h1;have h2:=fZ.1 h1;cases ht:dH s (c.ar[0]?.getD dT) with
 |none=>exact λb=>.go _ c.t.c 1 _ (vr h1) (h.co.mono (cA _)) (.inr rfl)
 |some p=>
  obtain⟨i,o⟩:=p;obtain⟨g1,g2,g3⟩:=jh ht;have ho:=h.look g1;have hb:=uL h1;rw[<-g3]at h2 hb;have hk5:o.k=4\/o.k=5:=.inr (by rw[g2];exact tW hk (by omega) (by decide));have t1:=P_ ho c.t.id (c.ar[1]?.getD dT) (h.ar 1);dsimp only;cases(jl o.va c.t.id (c.ar[1]?.getD dT)).2.1 with
  |true=>exact λb=>.set _ _ i _ o {o with va:=(jl o.va c.t.id (c.ar[1]?.getD dT)).1} c.t.c c.t.st c.t.on g1 hk5 rfl rfl t1 h2.1 h2.2 (.inr (by rw[<-g3];exact hb)) (h.co.mono (cA _)) (.inl rfl) (Bm λv hv=>by rw[aL.1 hv];exact h.ar 1)
  |false=>exact λb=>.set _ _ i _ o {o with va:=(jl o.va c.t.id (c.ar[1]?.getD dT)).1} _ 1 _ g1 hk5 rfl rfl t1 h2.1 h2.2 (.inr (by rw[<-g3];exact hb)) (h.co.mono (cA _)) (.inr rfl) (.inl rfl)
theorem okCo_0(mx:Int)(n:Nat):eA mx n c00:=⟨by decide,λf hf=>(by cases hf),ae _,λv hv=>(by cases hv),ae _⟩
theorem J4(h:pM mx q n c s):fG mx q n c s (Ck c s):=by
 refine cq (λ_=>cq (λh1 b=>?_) λ_=>dP _) λ_=>dP _;have h1:=jz h1;unfold jv at h1;cases hw:bT c.t.g (a_ (c.ar[2]?.getD dT))==0 with
 |false=>rw[hw,ε]at h1;exact absurd h1 (Q6 hw)
 |true=>
  rw[hw,δ]at h1;have h2:=fZ.1 (jz hw);cases hb:decide ((c.ar[1]?.getD dT).n<0)||(decide (999<(c.ar[1]?.getD dT).n)||decide (c.t.ro<=(c.ar[1]?.getD dT).n)) with
  |true=>rw[hb]at h1;cases h1
  |false=>
   simp only[lX,decide_eq_false_iff_not]at hb;have h3:=(okCo_0 mx n).enter (show db c00=true by decide) c.o.a (gR c.im c.o.a) [c.ar[0]?.getD dT] c.ma (show 1<=20 by decide) (λv hv=>by rw[aL.1 hv];exact h.ar 0) h.m;exact .fork (a_ (c.ar[2]?.getD dT)) (c.ar[1]?.getD dT).n _ _ h2.1 h2.2 (h.ar 2) (by omega) (by omega) (h.co.push (h.ar 2)) h3
theorem Er(h:pM mx q n c s):fG mx q n c s (wN c s):=by
 refine cq (λ_=>cq (λh0 b=>?_) λ_=>dP _) λ_=>dP _;have h1:=jz h0;dsimp only;unfold lg;rw[h0,δ];unfold dB at h1;split at h1
 .cases h1
 .split at h1
  .cases h1
  .split at h1
   .rename_i h4;exact absurd h1 h4
   .split at h1
    .cases h1
    .split at h1
     .cases h1
     .rename_i a1 a2 a3 a4 a5;have h2:=fZ.1 (Classical.not_not.1 a3);have he:db c.t.c=true:=by simpa using a5
      have h3:=h.co.enter he c.o.a (gR c.im c.o.a) [c.ar[0]?.getD dT] c.ma (show 1<=20 by decide) (λv hv=>by rw[aL.1 hv];exact h.ar 0) h.m;exact .scope (a_ (c.ar[3]?.getD dT)) (c.ar[2]?.getD dT).n (c.ar[1]?.getD dT).n _ h2.1 h2.2 (h.ar 3) (by omega) (by omega) (by omega) (by omega) (h3.mono (cA _))
theorem A8{F:Nat}{po:Int}(h:pM mx q n c s)(h0:0<=mx)(hF:(c.o.c,F,po)∈codeF)(hl:(c.ar.length:Int)=po):fG mx q n c s (jm c s):=by
 unfold jm;simp only[codeF,af,bz,cU,or_false]at hF;rcases hF with h1|h1|h1|h1|h1|h1|h1|h1|h1|h1|h1|h1|h1|h1|h1|h1|h1|h1|h1|h1<;>obtain⟨e,_,rfl⟩:=h1<;>rw[e]
 .exact M8 h
 .exact M9 h
 .exact Es h
 .exact Et h
 .exact Cu h h0 3 (.inl rfl)
 .exact J0 h
 .exact Cu h h0 4 (.inr rfl)
 .exact zD h
 .exact Ep h (by omega)
 .exact J1 h h0
 .exact JZ h (by omega)
 .exact M6 h (by omega)
 .exact J4 h
 .exact JY h
 .exact Er h
 .exact M7 h
 .exact J5 h
 .exact J3 h
 .exact J2 h
 .exact Eu h
end
theorem xm(n:Nat)(h:n<100)(r:List UInt8):kK (Lib.decDigits n++r) 0=kK r n:=by
 unfold Lib.decDigits
 by_cases h1:n<10
 .rw[dif_pos h1];have:∀m:Nat,m<10->(UInt8.ofNat (48+m)==46)=false/\(UInt8.ofNat (48+m)).toNat-48=m:=by decide
  obtain⟨a,b⟩:=this n h1;show(bif UInt8.ofNat (48+n)==46 then _ else kK r (10*0+((UInt8.ofNat (48+n)).toNat-48)))=_;rw[a,ε,b,Nat.mul_zero,cF]
 .rw[dif_neg h1];unfold Lib.decDigits;rw[dif_pos (by omega)];have:∀m:Nat,m<10->(UInt8.ofNat (48+m)==46)=false/\(UInt8.ofNat (48+m)).toNat-48=m:=by decide
  obtain⟨a,b⟩:=this (n / 10) (by omega);obtain⟨a',b'⟩:=this (n % 10) (by omega);show(bif UInt8.ofNat (48+n / 10)==46 then _ else(bif UInt8.ofNat (48+n % 10)==46 then _ else kK r (10*(10*0+((UInt8.ofNat (48+n / 10)).toNat-48))+((UInt8.ofNat (48+n % 10)).toNat-48))))=_;rw[a,ε,a',ε,b,b'];congr 1;omega
theorem F4:∀(l:List Nat)(n:Nat),(∀x∈l,x<100)->kK (pN l) n=n::l
 |[],n,_=>rfl
 |m::r,n,h=>by
  show kK (46::Lib.decDigits m++pN r) n=_;show n::kK (Lib.decDigits m++pN r) 0=_;rw[xm m (h m (by simp)),F4 r m λx hx=>h x (by simp[hx])]
theorem sQ{l:List Nat}(h0:l≠[])(h:∀x∈l,x<100):kK (bm l) 0=l:=by
 match l,h0 with
 |m::r,_=>
  show kK (Lib.decDigits m++pN r) 0=_;rw[xm m (h m (by simp)),F4 r m λx hx=>h x (by simp[hx])]
structure o_(p:List Nat)(pa:List UInt8)(ma ro:Int):Prop where
  t:pa=bm p
  ne:p≠[]
  lt:∀x∈p,x<100
  m0:0<=ma
  r0:0<=ro
  mr:ma+ro<=15
  le:p.length+ro<=16
structure QR(s:Sc):Prop where
  l:cL s.l
  g:jL s.g
  pa:∃p,o_ p s.pa s.ma s.ro
  nm:∃p,s.nm=bm p/\ee p
structure gN(mx:Int)(n:Nat)(t:Th):Prop where
  co:eA mx n t.c
  g:jL t.g
  pa:∃p,o_ p t.pa t.ma t.ro
  sc:∀s∈t.sc,QR s
  sl:t.sc.length<=n
  v:cL (a_ t.v)
section
variable{mx:Int}{q n:Nat}{im:Im}{t:Th}{s:b7}{now:Int}
theorem o_.un{p:List Nat}{pa:List UInt8}{ma ro:Int}(h:o_ p pa ma ro):kK pa 0=p:=by rw[h.t];exact sQ h.ne h.lt
theorem o_.kp{p:List Nat}(h:o_ p t.pa t.ma t.ro):kz t=p++[t.ma.toNat]:=by unfold kz;rw[h.un]
theorem o_.nF{p:List Nat}(h:o_ p t.pa t.ma t.ro)(hr:1<=t.ro):ee (kz t):=by
 rw[h.kp];have:=h.le;have:=h.mr;have:=h.m0;have:=h.r0;refine⟨by simp,by rw[aK];show _+1<=_;omega,λx hx=>?_⟩;rcases aR.1 hx with h1|h1
 .exact h.lt x h1
 .rw[aL.1 h1];omega
theorem o_.child{p:List Nat}(h:o_ p t.pa t.ma t.ro){ro:Int}(h0:0<=ro)(hr:ro<t.ro):o_ (kz t) (bm (kz t)) 0 ro:=by
 have hg:=h.nF (by omega);have hk:=h.kp;have:=h.le;have:=h.mr;have:=h.m0;refine⟨rfl,hg.1,hg.2.2,eV _,h0,by omega,?_⟩;rw[hk,aK];show((p.length+1:Nat):Int)+ro<=16;omega
theorem o_.made{p:List Nat}{pa:List UInt8}{ma ro d:Int}(h:o_ p pa ma ro)(hd:0<=d)(hr:d<ro):o_ p pa (ma+1) (ro-1-d):=by
 have:=h.le;have:=h.mr;have:=h.m0;exact⟨h.t,h.ne,h.lt,by omega,by omega,by omega,by omega⟩
theorem gN.T(hP:pY im)(h:gN mx n t)(hs:fy mx q n s)(hx:mx<=255)(hw:0<=now/\now<1000000000)(hn:n<50000000)(hq:q<90000000):Rw im t s now:=by
 obtain⟨p,hp⟩:=h.pa;have hu:=hp.un;have:=hp.le;have:=hp.r0;have:=hp.mr;have:=hp.m0;exact{
  x:=h.co.x hP hx (by omega)
  n:=⟨by rw[hu];exact hp.t,by rw[hu];exact hp.ne,by rw[hu];omega,by rw[hu];exact hp.lt,hp.m0,by omega,by omega⟩
  g:=h.g
  gs:=⟨by have:=hs.nm;omega,λp hp=>⟨by have:=(hs.ns p hp).1;omega,(hs.ns p hp).2⟩⟩
  sc:=by have:=h.sl;omega
  w:=hw
  q:=λp hp=>by have:=(hs.th p hp).ql;omega}
def t_(t:Th)(s:b7)(v:Va)(ex:Bool):Bool×b7:=
 if(eW t v ex).st≠3/\(eW t v ex).st≠4 then(false,s) else
 match bW t.id s.th with
 |some (i,o)=>if o.k=6 then(true,jk s i t.id {o with v:=v,ex:=ex,dn:=true})else(true,s)
 |none=>(true,s)
theorem MU(c:Ca)(s:b7)(v:Va)(ex:Bool):(oK c s v ex).1.t=eW c.t v ex/\(oK c s v ex).2=t_ c.t s v ex:=by
 unfold oK t_;dsimp only
 by_cases h:(eW c.t v ex).st≠3/\(eW c.t v ex).st≠4
 .rw[ζ h,ζ h];exact⟨rfl,rfl⟩
 .rw[η h,η h,show(eW c.t v ex).id=c.t.id from rfl];cases bW c.t.id s.th with
  |none=>exact⟨rfl,rfl⟩
  |some p=>
   obtain⟨i,o⟩:=p;dsimp only
   by_cases h6:o.k=6
   .rw[ζ h6,ζ h6];exact⟨rfl,rfl⟩
   .rw[η h6,η h6];exact⟨rfl,rfl⟩
inductive oO(now mx:Int)(q n:Nat)(t:Th)(s:b7)(b:Option Nat):Rs->Prop where
  |idle:t.st≠0->oO now mx q n t s b ⟨t,.no,false,s⟩
  |core (g:Gs) (k:Co):t.st=0->GStep t.g g->eA mx (n+2) k->oO now mx q n t s b ⟨{t with g:=g,c:=k},.no,false,s⟩
  |fin (g:Gs) (k:Co) (v:Va) (ex:Bool):t.st=0->GStep t.g g->eA mx (n+2) k->cL (a_ v) ->
      oO now mx q n t s b ⟨eW {t with g:=g,c:=k} v ex,.no,(t_ {t with g:=g,c:=k} s v ex).1,(t_ {t with g:=g,c:=k} s v ex).2⟩
  |M5 (k:Co) (ma:Int) (e:Fx) (t':Th) (s':b7):t.st=0->eA mx n k->0<=ma/\ma<=mx->jT now mx q n {t with c:=k} ma s b e t' s'->oO now mx q n t s b ⟨t',e,false,s'⟩
theorem sS(c:Ca)(v:Va)(ex:Bool)(g:Gs)(k:Co)(b:Option Nat)(hc:c.t={t with g:=g,c:=k})(h0:t.st=0)(hg:GStep t.g g)(hk:eA mx (n+2) k)(hv:cL (a_ v)):oO now mx q n t s b (KJ (oK c s v ex)):=by
 obtain⟨e1,e2⟩:=MU c s v ex;have:KJ (oK c s v ex)=⟨eW {t with g:=g,c:=k} v ex,.no,(t_ {t with g:=g,c:=k} s v ex).1,(t_ {t with g:=g,c:=k} s v ex).2⟩:=by
  unfold KJ;rw[e1,e2,hc]
 rw[this];exact .fin g k v ex h0 hg hk hv
theorem JT (hP:pY im) (h:gN mx n t) (hs:fy mx q n s) (h0:0≤mx) (hx:mx≤255) (hn:n<50000000) (b:Option Nat):oO now mx q n t s b (FP im t s now b):=by
  unfold FP
  by_cases hst:t.st=0
  · rw [show (t.st != 0) = false by simp [hst], ε]
    have hr:=AJ (fr:=(bQ t).fr) (tr:=(bQ t).tr) hP h.co hx
    have hask:=vF (fr:=(bQ t).fr) (tr:=(bQ t).tr) (h.co.x hP hx (by omega))
    generalize hr':du im t.c (bQ t).fr (bQ t).tr=r at hr hask⊢
    cases k1:r.2.k==1 with
    |true=>exact sS _ _ _ t.g r.1 b rfl hst .same hr.c hr.v
    |false=>
      cases k2:r.2.k==2 with
      |true=>exact sS _ _ _ t.g r.1 b rfl hst .same hr.c hr.v
      |false=>
        cases k3:r.2.k==3 with
        |false=>exact .core t.g r.1 hst .same hr.c
        |true=>
          rw[ε,ε,δ]
          obtain⟨o,f,F,po,e,hf,hcf,hp,hpc⟩:=hask (by simpa using k3)
          rw[e]
          obtain⟨⟨i,hi,hpi⟩,_⟩:=xN hcf
          subst hpi
          unfold R6
          rw[show(lZ im t now).t.c.fr.getLast?=some f from hf]
          dsimp only
          rw[hi]
          dsimp only
          have hfo:pA mx f:=h.co.f f (List.mem_of_getLast? hf)
          have hnx:=Gq h.co hfo
          have hck:eA mx n {rR t.c i.po with fr:=bV t.c.fr f}:=(h.co.pop i.po).bY _ hnx.1 hnx.2
          have hd:=A8 (c:=iu (lZ im t now) o f i.po) (q:=q) ⟨hck,h.g,h.co.kf _,hfo.m,hs⟩ h0 hcf (DP hp)
          generalize jm (iu (lZ im t now) o f i.po) s=R at hd⊢
          cases R with
          |ok e g=>exact .M5 _ f.ma e _ _ hst hck hfo.m (hd b)
          |ex m c' s'=>
            obtain⟨rfl,_,g,hg,hc⟩:=hd
            unfold OR.fin
            have hra:=h.co.raise m c'.tr
            unfold ke
            dsimp only
            rw[show(lZ im t now).t.c=t.c from rfl]
            generalize raise t.c m c'.tr=r2 at hra⊢
            have hc2:{c'.t with c:=r2.1}={t with g:=g,c:=r2.1}:=by rw[hc];rfl
            cases k4:r2.2.k==2 with
            |true=>exact sS _ _ _ g r2.1 b hc2 hst hg (hra.c.mono (by omega)) hra.v
            |false=>
              rw[ε]
              unfold KJ
              dsimp only
              rw[hc2]
              exact .core g r2.1 hst hg (hra.c.mono (by omega))
  · rw[show(t.st != 0)=true by simp[hst],δ]
    exact .idle hst
end
section
variable{mx:Int}{q n:Nat}{t:Th}{s:b7}{now:Int}{b:Option Nat}
theorem kL.mono{o:Ob}(h:kL mx q o):kL mx (q+1) o:=⟨h.l,h.v,h.w,h.qs,eC h.ql,h.m⟩
theorem fy.mono(h:fy mx q n s):fy mx (q+1) (n+1) s:=⟨eC h.nm,λp hp=>⟨eC (h.ns p hp).1,(h.ns p hp).2⟩,λp hp=>(h.th p hp).mono⟩
theorem fy.set(h:fy mx q n s)(i:Nat)(key:List UInt8){o:Ob}(ho:kL mx (q+1) o):fy mx (q+1) (n+1) (jk s i key o):=by
 refine⟨h.mono.nm,h.mono.ns,λp hp=>?_⟩;rcases fP hp with h1|h1
 .exact h.mono.th p h1
 .rw[h1];exact ho
theorem C2{α:Type}{f:α->α}{x:α}:∀{l:List α}{i:Nat},x∈l.modify i f->x∈l\/∃y∈l,x=f y
 |[],i,h=>by simp at h
 |a::l,0,h=>by
  rw[List.modify_zero_cons]at h;rcases af.1 h with h1|h1
  .exact .inr ⟨a,by simp,h1⟩
  .exact .inl (by simp[h1])
 |a::l,i+1,h=>by
  rw[List.modify_succ_cons]at h;rcases af.1 h with h1|h1
  .exact .inl (by simp[h1])
  .rcases C2 h1 with h2|⟨y,h2,h3⟩
   .exact .inl (by simp[h2])
   .exact .inr ⟨y,by simp[h2],h3⟩
theorem H9(ns:List (List Nat))(kp:List Nat):(tc ns kp).length=ns.length+1:=by
 unfold tc;rw[aK,aX,bC,eJ];omega
theorem pe{ns:List (List Nat)}{kp x:List Nat}:x∈tc ns kp<->x=kp\/x∈ns:=by
 unfold tc;rw[aR,af];constructor
 .rintro (h|h|h)
  .exact .inr (dq h)
  .exact .inl h
  .exact .inr (dJ h)
 .rintro (h|h)
  .exact .inr (.inl h)
  .rw[<-List.take_append_drop (rZ ns kp) ns]at h;rcases aR.1 h with h1|h1
   .exact .inl h1
   .exact .inr (.inr h1)
theorem fy.add(h:fy mx q n s){kp:List Nat}{o:Ob}(hk:ee kp)(ho:kL mx (q+1) o)(b:Option Nat):fy mx (q+1) (n+1) (j8 s kp o b):=by
 unfold j8;cases ky o.l&&(bW (bm kp) s.th).isNone with
 |false=>exact h.mono
 |true=>
  rw[δ];unfold qi;have hth:∀p∈s.th++[(bm kp,o)],kL mx (q+1) p.2:=λp hp=>by
   rcases aR.1 hp with h1|h1
   .exact h.mono.th p h1
   .rw[aL.1 h1];exact ho
  unfold qC;cases rU o.l s.nm with
  |none=>
   refine⟨?_,λp hp=>?_,hth⟩
   .show(s.nm++_).length<=_;rw[aK];exact qD h.nm
   .rcases aR.1 hp with h1|h1
    .exact h.mono.ns p h1
    .rw[aL.1 h1];exact⟨qD (ae _),λx hx=>by rw[aL.1 hx];exact hk⟩
  |some i=>
   refine⟨?_,λp hp=>?_,hth⟩
   .show(s.nm.modify i _).length<=_;rw[List.length_modify];exact h.mono.nm
   .rcases C2 hp with h1|⟨y,h1,rfl⟩
    .exact h.mono.ns p h1
    .refine⟨by rw[H9];exact qD (h.ns y h1).1,λx hx=>?_⟩;rcases pe.1 hx with h2|h2
     .rw[h2];exact hk
     .exact(h.ns y h1).2 x h2
theorem Rh.sm{g h:Gs}{ma:Int}{x:En}(H:Rh g ma x h)(hg:jL g):jL h:=by
 rcases H.2 with⟨_,rfl,_⟩|⟨_,rfl,_⟩
 .exact And.intro (l7 _) hg.2
 .exact And.intro hg.1 (l7 _)
theorem jT.keep{ma:Int}{e:Fx}{t':Th}{s':b7}(ht:gN mx n t)(hs:fy mx q n s)(h0:0<=mx)(D:jT now mx q n t ma s b e t' s'):gN mx (n+1) t'/\fy mx (q+1) (n+1) s':=by
 obtain⟨p,hp⟩:=ht.pa;have hl:=eC ht.sl;cases D with
 |go g k st on hg hk _=>exact⟨⟨hk,hg.sm ht.g,⟨p,hp⟩,ht.sc,hl,ht.v⟩,hs.mono⟩
 |log x g hg _=>exact⟨⟨ht.co.mono (cA _),hg.sm ht.g,⟨p,hp⟩,ht.sc,hl,ht.v⟩,hs.mono⟩
 |out x _ _ _ _=>exact⟨⟨ht.co.mono (cA _),ht.g,⟨p,hp⟩,ht.sc,hl,ht.v⟩,hs.mono⟩
 |set e g i nm o w k st on _ _ _ _ hw _ _ hg hk _ _=>
  refine⟨⟨hk,?_,⟨p,hp⟩,ht.sc,hl,ht.v⟩,hs.set i nm hw⟩;rcases hg with rfl|rfl
  .exact ht.g
  .exact And.intro (l7 _) ht.g.2
 |make o k _ _ hr _ ho hk=>
  have h1:=hp.made (d:=0) (eV _) (by omega);rw[Int.sub_zero]at h1;exact⟨⟨hk,ht.g,⟨p,h1⟩,ht.sc,hl,ht.v⟩,hs.add (hp.nF hr) ho.mono b⟩
 |fork l ro k d _ _ hl2 hr0 hr hk _=>
  exact⟨⟨hk,ht.g,⟨p,hp.made hr0 hr⟩,ht.sc,hl,ht.v⟩,hs.add (hp.nF (by omega)) (CQ mx (q+1) 6 hl2 oT 0 ⟨eV _,h0⟩) b⟩
 |scope l tk ro k _ _ hl2 hr0 hr _ _ hk=>
  refine⟨⟨hk,And.intro ht.g.1 (l7 _),⟨_,hp.child hr0 hr⟩,λx hx=>?_,?_,ht.v⟩,hs.mono⟩
  .rcases aR.1 hx with h1|h1
   .exact ht.sc x h1
   .rw[aL.1 h1];exact⟨l7 _,ht.g,⟨p,hp.made hr0 hr⟩,⟨_,rfl,hp.nF (by omega)⟩⟩
  .show(t.sc++_).length<=_;rw[aK];exact qD ht.sl
theorem gN.fin(ht:gN mx n t){v:Va}(hv:cL (a_ v))(ex:Bool):gN mx n (eW t v ex):=⟨ht.co,ht.g,ht.pa,ht.sc,ht.sl,hv⟩
theorem fy.fin(hs:fy mx q n s){v:Va}(hv:cL (a_ v))(ex:Bool):fy mx (q+1) (n+1) (t_ t s v ex).2:=by
 unfold t_;split
 .exact hs.mono
 .cases hl:bW t.id s.th with
  |none=>exact hs.mono
  |some p=>
   obtain⟨i,o⟩:=p;dsimp only;split
   .obtain⟨p,hp,rfl⟩:=i_ hl;have ho:=hs.th p hp;exact hs.set i t.id ⟨ho.l,hv,ho.w,ho.qs,eC ho.ql,ho.m⟩
   .exact hs.mono
theorem gN.mono(ht:gN mx n t){m:Nat}(h:n<=m):gN mx m t:=⟨ht.co.mono h,ht.g,ht.pa,ht.sc,aV ht.sl h,ht.v⟩
theorem gN.core(ht:gN mx n t){g:Gs}{k:Co}{m:Nat}(hg:GStep t.g g)(hk:eA mx m k)(h:n<=m):gN mx m {t with g:=g,c:=k}:=⟨hk,hg.sm ht.g,ht.pa,ht.sc,aV ht.sl h,ht.v⟩
theorem oO.keep{r:Rs}(ht:gN mx n t)(hs:fy mx q n s)(h0:0<=mx)(T:oO now mx q n t s b r):gN mx (n+2) r.t/\fy mx (q+1) (n+1) r.s:=by
 cases T with
 |idle _=>exact⟨ht.mono (by omega),hs.mono⟩
 |core g k _ hg hk=>exact⟨ht.core hg hk (by omega),hs.mono⟩
 |fin g k v ex _ hg hk hv=>exact⟨(ht.core hg hk (by omega)).fin hv ex,hs.fin hv ex⟩
 |M5 k ma e t' s' _ hk _ D=>
  have:=jT.keep (t:={t with c:=k}) ⟨hk,ht.g,ht.pa,ht.sc,ht.sl,ht.v⟩ hs h0 D;exact⟨this.1.mono (by omega),this.2⟩
theorem B8(ht:gN mx n t)(k:Nat):cL (a_ (jF t k).1):=by
 unfold jF;cases !(t.st==2)||!((k:Int)==(t.sc.length:Int)-1) with
 |true=>exact gf _
 |false=>
  rw[ε];cases !bI t.g.cur ((t.sc[k]?).getD Gr).l with
  |true=>exact gf _
  |false=>exact ht.v
theorem QR.Ul{x:Sc}(h:QR x):Nb x:=by
 obtain⟨p,e,hg⟩:=h.nm;have:LF x=p:=by unfold LF;rw[e];exact sQ hg.1 hg.2.2
 exact⟨by rw[this];exact e,by rw[this];exact hg,h.l⟩
theorem jt(ht:gN mx n t)(hs:fy mx q n s)(h0:0<=mx)(b:Option Nat):gN mx (n+1) (dA t s now b).1/\fy mx (q+1) (n+1) (dA t s now b).2:=by
 unfold dA;cases hi:t.sc[jD now t.sc]? with
 |none=>exact⟨ht.mono (cA _),hs.mono⟩
 |some x=>
  have hx:=ht.sc x (aJ hi);have hg:=hx.Ul;refine⟨⟨(ht.co.cut _ _ _).push hx.l,hx.g,hx.pa,λy hy=>ht.sc y (dq hy),?_,oT⟩,hs.add hg.g ?_ b⟩
  .show(t.sc.take _).length<=_;have:=ht.sl;rw[bC];omega
  .exact⟨hx.l,B8 ht _,oT,λx hx=>(by cases hx),ae _,eV _,h0⟩
def ev(im:Im)(now:Int)(b b':Option Nat)(t:Th)(s:b7):Rs:=FP im (dA t s now b).1 (dA t s now b).2 now b'
theorem iZ{im:Im}(hP:pY im)(ht:gN mx n t)(hs:fy mx q n s)(h0:0<=mx)(hx:mx<=255)(hn:n<40000000)(b b':Option Nat) :
  oO now mx (q+1) (n+1) (dA t s now b).1 (dA t s now b).2 b' (ev im now b b' t s):=
 have h:=jt ht hs h0 b
 JT hP h.1 h.2 h0 hx (by omega) b'
theorem sX{im:Im}(hP:pY im)(ht:gN mx n t)(hs:fy mx q n s)(h0:0<=mx)(hx:mx<=255)(hn:n<40000000)(b b':Option Nat) :
  gN mx (n+3) (ev im now b b' t s).t/\fy mx (q+2) (n+2) (ev im now b b' t s).s:=
 have h:=jt ht hs h0 b
 oO.keep h.1 h.2 h0 (iZ hP ht hs h0 hx hn b b')
end
section
variable{mx:Int}{q n:Nat}{t:Th}{s:b7}{now:Int}{b:Option Nat}
theorem jT.run{ma:Int}{e:Fx}{t':Th}{s':b7}(D:jT now mx q n t ma s b e t' s')(h:t.st=0):t'.id=t.id/\(t'.st=0\/t'.st=1):=by
 cases D with
 |go g k st on _ _ hs=>exact⟨rfl,by rcases hs with rfl|rfl<;>simp[h]⟩
 |log|out|make|fork|scope=>exact⟨rfl,.inl h⟩
 |set e g j nm p w k st on _ _ _ _ _ _ _ _ _ hs=>exact⟨rfl,by rcases hs with rfl|rfl<;>simp[h]⟩
end
end Go.Proofs.YtjpgfgajkjhonaaGreatDoor