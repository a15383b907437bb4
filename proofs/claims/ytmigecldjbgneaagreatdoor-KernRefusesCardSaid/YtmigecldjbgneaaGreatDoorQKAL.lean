/- Lemmas. Conditions: none. -/
import Derived.Test.YtmigecldjbgneaaGreatDoorQKAK
namespace Go.Vx
section
variable{P:Program}{E:gG}{n:Nat}{G G':Nat->Prop}{ρ ρ':List Value}{t:T}{h h':H}{a:Act}{w w':World}
def Cq(w:World)(b:Nat):Prop:=(∃r,w.heap[b]?=some (.loop r))\/∃ds,w.heap[b]?=some (.deferred ds)
theorem Cq.W_{b:Nat}(h:Cq w b)(hc:LC w b):False:=by
 obtain⟨x,y,z,hc⟩:=hc;rcases h with⟨r,h⟩|⟨r,h⟩<;>rw[hc]at h<;>cases h
theorem Cq.lt{b:Nat}(h:Cq w b):b<w.heap.size:=by
 rcases h with⟨r,h⟩|⟨r,h⟩<;>exact(aW.1 h).1
theorem cQ.BU{hd:Value}{x:B}{r:Nat}(hb:cQ G w ρ hd x)(hn:x≠.no)(hr:r∈fF hd x)(h:Cq w r):False:=by
 rcases h with⟨_,h⟩|⟨_,h⟩<;>rcases hb.obj hn hr with⟨_,_,h1⟩|⟨_,_,h1⟩|⟨_,_,_,_,h1⟩<;>(rw[h]at h1;cases h1)
theorem HR.BU(hr:HR G w ρ h){b:Nat}(hb:Cq w b):¬own ρ h b:=λ⟨id,v,x,h1,h2,h3,h4⟩=>(hr.rep id v x h1 h2).BU h3 h4 hb
theorem Ok.ng(hO:Ok E G w ρ h){l:Nat}(hl:Cq w l)(he:¬E.G l):¬G l:=λhg=>(hO.go l hg).elim he λh=>hl.W_ h.1
theorem Ok.comp{ds':List Deferred}{ms':List Nat}(hO:Ok E G w ρ h)(hms:∀r∈E.ms,r∈ms')(hP:Ok ⟨w,G,ρ,h,ds',ms'⟩ G' w' ρ' h'):Ok E G' w' ρ' h':=by
 refine⟨hP.hr,λb hb=>hP.gm b (hO.gm b hb),λb hb=>?_,λb hb=>?_,λb hb hn=>?_,aX hO.size hP.size,hP.os.trans hO.os,hP.tape.trans hO.tape,hP.out.trans hO.out,
  λid v hv hs=>hP.hand id v (hO.hand id v hv hs) hs,aX hO.hl hP.hl,λr hr=>hP.uB r (hms r hr),λi z rs hi=>let⟨k1,k2⟩:=hO.lk i z rs hi;let⟨m1,m2⟩:=hP.lk i z rs k1;⟨m1,m2.trans k2⟩⟩
 .rcases hP.go b hb with h1|⟨h1,h2⟩
  .rcases hO.go b h1 with h3|⟨h3,h4⟩
   grind
   .exact .inr ⟨h3.same (hP.frame b (hO.hr.gl b h1) (hO.hr.gd b h1)),h4⟩
  .refine .inr ⟨h1,?_⟩;rcases h2 with h2|h2
   .exact .inl (aX hO.size h2)
   .exact hO.oo b h2
 .rcases hP.oo b hb with h1|h1
  .exact .inl (aX hO.size h1)
  .exact hO.oo b h1
 .refine(hP.frame b (bj hb hO.size) λho=>?_).trans (hO.frame b hb hn);rcases hO.oo b ho with h1|h1
  grind
  grind
theorem Ok.H7(hO:Ok E G w ρ h){l:Nat}(hl:Cq w l)(hE:E.w.heap.size<=l)(hg:¬G l){ms:List Nat}(hm:∀r∈ms,r∈E.ms/\r≠l){ds:List Deferred}(o:Obj):Ok {E with ds:=ds,ms:=ms} G (w.putObj l o) ρ h:=by
 have hw:∀b,b≠l->(w.putObj l o).heap[b]?=w.heap[b]?:=λ_ hb=>World.putObj_heap_other hb;have hG:∀b,G b->(w.putObj l o).heap[b]?=w.heap[b]?:=λb hb=>hw b λe=>hg (e ▸ hb);have hn:=hO.hr.BU hl;refine⟨⟨hO.hr.len,λid v x hv hx=>?_,hO.hr.pv,λb hb=>by rw[World.putObj_size];exact hO.hr.gl b hb,hO.hr.gd,hO.hr.vR.mono (λ_ h=>h) hG⟩,hO.gm,λb hb=>(hO.go b hb).imp (λh=>h) λh2=>⟨h2.1.same (hG b hb),h2.2⟩,hO.oo,
  λb hb hno=>(hw b λe=>?_).trans (hO.frame b hb hno),by rw[World.putObj_size];exact hO.size,hO.os,hO.tape,hO.out,hO.hand,hO.hl,λr hr=>?_,hO.lk⟩
 .by_cases hx0:x=.no
  .subst hx0;trivial
  .exact(hO.hr.rep id v _ hv hx).mono (λ_ h=>h) hG (λb hb=>hw b λe=>hn (e ▸ ⟨id,v,x,hv,hx,hx0,hb⟩)) (λ_ _=>rfl)
 grind
 .obtain⟨h1,h2⟩:=hm r hr;obtain⟨g1,g2,g3⟩:=hO.uB r h1
  grind
theorem qJ{v:Value}{x:V}(hv:az G w ρ v x){l:Nat}(hg:¬G l)(o:Obj):az G (w.putObj l o) ρ v x:=
 hv.mono (λ_ h=>h) (λ_ hb=>World.putObj_heap_other λe=>hg (e ▸ hb)) (λ_ _=>rfl)
theorem dN.ns{v:Value}{x:V}(hv:dN G w ρ v x)(hs:PH x=false):∀i∈lN x,∃u,ρ[i]?=some u/\kZ u=false:=by
 intro i hi;cases hv with
 |p id off b h=>simp only[lN,aF]at hi;subst hi;exact⟨_,h,rfl⟩
 |mp id r h=>simp only[lN,aF]at hi;subst hi;exact⟨_,h,rfl⟩
 |it id r m h=>simp only[lN,aF]at hi;subst hi;exact⟨_,h,rfl⟩
 |os id a n c h=>cases hs
 |q id z i off b n c h=>cases hs
 |ov id z i _ a n c h hv=>cases hs
 |_=>simp[lN]at hi
theorem W0{x:V}(h:PJ x=false):PH x=false:=by cases x<;>first|exact h|rfl
theorem W5{x:V}(h:Sj x=false):PJ x=false:=by cases x<;>first|exact h|rfl
theorem W4{x:V}(h:Kx x=false):Sj x=false:=by cases x<;>first|exact h|rfl
theorem dO.ns{v:Value}{x:V}(hv:dO G w ρ v x)(hs:PJ x=false):∀i∈pQ x,∃u,ρ[i]?=some u/\kZ u=false:=by
 intro i hi;cases hv with
 |k h=>
  have e:pQ x=lN x:=by cases h<;>rfl
  exact h.ns (W0 hs) i (e ▸ hi)
 |fc f u cs caps h0 h1 h2=>
  simp only[pQ,aj]at hi;obtain⟨y,hy,hi⟩:=hi;obtain⟨k,hk⟩:=ao.1 hy;simp only[PJ,List.any_eq_false]at hs;exact(h2 k y hk).ns (by grind) i hi
theorem dP.ns{v:Value}{x:V}(hv:dP G w ρ v x)(hs:Sj x=false):∀i∈nH x,∃u,ρ[i]?=some u/\kZ u=false:=by
 intro i hi;cases hv with
 |c h=>
  have e:nH x=pQ x:=by
   cases h with
   |k h=>cases h<;>rfl
   |fc=>rfl
  exact h.ns (W5 hs) i (e ▸ hi)
 |ag cs vs h1 h2=>
  simp only[nH,aj]at hi;obtain⟨y,hy,hi⟩:=hi;obtain⟨k,hk⟩:=ao.1 hy;simp only[Sj,List.any_eq_false]at hs;exact(h2 k y hk).ns (by grind) i hi
theorem az.ns{v:Value}{x:V}(hv:az G w ρ v x)(hs:Kx x=false):∀i∈l8 x,∃u,ρ[i]?=some u/\kZ u=false:=by
 intro i hi;cases hv with
 |o h=>
  have e:l8 x=nH x:=by
   cases h with
   |c h=>cases h with
    |k h=>cases h<;>rfl
    |fc=>rfl
   |ag=>rfl
  exact h.ns (W4 hs) i (e ▸ hi)
 |tu cs vs h1 h2=>
  simp only[l8,aj]at hi;obtain⟨y,hy,hi⟩:=hi;obtain⟨k,hk⟩:=ao.1 hy;simp only[Kx,List.any_eq_false]at hs;exact(h2 k y hk).ns (by grind) i hi
def lu(G:Nat->Prop)(w:World)(ρ:List Value)(G':Nat->Prop)(w':World)(ρ':List Value):Prop:=
 (∀b,G b->G' b/\w'.heap[b]?=w.heap[b]?)/\∀(i:Nat)(u:Value),ρ[i]?=some u->kZ u=false->ρ'[i]?=some u
theorem lu.refl:lu G w ρ G w ρ :=⟨λ_ h=>⟨h,rfl⟩,λ_ _ h _=>h⟩
theorem lu.trans{G1 G2:Nat->Prop}{w1 w2:World}{ρ1 ρ2:List Value}(h:lu G w ρ G1 w1 ρ1)(k:lu G1 w1 ρ1 G2 w2 ρ2):lu G w ρ G2 w2 ρ2:=
 ⟨λb hb=>let h1:=h.1 b hb;let h2:=k.1 b h1.1;⟨h2.1,h2.2.trans h1.2⟩,λi u hi hu=>k.2 i u (h.2 i u hi hu) hu⟩
theorem lu.put{l:Nat}(hg:¬G l)(o:Obj):lu G w ρ G (w.putObj l o) ρ :=⟨λ_ hb=>⟨hb,World.putObj_heap_other λe=>hg (e ▸ hb)⟩,λ_ _ h _=>h⟩
theorem Ok.stay{ds:List Deferred}{ms:List Nat}(hr:HR G w ρ h)(hP:Ok ⟨w,G,ρ,h,ds,ms⟩ G' w' ρ' h'):lu G w ρ G' w' ρ':=
 ⟨λb hb=>⟨hP.gm b hb,hP.frame b (hr.gl b hb) (hr.gd b hb)⟩,hP.hand⟩
theorem lu.rep(hS:lu G w ρ G' w' ρ'){v:Value}{x:V}(hv:az G w ρ v x)(hs:Kx x=false):az G' w' ρ' v x:=
 hv.mono (λb hb=>(hS.1 b hb).1) (λb hb=>(hS.1 b hb).2) (λi hi=>let⟨u,h1,h2⟩:=hv.ns hs i hi;(hS.2 i u h1 h2).trans h1.symm)
theorem lu.W8(hS:lu G w ρ G' w' ρ'){v:Value}{x:V}(hv:dN G w ρ v x)(hs:PH x=false):dN G' w' ρ' v x:=
 hv.mono (λb hb=>(hS.1 b hb).1) (λb hb=>(hS.1 b hb).2) (λi hi=>let⟨u,h1,h2⟩:=hv.ns hs i hi;(hS.2 i u h1 h2).trans h1.symm)
def Uh(r:Nat):Deferred:={target:=.collected r,args:= #[]}
def nE(E E':gG):Prop:=∃l:List Nat,E'={E with ds:=l.map Uh++E.ds,ms:=l++E.ms}/\(E.ms.Nodup->(l++E.ms).Nodup)/\∀r∈l,E.w.heap.size<=r
theorem nE.refl(E:gG):nE E E:=⟨[],rfl,λh=>h,by simp⟩
theorem nE.trans{E E1 E2:gG}(h:nE E E1)(k:nE E1 E2):nE E E2:=by
 obtain⟨l,rfl,h1,h2⟩:=h;obtain⟨m,rfl,k1,k2⟩:=k;refine⟨m++l,by simp,λh=>by grind,λr hr=>?_⟩
 grind
theorem nE.ew{E E1:gG}(h:nE E E1):E1.w=E.w:=by obtain⟨l,rfl,_⟩:=h;rfl
theorem nE.eG{E E1:gG}(h:nE E E1):E1.G=E.G:=by obtain⟨l,rfl,_⟩:=h;rfl
theorem nE.er{E E1:gG}(h:nE E E1):E1.ρ=E.ρ :=by obtain⟨l,rfl,_⟩:=h;rfl
theorem nE.eh{E E1:gG}(h:nE E E1):E1.h=E.h:=by obtain⟨l,rfl,_⟩:=h;rfl
def xS:Code->Bool
 |.seq a b=>xS a&&xS b
 |.cond _ a b=>xS a&&xS b
 |.block _ c=>xS c
 |.loop c=>xS c
 |.rangeFunc _ _ _ _=>false
 |_=>true
def QM(b:Bool)(E:gG)(n:Nat)(K:Ex->T->H->Prop)(e:Exit)(a:Act)(w:World):Prop:=
 ∃E',nE E E'/\(b=true->E'=E)/\QK E' n K e a w
theorem QM.of{b:Bool}{K:Ex->T->H->Prop}{e:Exit}(h:QK E n K e a w):QM b E n K e a w:=⟨E,.refl E,λ_=>rfl,h⟩
theorem QM.qk{K:Ex->T->H->Prop}{e:Exit}(h:QM true E n K e a w):QK E n K e a w:=by
 obtain⟨E',h1,h2,h3⟩:=h
 grind
def Px(r:Option Nat)(E:gG):Prop:=∀l,r=some l->(∃rec,E.w.heap[l]?=some (.loop rec))/\¬own E.ρ E.h l
theorem Px.none(E:gG):Px none E:=λ_ h=>by cases h
theorem Px.mk{r:Option Nat}{E E1:gG}(h:Px r E)(hm:nE E E1):Px r E1:=by
 obtain⟨l,rfl,_⟩:=hm;exact h
def WK(P:Program)(ow:Nat->Bool)(n:Nat)(c:Code)(x:C):Prop:=
  ∀(r:Option Nat) (N:Nat) (E:gG),E.ρ.length=E.h.length→Px r E→∀(G:Nat→Prop) (ρ:List Value) (t:T) (h:H) (a:Act) (w:World) (K:Ex→T→H→Prop),an E n G ρ t h a w →
    wx (Sat P) ow E.h.length x t h K->c.wpIn (Fw r) N P (QM (xS c) E n K) a w
theorem Lw{d:D}(h:TW d):bp G w (sO d) d:=by
 cases d with
 |int k n=>exact .int k n
 |bool b=>exact .bool b
 |str s=>
  have:=bp.str (G:=G) (w:=w) ⟨s.toArray⟩ (by assumption)
  assumption
 |_=>exact h.elim
theorem Rb:∀(ps:List Nat)(r:List D)(t:T)(u:Array Value),(∀p∈ps,p<u.size)->(∀d∈r,TW d)->(∀i,az G w ρ (u.getD i undef) (gs t i)) ->
  ∀i,az G w ρ (((ps.zip (r.map sO)).foldl (λt(p,v)=>t.setIfInBounds p v) u).getD i undef) (gs (Sp ps r t) i):=by
 intro ps
 induction ps with
 |nil=>intro r t u _ _ h;exact h
 |cons p ps ih=>
  intro r t u hp hr h;cases r with
  |nil=>exact h
  |cons d r=>
   refine ih r _ (u.setIfInBounds p (sO d)) (λq hq=>by grind) (λx hx=>hr x (by grind)) (λi=>?_);have hpl:=hp p (by simp);rw[gD]
   by_cases e:p=i
   .subst e;simp only[kQ,δ];have:=Lw (G:=G) (w:=w) (hr d (by simp));simpa[Array.getElem?_setIfInBounds,hpl]using(az.o (.c (.k (.d this))):az G w ρ _ _)
   .rw[fw e,ε];simp_all
theorem FT:∀(l:List (Nat×Value))(u:Array Value),(l.foldl (λt(p,v)=>t.setIfInBounds p v) u).size=u.size:=by
 intro l
 induction l with
 |nil=>grind
 |cons x l ih=>grind
theorem Mx{T0:T}(h:(T0.all λp=> !(Kx p.2))=true)(i:Nat):Kx (gs T0 i)=false:=by
 rcases(show gs T0 i=.un\/∃p∈T0,p.2=gs T0 i from by
  induction T0 with
  |nil=>exact .inl rfl
  |cons p T0 ih=>
   simp only[qB,aO]at h;rw[gD]
   grind)with e|⟨p,hp,e⟩
 .rw[e];rfl
 grind
end
end Go.Vx
