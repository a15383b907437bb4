/- Lemmas. Conditions: none. -/
import Derived.Test.YtjpgfgajkjhonaaGreatDoorQRAI
import Derived.Laws.IdiomStrings
namespace Go.Vx
open Go.MapKept
section
variable{P:Program}{E:gL}{n:Nat}{G:Nat->Prop}{ρ:List Value}{t:T}{h:H}{a:Act}{w:World}{o:Oper}{bV:Act->World->Prop}{Q:Exit->Act->World->Prop}{K KP:V->T->H->Prop}
variable(S:Nat->List V->H->(Out->H->Prop)->Prop)(ow:Nat->Bool)
theorem xB{j k:IntKind}(h:Nat.beq (kn j) (kn k)=true):j=k:=by revert h;cases j<;>cases k<;>simp[kn]
theorem l_{ks:List Nat}{x:V}(h:lP ks x=true):(∃j k n,ks=[0,j]/\x=.d (.int k n)/\Nat.beq (kn k) j=true)\/(∃b,ks=[1]/\x=.d (.bool b))\/(∃s,ks=[2]/\x=.d (.str s)):=by
 unfold lP at h
 grind
theorem p9{x:TypeId}{ks:List Nat}(y:xh P x=some ks):(∃k,P.underlying x=some (.int k)/\ks=[0,kn k])\/(P.underlying x=some .bool/\ks=[1])\/(P.underlying x=some .string/\ks=[2])\/ks=[9]:=by
 unfold xh at y
 grind
theorem xC{u:TypeId}{ks:List Nat}(y:xh P u=some ks){v:Value}{x:V}(c:lP ks x=true)(z:au G w ρ v x):∃d,P.underlying u=some d/\IsKey d v:=by
 rcases p9 y with⟨k,hd,rfl⟩|⟨hd,rfl⟩|⟨hd,rfl⟩|rfl
 case inr.inr.inr=>contradiction
 all_goals refine⟨_,hd,?_⟩
 all_goals rcases l_ c with⟨j,g,n,e,rfl,f⟩|⟨b,e,rfl⟩|⟨s,e,rfl⟩<;>simp at e<;>try (cases e;done)
 .subst e;rw[z.int];exact xB f
 .rw[z.bool];trivial
 .obtain⟨i,rfl,_⟩:=z.str;trivial
theorem Xf{r:TypeId}{ks:List Nat}{d:TypeDesc}(c:xh P r=some ks)(hd:P.underlying r=some d){v u:Value}{x y:V}{b:Bool}(C:lP ks x=true)(D:lP ks y=true)(f:au G w ρ v x)(g:au G w ρ u y)
  (he:rH (ks.take 1) x.cs y.cs=some b):Instr.sameNow d v u=some b/\(b=true->v=u):=by
 rcases l_ C with⟨j,k,m,rfl,rfl,F⟩|⟨I,rfl,rfl⟩|⟨s1,rfl,rfl⟩<;>rcases l_ D with⟨J,L,M,e,rfl,i⟩|⟨N,e,rfl⟩|⟨s2,e,rfl⟩<;>simp at e<;>try (cases e;done)
 .subst e;rcases p9 c with⟨s,z,e⟩|⟨_,e⟩|⟨_,e⟩|e<;>simp at e
  rw[hd]at z;cases z;subst e;obtain rfl:=xB F;obtain rfl:=xB i;rw[f.int,g.int];have p:∀q:IntKind,Nat.beq (kn q) (kn q)=true:=λq=>by simp_all
  simp only[V.cs,dV,nS,rH,JL,p,δ,dz,aE]at he;subst he;simp[Instr.sameNow]
 .rcases p9 c with⟨s,z,e⟩|⟨z,e⟩|⟨_,e⟩|e<;>simp at e
  rw[hd]at z;cases z;rw[f.bool,g.bool];simp only[V.cs,dV,nS,rH,JL,dz,aE]at he;subst he;simp[Instr.sameNow]
 .rcases p9 c with⟨s,z,e⟩|⟨z,e⟩|⟨z,e⟩|e<;>simp at e
  rw[hd]at z;cases z;obtain⟨v1,rfl,rfl,_⟩:=f.str;obtain⟨A,rfl,rfl,_⟩:=g.str;simp only[V.cs,dV,nS,rH,JL,dz,aE]at he;subst he;have B:(v1==A)=(v1.data.toList==A.data.toList):=by
   rw[Bool.eq_iff_iff,bytes_beq,ξ];constructor
   grind
   .intro h;have⟨⟨l⟩⟩:=v1;simp_all
  refine⟨by simp only[Instr.sameNow,B],λh=>?_⟩;rw[<-B,bytes_beq]at h;rw[h]
theorem BQ {kt:TypeId} {ks:List Nat} {d:TypeDesc} (hks:xh P kt=some ks) (hd:P.underlying kt=some d) {k:Value} {kx:V} (hk:au G w ρ k kx) (hkb:lP ks kx=true) :
    ∀(es:List (V×V)) (l:List MapEntry) (i:Nat) (r:Option (Nat×V)),l.length=es.length→(∀(j:Nat) (e:MapEntry) (x:V×V),l[j]? = some e→es[j]? = some x→dM G w ρ e.key x.1∧dM G w ρ e.val x.2)→qI ks kx.cs es i=some r →
      match r with
      |none=>Instr.findNow d k l i=some none
      |some (j,y)=>∃m e x,j=i+m/\l[m]?=some e/\es[m]?=some x/\x.2=y/\e.key=k/\Instr.findNow d k l i=some (some (j,e.val)):=by
  intro es
  induction es with
  |nil=>
    intro l i r hl _ hf
    cases l with
    |cons _ _=>grind
    |nil=>cases hf;rfl
  |cons x es ih=>
    intro l i r hl hr hf
    cases l with
    |nil=>grind
    |cons e l=>
      have h0:=hr 0 e x rfl rfl
      simp only[qI]at hf
      cases hkx:lP ks x.1<;>rw[hkx]at hf
      grind
      simp only[δ]at hf
      split at hf
      · rename_i b hb
        have⟨g1,g2⟩:=Xf hks hd hkb hkx hk (.o h0.1) hb
        cases b
        · simp only[ε]at hf
          have:=ih l (i+1) r (by grind) (λj e' x' he hx=>hr (j+1) e' x' (by grind) (by grind)) hf
          cases r with
          |none=>simp only at this⊢;simp only[Instr.findNow,g1,this]
          |some p=>
            have⟨p1,p2⟩:=p
            have⟨m,e',x',hp,h1,h2,h3,h4,h5⟩:=this
            exact⟨m+1,e',x',by omega,by grind,by grind,h3,h4,by simp only[Instr.findNow,g1,h5]⟩
        · simp only[δ,aE]at hf
          subst hf
          exact⟨0,e,x,rfl,rfl,rfl,rfl,(g2 rfl).symm,by simp only[Instr.findNow,g1]⟩
      grind
theorem tH(z:ak E n G ρ t h a w){v:Value}{id:Nat}{es:List (V×V)}(y:au G w ρ v (.mp id))(u:h[id]?=some (.mp es)) :
  ∃r arr clk,v=.map (some r)/\ρ[id]?=some (.map (some r))/\w.heap[r]?=some (.map arr clk)/\arr.size=es.length/\ord arr clk/\∀(i:Nat)(e:MapEntry)(x:V×V),arr[i]?=some e->es[i]?=some x->dM G w ρ e.key x.1/\dM G w ρ e.val x.2:=by
 cases y with|o y=>cases y with|c y=>cases y with|k y=>cases y with|mp _ r b =>
 have⟨r',arr,clk,e,d,f,g,j⟩:=z.ok.hr.rep id _ _ b u
 grind
theorem uF(z:ak E n G ρ t h a w){v:Value}{id:Nat}{es:List (D×Bool×List D)}(y:au G w ρ v (.mp id))(u:h[id]?=some (.dm es)) :
  ∃r arr clk,v=.map (some r)/\ρ[id]?=some (.map (some r))/\w.heap[r]?=some (.map arr clk)/\arr.size=(fz es).length/\ord arr clk/\∀(i:Nat)(e:MapEntry)(x:V×V),arr[i]?=some e->(fz es)[i]?=some x->dM G w ρ e.key x.1/\dM G w ρ e.val x.2:=by
 cases y with|o y=>cases y with|c y=>cases y with|k y=>cases y with|mp _ r b =>
 have⟨r',arr,clk,e,d,f,g,j⟩:=z.ok.hr.rep id _ _ b u
 grind
theorem JW(z:ak E n G ρ t h a w){v:Value}{id r:Nat}{l:It}{es:List (D×Bool×List D)}(y:au G w ρ v (.mp id))(u:h[id]?=some (.di es r l)) :
  ∃r arr clk,v=.map (some r)/\ρ[id]?=some (.map (some r))/\w.heap[r]?=some (.map arr clk)/\arr.size=(fz es).length/\ord arr clk/\∀(i:Nat)(e:MapEntry)(x:V×V),arr[i]?=some e->(fz es)[i]?=some x->dM G w ρ e.key x.1/\dM G w ρ e.val x.2:=by
 cases y with|o y=>cases y with|c y=>cases y with|k y=>cases y with|mp _ r b =>
 have⟨⟨r',arr,clk,e,d,f,g,j⟩,_⟩:=z.ok.hr.rep id _ _ b u
 grind
theorem CG{v:Value}{x:V}(y:au G w ρ v x)(hs:De x=true):dM G w ρ v x:=by
 cases y with
 |o h=>exact h
 |tu=>cases hs
theorem GQ{ks:List Nat}{v:Value}{x:V}(y:au G w ρ v x)(hs:lP ks x=true):dM G w ρ v x:=by
 rcases l_ hs with⟨_,_,_,_,rfl,_⟩|⟨_,_,rfl⟩|⟨_,_,rfl⟩<;>exact .c (.k (.d y.qu))
theorem MB(k:Nat):eZ (KM k)=[]:=by
 match k with
 |0=>rfl
 |1=>rfl
 |_+2=>rfl
theorem G_(k:Nat):gh (KM k)=[]:=by
 match k with
 |0=>rfl
 |1=>rfl
 |_+2=>rfl
theorem C1(k:Nat){m:Nat}(y:w.heap[m]?=some (.map #[] 0)):cY G w ρ (.map (some m)) (KM k):=by
 have u:mQ G w ρ (.map (some m)) []:=⟨m,#[],0,rfl,y,rfl,⟨by simp,by simp⟩,by simp⟩
 match k with
 |0=>exact u
 |1=>exact u
 |z+2=>exact⟨⟨m,#[],0,rfl,y,rfl,⟨by simp,by simp⟩,⟨λi j k d rs c b h=>by grind,by simp[BM]⟩,λi e x h=>by grind,(λi v h=>by cases h),λi v e h=>by simp⟩,trivial⟩
theorem TG(y:ak E n G ρ t h a w)(u:iQ E n a o K bV){ty:TypeId}{pl:Nat}(v:o.op=.makeMap ty none)(z:bq S ow (.mm pl) t h K KP):o.wp P a w bV Q:=by
 simp only[bq,bf,cZ]at z;have x:=y.push (gK.alloc w (.map #[] 0)) (.map (some w.heap.size)) (KM pl) (by intro b c;simp only[fO,aE]at c;omega) (C1 pl (heap_alloc_new w _)) (G_ pl);refine dU (v':=.map (some w.heap.size)) ?_ (u _ _ _ _ _ _ _ x (.k (.mp h.length _ (by rw[<-y.ok.hr.len];simp))) z);simp only[execOp,v];rfl
theorem TH(hC:ak E n G ρ t h a w)(hn:iQ E n a o K bV){ty kt e t1 t2:TypeId}{x k:Operand}{ox ok':O}{ks:List Nat}{zv:V}{ok:Bool}(ho:o.op=.lookup ty x k ok)(hu:P.underlying ty=some (.map kt e))(hx:cX P t1 x=some ox)(hkk:cX P t2 k=some ok')
  (hks:xh P kt=some ks) (hz:zk P e=some zv) (hk:bq S ow (.ml ox ok' ks zv ok) t h K KP):o.wp P a w bV Q:=by
 have hvx:=bG hC hx;have hvk:=bG hC hkk;have⟨z,hz1,hz2,_⟩:=vu (P:=P) (G:=G) (w:=w) (ρ := ρ) hz;have tup:∀(v:Value)(y:V)(b:Bool),dM G w ρ v y->au G w ρ (if ok then .tuple #[v,.bool b]else v) (bif ok then .tu [y,.d (.bool b)]else y):=by
  intro v y b hv;cases ok
  .exact .o hv
  .refine .tu #[v,.bool b] _ rfl (λi x hx=>?_)
   match i,hx with
   |0,hx=>simp_all
   |1,hx=>cases hx;exact .c (.k (.d (.bool b)))
 have key:∀(id:Nat)(es:List (V×V)),(∃r arr clk,a.eval x=.map (some r)/\ρ[id]?=some (.map (some r))/\w.heap[r]?=some (.map arr clk)/\arr.size=es.length/\ord arr clk/\∀(i:Nat)(e:MapEntry)(x:V×V),arr[i]?=some e->es[i]?=some x->dM G w ρ e.key x.1/\dM G w ρ e.val x.2) ->
   (lP ks (gv t ok')=true∧∃r,qI ks (gv t ok').cs es 0=some r∧(match r with
    |some (_,v)=>(De v=true)/\K (bif ok then .tu [v,.d (.bool true)]else v) t h
    |none=>K (bif ok then .tu [zv,.d (.bool false)]else zv) t h))->o.wp P a w bV Q:=by
  intro id es hval hk;have⟨hkb,r,hf,hk⟩:=hk;have⟨m,arr,clk,he,hρ,hb,hsz,_,hr⟩:=hval;have⟨d,hd,hik⟩:=xC hks hkb hvk;have hf':=BQ hks hd hvk hkb es arr.toList 0 r (by grind) (λj e x h1 h2=>hr j e x (by grind) h2) hf;cases r with
  |none=>
   refine an hC hn (v':=if ok then .tuple #[z,.bool false]else z) ?_ (tup z zv false hz2) hk;simp only[execOp,ho];refine cT ?_;simp[Instr.lookup,run_underlying hu,he,MapKept.run_getObj_map hb,MapKept.run_checkKey hd hik,MapKept.run_findKey hd hf',hz1]
  |some p=>
   have⟨i,y⟩:=p;obtain⟨m',e',x',rfl,h1,h2,rfl,h4,h5⟩:=hf';have hv:=(hr m' e' x' (by grind) h2).2;refine an hC hn (v':=if ok then .tuple #[e'.val,.bool true]else e'.val) ?_ (tup e'.val x'.2 true hv) hk.2;simp only[execOp,ho];refine cT ?_;simp[Instr.lookup,run_underlying hu,he,MapKept.run_getObj_map hb,MapKept.run_checkKey hd hik,MapKept.run_findKey hd h5]
 simp only[bq]at hk;split at hk
 .rename_i id hg;rw[hg]at hvx;rw[get?_eq]at hk;split at hk
  .rename_i es hes;exact key id es (tH hC hvx hes) hk
  .rename_i es hes;exact key id _ (uF hC hvx hes) hk
  .rename_i es r l hes;exact key id _ (JW hC hvx hes) hk
  .rename_i z es out it hes;exact Gi hC hn ho hu hvx hkk hks hz hk.1 hk.2
  grind
 .rename_i hg;rw[hg]at hvx;have he:a.eval x=.map none:=Gt hvx.qu;have⟨hkb,hk⟩:=hk;have⟨d,hd,hik⟩:=xC hks hkb hvk;refine an hC hn (v':=if ok then .tuple #[z,.bool false]else z) ?_ (tup z zv false hz2) hk;simp only[execOp,ho];refine cT ?_;simp[Instr.lookup,run_underlying hu,he,MapKept.run_checkKey hd hik,MapKept.run_findKey (l:=[]) (a:=none) hd rfl,hz1]
 grind
theorem ak.PV(c:ak E n G ρ t h a w){id r:Nat}{x0 x1:B}{es':List (V×V)}{arr arr':Array MapEntry}{clk clk':Nat}(d:ρ[id]?=some (.map (some r)))(f:h[id]?=some x0)(g:x0≠.no)(y:∀(G:Nat->Prop)(w:World)(ρ:List Value)(hd:Value),mQ G w ρ hd es'->cY G w ρ hd x1)(m:w.heap[r]?=some (.map arr clk))(hs:arr'.size=es'.length)(p:ord arr' clk')
  (hr:∀(i:Nat)(e:MapEntry)(x:V×V),arr'[i]?=some e->es'[i]?=some x->dM G w ρ e.key x.1/\dM G w ρ e.val x.2) (hgx:gh x1=[]:=by rfl) :
  ak E n G ρ t (h.set id x1) a {w with heap:=w.heap.setIfInBounds r (.map arr' clk')}:=by
 have z:=MapKept.heap_set (o':=.map arr' clk') m;have j:∀b,G b->(w.heap.setIfInBounds r (.map arr' clk'))[b]?=w.heap[b]?:=λb u=>z.2 b (λe=>c.ok.hr.gd b u ⟨id,_,_,d,f,g,by rw[e];exact bR.2 (.inl rfl)⟩);refine c.F3 (w':={w with heap:=w.heap.setIfInBounds r (.map arr' clk')}) d f g (by simp) (λb v=>z.2 b (λe=>v (by rw[e];rfl))) rfl rfl rfl ?_ hgx;exact y _ _ _ _ ⟨r,arr',clk',rfl,z.1,hs,p,λi e x k l=>⟨(hr i e x k l).1.mono (λ_ h=>h) j (λ_ _=>rfl),(hr i e x k l).2.mono (λ_ h=>h) j (λ_ _=>rfl)⟩⟩
theorem CZ{G1:Nat->Prop}{ρ1:List Value}{t1:T}{h1:H}(hC:ak E n G1 ρ1 t1 h1 a w)(hn:iQ E n a o K bV){ty kt e:TypeId}{x k v:Operand}{ks:List Nat}{kx vx:V}{id:Nat}{es:List (V×V)}{x0 x1:B}(ho:o.op=.mapUpdate ty x k v\/o.op=.insert ty x k v)(hu:P.underlying ty=some (.map kt e))
  (hks:xh P kt=some ks) (hvk:au G1 w ρ1 (a.eval k) kx) (hkb:lP ks kx=true) (hvv1:dM G1 w ρ1 (a.eval v) vx) (hx:h1[id]?=some x0) (hn0:x0≠.no)
  (hval:∃r arr clk,a.eval x=.map (some r)/\ρ1[id]?=some (.map (some r))/\w.heap[r]?=some (.map arr clk)/\arr.size=es.length/\ord arr clk/\∀(i:Nat)(e:MapEntry)(x:V×V),arr[i]?=some e->es[i]?=some x->dM G1 w ρ1 e.key x.1/\dM G1 w ρ1 e.val x.2)
  {r:Option (Nat×V)} (hf:qI ks kx.cs es 0=some r) (hx1:∀(G:Nat→Prop) (w:World) (ρ:List Value) (hd:Value),mQ G w ρ hd (match r with
   |some (i,_)=>es.set i (kx,vx)
   |none=>es++[(kx,vx)])->cY G w ρ hd x1) (hk:K .ud t1 (h1.set id x1)) (hgx:gh x1=[]:=by rfl):o.wp P a w bV Q:=by
 have hexec:∀w',(Instr.mapUpdate ty (a.eval x) (a.eval k) (a.eval v)).run P w=.ok () w'->(execOp a.eval o).run P w=.ok .skip w':=by
  intro w' hw;rcases ho with ho|ho<;>simp[execOp,ho,hw]
 have⟨m,arr,clk,he,hρ,hb,hsz,hor,hr⟩:=hval;have⟨d,hd,hik⟩:=xC hks hkb hvk;have hf':=BQ hks hd hvk hkb es arr.toList 0 r (by grind) (λj e x h1 h2=>hr j e x (by grind) h2) hf;have hvk1:=GQ hvk hkb;cases r with
 |none=>
  have hC2:=hC.PV (es':=es++[(kx,vx)]) (arr':=arr.push {key:=a.eval k,val:=a.eval v,born:=clk}) (clk':=clk+1) hρ hx hn0 hx1 hb (by grind) (yQ rfl hor) (hgx:=hgx) (λi e' x' h1 h2=>by
   grind)
  refine jZ (hexec _ ?_) (hn _ _ _ _ _ _ _ hC2 (.k .ud) hk);simp[Instr.mapUpdate,run_underlying hu,he,MapKept.run_getObj_map hb,MapKept.run_checkKey hd hik,MapKept.run_findKey hd hf',MapKept.run_setObj_map _ hb]
 |some p=>
  have⟨i,y⟩:=p;obtain⟨m',e',x',rfl,h1,h2,rfl,h4,h5⟩:=hf';have h1':arr[m']?=some e':=by grind
  have hm':m'<arr.size:=(aQ.1 h1').1;have hC2:=hC.PV (es':=es.set (0+m') (kx,vx)) (arr':=arr.modify (0+m') λe=>{e with key:=a.eval k,val:=a.eval v}) (clk':=clk) hρ hx hn0 hx1 hb (by grind) (s_ (λ_=>rfl) hor) (hgx:=hgx) (λi e'' x'' h1 h2=>by
   grind)
  refine jZ (hexec _ ?_) (hn _ _ _ _ _ _ _ hC2 (.k .ud) hk);have hae:(arr[0+m']?.map (·.key)).getD (a.eval k)=a.eval k:=by grind
  simp[Instr.mapUpdate,run_underlying hu,he,MapKept.run_getObj_map hb,MapKept.run_checkKey hd hik,MapKept.run_findKey hd h5];simp only[cF]at hae;simp[hae,MapKept.run_keyThatStays hik,MapKept.run_setObj_map _ hb]
theorem qQ{v:Value}{x:V}(h:au G w ρ v x)(y:fA x=true)(u:uI x=true):dL G w ρ v x/\v.cells=#[v]:=by
 cases h with
 |o h=>cases h with
  |c h=>cases h with
   |k h=>
    refine⟨h,?_⟩;cases h with
    |un=>cases y
    |ud=>rfl
    |d h=>exact h.cells
    |ov id z i v a n c _ h=>subst h;rfl
    |_=>rfl
   |fc=>cases u
  |ag=>cases y
 |tu=>cases y
theorem N8 (hC:ak E n G ρ t h a w) (hn:iQ E n a o K bV) {ty kt e t1 t2 t3:TypeId} {x k v:Operand} {ox ok' ov:O} {ks:List Nat} (ho:o.op = .mapUpdate ty x k v∨o.op = .insert ty x k v) (hu:P.underlying ty=some (.map kt e)) (hx:cX P t1 x=some ox) (hkk:cX P t2 k=some ok') (hv:cX P t3 v=some ov)
    (hks:xh P kt=some ks) (hk:bq S ow (.mu ox ok' ov ks) t h K KP):o.wp P a w bV Q:=by
  have hvx:=bG hC hx
  have hvk:=bG hC hkk
  have hvv:=bG hC hv
  simp only[bq,bf]at hk
  split at hk
  · rename_i id hg
    rw[hg]at hvx
    rw[get?_eq]at hk
    split at hk
    · rename_i es hes
      have⟨⟨hst,hkb⟩,r,hf,hk⟩:=hk
      cases r with
      |none=>exact CZ (x1:=.mp (es++[(gv t ok',gv t ov)])) hC hn ho hu hks hvk hkb (CG hvv hst) hes (by simp) (tH hC hvx hes) hf (λ_ _ _ _ h=>h) hk
      |some q=>exact CZ (x1:=.mp (es.set q.1 (gv t ok',gv t ov))) hC hn ho hu hks hvk hkb (CG hvv hst) hes (by simp) (tH hC hvx hes) hf (λ_ _ _ _ h=>h) hk
    · rename_i es0 hes
      split at hk
      · rename_i kd hgk
        have⟨⟨hst,hkb⟩,hk⟩:=hk
        simp only[aP,cI]at hst
        have⟨hst,hsc⟩:=hst
        have⟨c1,c2⟩:=jE hvv hst
        have⟨G',t',h',ds,hC1,hG',hdl,hds,hk⟩:=BO (gv t ov).cs G t h (λi=>(a.eval v).cells.getD i undef) hC c2 hk
        rw[get?_eq]at hk
        split at hk
        · rename_i es hes'
          have⟨r,hf,hk⟩:=hk
          rw[hgk]at hvk
          have hvk':au G' w ρ (a.eval k) (.d kd):=.d (hvk.qu.mono hG' (λ_ _=>rfl))
          have hvx':au G' w ρ (a.eval x) (.mp id):=hvx.mono hG' (λ_ _=>rfl) (λ_ _=>rfl)
          have hvv1:dM G' w ρ (a.eval v) (NM ((gv t ov).oJ,ds)):=by
            cases hag:(gv t ov).oJ with
            |true=>
              cases hgv:gv t ov with
              |ag cs=>
                rw[hgv]at hvv
                have⟨cs',h1,h2,h3⟩:=hvv.R9
                rw[h1]at hds⊢
                refine .ag cs' _ (by rw[hgv]at hdl;simp[h2,hdl,V.cs]) (λi y hy=>?_)
                rw[aB]at hy
                cases hd:ds[i]? with
                |none=>rw[hd]at hy;cases hy
                |some d=>
                  rw[hd]at hy;cases hy
                  exact .k (.d (hds i d hd))
              |_=>rw[hgv]at hag;cases hag
            |false=>
              have hca:uI (gv t ov)=true:=hsc.resolve_left (by rw[hag];simp)
              have hcs:(gv t ov).cs=[gv t ov]:=by cases hgv:gv t ov<;>rw[hgv]at hag<;>first|rfl|cases hag
              have hs1:fA (gv t ov)=true:=by rw[hcs]at hst;simpa using hst
              have⟨_,hcell⟩:=qQ hvv hs1 hca
              rw[hcs]at hdl
              match ds,hdl with
              |[d],_=>
                have:=hds 0 d rfl
                rw[hcell]at this
                exact .c (.k (.d this))
          cases r with
          |none=>exact CZ (x1:=.dm (es++[(kd,(gv t ov).oJ,ds)])) hC1 hn ho hu hks hvk' hkb hvv1 hes' (by simp) (uF hC1 hvx' hes') hf (λG w ρ hd hM=>by
              show mQ G w ρ hd (fz (es++[(kd,(gv t ov).oJ,ds)]))
              have e:fz (es++[(kd,(gv t ov).oJ,ds)])=fz es++[(.d kd,NM ((gv t ov).oJ,ds))]:=by simp[fz]
              rw[e]
              exact hM) hk
          |some q=>exact CZ (x1:=.dm (es.set q.1 (kd,(gv t ov).oJ,ds))) hC1 hn ho hu hks hvk' hkb hvv1 hes' (by simp) (uF hC1 hvx' hes') hf (λG w ρ hd hM=>by
              show mQ G w ρ hd (fz (es.set q.1 (kd,(gv t ov).oJ,ds)))
              have e:fz (es.set q.1 (kd,(gv t ov).oJ,ds))=(fz es).set q.1 (.d kd,NM ((gv t ov).oJ,ds)):=by simp[fz]
              rw[e]
              exact hM) hk
        · exact hk.elim
      · exact hk.elim
    · rename_i z es out it hes
      exact Gh hC hn ho hu hvx hkk hv hks hes hk
    · exact hk.elim
  · exact hk.elim
theorem vg{α β:Type}(f:α->β):∀(l:List α)(i:Nat),(l.eraseIdx i).map f=(l.map f).eraseIdx i
 |[],_=>rfl
 |_::_,0=>rfl
 |x::l,i+1=>by simp[vg f l i]
theorem TJ(hC:ak E n G ρ t h a w)(hn:iQ E n a o K bV){ty kt e ty2 t1 t2:TypeId}{x k:Operand}{ox ok':O}{ks:List Nat}(ho:o.op=.call {callee:=.builtin .delete,args:= #[x,k],argTypes:= #[ty,ty2]})(hu:P.underlying ty=some (.map kt e))(hx:cX P t1 x=some ox)(hkk:cX P t2 k=some ok')
  (hks:xh P kt=some ks) (hk:bq S ow (.md ox ok' ks) t h K KP):o.wp P a w bV Q:=by
 have hvx:=bG hC hx;have hvk:=bG hC hkk;have hexec:∀w',(Builtin.delete_ #[ty,ty2] o.type #[a.eval x,a.eval k]).run P w=.ok (.tuple #[]) w'->(execOp a.eval o).run P w=.ok (.value (.tuple #[])) w':=by
  intro w' hw;simp[execOp,ho,resolve,invoke,builtin,hw]
 have key:∀(id:Nat)(x0:B)(x1:Nat->B)(es:List (V×V)),h[id]?=some x0->x0≠.no->(∀(i:Nat)(G:Nat->Prop)(w:World)(ρ:List Value)(hd:Value),mQ G w ρ hd (es.eraseIdx i)->cY G w ρ hd (x1 i))->(∀i,gh (x1 i)=[])->(∃r arr clk,a.eval x=.map (some r)/\ρ[id]?=some (.map (some r))/\w.heap[r]?=some (.map arr clk)/\arr.size=es.length/\ord arr clk/\∀(i:Nat)(e:MapEntry)(x:V×V),arr[i]?=some e->es[i]?=some x->dM G w ρ e.key x.1/\dM G w ρ e.val x.2) ->
   (lP ks (gv t ok')=true∧∃r,qI ks (gv t ok').cs es 0=some r∧(match r with
    |some (i,_)=>K (.tu []) t (h.set id (x1 i))
    |none=>K (.tu []) t h))->o.wp P a w bV Q:=by
  intro id x0 x1 es hes hn0 hx1 hgx hval hk;have⟨hkb,r,hf,hk⟩:=hk;have⟨m,arr,clk,he,hρ,hb,hsz,hor,hr⟩:=hval;have⟨d,hd,hik⟩:=xC hks hkb hvk;have hf':=BQ hks hd hvk hkb es arr.toList 0 r (by grind) (λj e x h1 h2=>hr j e x (by grind) h2) hf;cases r with
  |none=>
   refine an hC hn (v':=.tuple #[]) (hexec _ ?_) (.tu #[] [] rfl (by simp)) hk;have hset:w.heap.setIfInBounds m (.map arr clk)=w.heap:=by
    grind
   simp[Builtin.delete_,run_underlying hu,he,MapKept.run_getObj_map hb,MapKept.run_checkKey hd hik,MapKept.run_findKey hd hf',MapKept.run_setObj_map _ hb,hset]
  |some p=>
   have⟨i,y⟩:=p;obtain⟨m',e',x',rfl,h1,h2,rfl,h4,h5⟩:=hf';have h1':arr[m']?=some e':=by grind
   have hm':m'<arr.size:=(aQ.1 h1').1;have hC2:=hC.PV (es':=es.eraseIdx (0+m')) (arr':=arr.eraseIdxIfInBounds (0+m')) (clk':=clk) hρ hes hn0 (hx1 _) hb (hgx:=hgx _) (by
     grind) (vP hor) (λi e'' x'' h1 h2=>by
    grind)
   refine dU (hexec _ ?_) (hn _ _ _ _ _ _ _ hC2 (.tu #[] [] rfl (by simp)) hk);simp[Builtin.delete_,run_underlying hu,he,MapKept.run_getObj_map hb,MapKept.run_checkKey hd hik,MapKept.run_findKey hd h5,MapKept.run_setObj_map _ hb]
 simp only[bq,bf]at hk;split at hk
 .rename_i id hg;rw[hg]at hvx;rw[get?_eq]at hk;split at hk
  .rename_i es hes;exact key id _ (λi=>.mp (es.eraseIdx i)) es hes (by simp) (λ_ _ _ _ _ h=>h) (λ_=>rfl) (tH hC hvx hes) hk
  .rename_i es hes;exact key id _ (λi=>.dm (es.eraseIdx i)) _ hes (by simp) (λi G w ρ hd hM=>by
    show mQ G w ρ hd (fz (es.eraseIdx i));have e:fz (es.eraseIdx i)=(fz es).eraseIdx i:=vg _ es i
    grind) (λ_=>rfl) (uF hC hvx hes) hk
  .rename_i z es hes;exact Gj hC hn ho hu hvx hkk hks hes hk
  grind
 grind
theorem TM(b:ak E n G ρ t h a w)(i:iQ E n a o K bV){ty s e t1:TypeId}{x:Operand}{ox:O}(j:o.op=.call {callee:=.builtin .len,args:= #[x],argTypes:= #[ty]})(k:P.underlying ty=some (.map s e))(A:cX P t1 x=some ox)
  (c:bq S ow (.lm ox) t h K KP):o.wp P a w bV Q:=by
 have u:=bG b A;simp only[bq]at c;split at c
 .rename_i id p;rw[p]at u;rw[get?_eq]at c;split at c
  .rename_i es v;have⟨m,arr,clk,he,q,f,y,g,hr⟩:=tH b u v;refine an b i (v':=.int .i64 es.length) ?_ (.d (.int _ _)) c;simp[execOp,j,resolve,invoke,builtin,Builtin.len_,run_underlying k,he,MapKept.run_getObj_map f,goInt,y]
  .rename_i es v;have⟨m,arr,clk,he,q,f,y,g,hr⟩:=uF b u v;have y:arr.size=es.length:=by rw[y];simp[fz]
   refine an b i (v':=.int .i64 es.length) ?_ (.d (.int _ _)) c;simp[execOp,j,resolve,invoke,builtin,Builtin.len_,run_underlying k,he,MapKept.run_getObj_map f,goInt,y]
  .rename_i es r l v;have⟨m,arr,clk,he,q,f,y,g,hr⟩:=JW b u v;have y:arr.size=es.length:=by rw[y];simp[fz]
   refine an b i (v':=.int .i64 es.length) ?_ (.d (.int _ _)) c;simp[execOp,j,resolve,invoke,builtin,Builtin.len_,run_underlying k,he,MapKept.run_getObj_map f,goInt,y]
  .rename_i z es out it v;have⟨m,arr,clk,he,q,f,y,g,hr⟩:=wo b u v;refine an b i (v':=.int .i64 es.length) ?_ (.d (.int _ _)) c;simp[execOp,j,resolve,invoke,builtin,Builtin.len_,run_underlying k,he,MapKept.run_getObj_map f,goInt,y]
  grind
 .rename_i p;rw[p]at u;have he:a.eval x=.map none:=Gt u.qu;refine an b i (v':=.int .i64 0) ?_ (.d (.int _ _)) c;simp[execOp,j,resolve,invoke,builtin,Builtin.len_,run_underlying k,he,goInt]
 grind
theorem TQ(l:ak E n G ρ t h a w)(I:iQ E n a o K bV){ty e t1 t2:TypeId}{m:Nat}{x i:Operand}{ox J:O}(M:o.op=.indexAddr ty x i)(N:P.underlying ty=some (.array m e))(r:P.cellsOf e≠0)(R:cX P t1 x=some ox)(W:cX P t2 i=some J)
  (z:bq S ow (.ja ox J (P.cellsOf e) m) t h K KP):o.wp P a w bV Q:=by
 have u:=bG l R;have c:=bG l W;have v:∀(b off:Nat)(k:IntKind)(j:Int),a.eval x=.pointer (some ⟨b,off,none⟩)->a.eval i=.int k j->0<=j->j<m ->
   (execOp a.eval o).run P w=.ok (.value (.pointer (some ⟨b,off+j.toNat*P.cellsOf e,none⟩))) w:=by
  intro b off k j X Y Z h4;unfold Program.cellsOf at r⊢;cases s:P.info? e with
  |none=>grind
  |some ie=>
   simp[execOp,M,X,Y,Instr.indexAt,asIntOf,run_underlying N,Z,h4,sizeOf,typeInfo,s,dx,Instr.sureAddr]
 simp only[bq,cZ]at z;split at z
 .rename_i k j A;rw[A]at c;have d:=c.int;split at z
  .rename_i row off B;rw[B]at u;have⟨b,oo,U,C,F,hU,hD⟩:=u.el;have⟨sub,⟨h0,hs,f⟩,z⟩:=z;have f:=bA f;have hj:j.toNat<m:=by
    have:=(aC.1 hs).1;rwa[ir]at this
   rw[qe _ _ _ _ hj]at hs;cases hs;refine an l I (v b (oo+off) k j C d h0 (by omega)) ?_ z;have g:∀(q:Nat)(y:D),((List.drop (j.toNat*P.cellsOf e) (List.drop off row)).take (P.cellsOf e))[q]?=some y->row[off+j.toNat*P.cellsOf e+q]?=some y:=by
    grind
   have:=dL.e (ρ := ρ) b (oo+off+j.toNat*P.cellsOf e) 0 _ (λq=>U (off+j.toNat*P.cellsOf e+q)) F (λq y L=>by
     grind) (λq y L=>hD _ _ (g q y L))
   exact .k this
  .rename_i id off B;rw[B]at u;have⟨b,C,hρ⟩:=u.pt;exact an l I (v b off k j C d z.1.1 z.1.2) (.k (.p id _ b hρ)) z.2
  grind
 grind
end
end Go.Vx
namespace Go.Vx
section
variable{P:Program}{E:gL}{n:Nat}{G:Nat->Prop}{ρ:List Value}{t:T}{h:H}{a:Act}{w:World}{o:Oper}{bV:Act->World->Prop}{Q:Exit->Act->World->Prop}{K KP:V->T->H->Prop}
variable(S:Nat->List V->H->(Out->H->Prop)->Prop)(ow:Nat->Bool)
theorem tB(u:ak E n G ρ t h a w)(b:iQ E n a o K bV){f:PU}{ox:O}{x:Operand}{t1:TypeId}(c:cX P t1 x=some ox)
  (y:∀v,pu f (gv t ox)=some v->∃v',(execOp a.eval o).run P w=.ok (.value v') w/\au G w ρ v' v) (z:bq S ow (.pu f ox) t h K KP):o.wp P a w bV Q:=by
 have _:=c;simp only[bq]at z;split at z
 .rename_i v d;have⟨v',e,g⟩:=y v d;exact an u b e g z
 grind
theorem Sj(r:ak E n G ρ t h a w){ty t1:TypeId}{ag:Bool}{x:Operand}{ox:O}(s:o.op=.makeInterface ty x)(A:∀ms,P.underlying ty≠some (.interface ms)){u:TypeDesc}(B:P.underlying ty=some u)(e:LT.lt (α :=Nat) ty 1000000)(C:cX P t1 x=some ox) :
  ∀v,pu (if ag then .Vl (ty+2000000)else .mi (ty+3000000)) (gv t ox)=some v->∃v',(execOp a.eval o).run P w=.ok (.value v') w/\au G w ρ v' v:=by
 intro v z;have d:=bG r C;have f:(execOp a.eval o).run P w=.ok (.value (.iface ty (a.eval x))) w:=by
  simp only[execOp,s];refine cT ?_;simp only[Instr.makeInterface,Sem.run_bind,run_underlying B,Result.andThen_ok];simp_all
 refine⟨_,f,?_⟩;cases ag
 .simp only[cj,ψ]at z;simp only[pu]at z;cases b:(fA (gv t ox)&&uI (gv t ox)) with
  |false=>grind
  |true=>
   rw[b]at z;simp only[δ,aE]at z;subst z;simp only[aP]at b;have⟨m,l⟩:=qQ d b.1 b.2;refine .c (.fc _ _ #[a.eval x] _ (.inr ⟨by simp,.inr (.inr ⟨ty,a.eval x,rfl,e,rfl,l,rfl⟩)⟩) rfl (λi y g=>?_))
   match i,g with
   |0,g=>simp_all
 .simp only[if_true]at z;cases p:gv t ox with
  |ag cs=>
   rw[p]at z d;simp only[pu]at z;cases b:(!cs.isEmpty&&(cs.all fA&&cs.all uI)) with
   |false=>grind
   |true=>
    rw[b]at z;simp only[δ,aE]at z;subst z;simp only[aP,dF,aS]at b;have⟨j,m,l,D⟩:=d.R9;rw[m];have k:0<j.size:=by
     grind
    refine .c (.fc _ _ j _ (.inr ⟨k,.inr (.inl ⟨ty,rfl,e,rfl⟩)⟩) l (λi y g=>?_));have q:=aJ g;have F:=D i y g;exact(qQ (.c F) (b.2.1 y q) (b.2.2 y q)).1
  |_=>rw[p]at z;cases z
theorem uA{F:Nat}{v:Value}{cs:Array Value}(h:JJ F v cs)(z:2000000<=F):(F<3000000/\v=.iface (F-2000000) (.agg cs)/\0<cs.size)\/(3000000<=F/\∃x,v=.iface (F-3000000) x/\cs=#[x]):=by
 rcases h with⟨h,_⟩|⟨h,⟨f,rfl,y,_⟩|⟨f,rfl,y,rfl⟩|⟨f,x,rfl,y,rfl,_,rfl⟩⟩
 grind
 grind
 grind
 grind
theorem Si(Z:ak E n G ρ t h a w){xt ty t1:TypeId}{ag ok:Bool}{X:V}{x:Operand}{ox:O}(Y:o.op=.typeAssert x xt ty ok)(hni:∀ms,P.underlying ty≠some (.interface ms)){u:TypeDesc}(s:P.underlying ty=some u)(hty:LT.lt (α :=Nat) ty 1000000)(hz:zk P ty=some X)
  (p:cX P t1 x=some ox):∀v,pu (.ta ty ag X ok) (gv t ox)=some v->∃v',(execOp a.eval o).run P w=.ok (.value v') w/\au G w ρ v' v:=by
 intro v f;have j:=bG Z p;obtain⟨z,A,B,_⟩:=vu (P:=P) (G:=G) (w:=w) (ρ := ρ) hz;have C:∀(v:Value)(y:V)(b:Bool),dM G w ρ v y->au G w ρ (.tuple #[v,.bool b]) (.tu [y,.d (.bool b)]):=by
  intro v y b f;refine .tu #[v,.bool b] _ rfl (λi x p=>?_)
  match i,p with
  |0,p=>simp_all
  |1,p=>cases p;exact .c (.k (.d (.bool b)))
 have hold:∀(c:Value),a.eval x=.iface ty c->(execOp a.eval o).run P w=.ok (.value (if ok then .tuple #[c,.bool true]else c)) w:=by
  intro c l;simp only[execOp,Y];refine cT ?_;cases u with
  |interface ms=>grind
  |_=>simp[Instr.typeAssert,Sem.run_bind,run_underlying s,l]
 have fail:ok=true->(a.eval x=.nilIface\/∃t' c,a.eval x=.iface t' c/\t'≠ty)->(execOp a.eval o).run P w=.ok (.value (.tuple #[z,.bool false])) w:=by
  intro D l;subst D;simp only[execOp,Y];refine cT ?_;have q:(zeroValue ty).run P w=.ok z w:=A;cases u with
  |interface ms=>grind
  |_=>
   rcases l with l|⟨t',c,l,I⟩
   .simp[Instr.typeAssert,Sem.run_bind,run_underlying s,l,q]
   .simp[Instr.typeAssert,Sem.run_bind,run_underlying s,l,q,I]
 cases J:gv t ox with
 |fc F caps=>
  rw[J]at f j;obtain⟨cs,m,L,hr⟩:=j.Nv;simp only[pu]at f;cases M:Nat.beq F (bif ag then ty+2000000 else ty+3000000) with
  |true=>
   rw[M]at f;have r:=kH M;simp only[δ]at f;cases ag with
   |true=>
    simp only[δ]at r;simp only[aE]at f;subst f;rcases uA m (by omega)with⟨_,f,_⟩|⟨N,_⟩
    .rw[show F-2000000=ty by omega]at f;refine⟨_,hold _ f,?_⟩;have g:dM G w ρ (.agg cs) (.ag caps):=.ag cs caps L λi y hy=>.k (hr i y hy);cases ok
     .exact .o g
     grind
    grind
   |false=>
    simp only[ε]at r;cases caps with
    |nil=>grind
    |cons y ys=>
     simp only[aE]at f;subst f;rcases uA m (by omega)with⟨N,_⟩|⟨_,c,f,rfl⟩
     grind
     .rw[show F-3000000=ty by omega]at f;refine⟨_,hold _ f,?_⟩;have g:dM G w ρ c y:=.c (.k (hr 0 y rfl));cases ok
      .exact .o g
      grind
  |false=>
   rw[M]at f;simp only[ε]at f;cases R:(ok&&(Nat.ble 2000000 F&&(!(Nat.beq F (ty+2000000))&&!(Nat.beq F (ty+3000000))))) with
   |false=>grind
   |true=>
    rw[R]at f;simp only[δ,aE]at f;subst f;simp only[aP,dF]at R;obtain⟨N,U,h3,h4⟩:=R;have U:=bA U;have h3:F≠ty+2000000:=λe=>by simp_all
    have h4:F≠ty+3000000:=λe=>by simp_all
    refine⟨_,fail N (.inr ?_),C _ _ false B⟩;rcases uA m U with⟨h5,f,_⟩|⟨h5,c,f,_⟩
    grind
    grind
 |d y=>
  rw[J]at f j;cases y with
  |ni=>
   have hi:a.eval x=.nilIface:=by
    have:=j.qu;cases W:a.eval x<;>rw[W]at this<;>first|rfl|(cases this;done)|skip
    all_goals (cases this)
   simp only[pu]at f
   grind
  |_=>cases f
 |_=>rw[J]at f;cases f
theorem N2(p:ak E n G ρ t h a w){ne:Bool}{ty t1 t2:TypeId}{ms}{x:Operand}{ox:O}(j:o.op=.binOp (bif ne then .neq else .eql) ty x (.const .nilIface) t2)(l:P.underlying ty=some (.interface ms))(q:cX P t1 x=some ox) :
  ∀v,pu (.iq ne) (gv t ox)=some v->∃v',(execOp a.eval o).run P w=.ok (.value v') w/\au G w ρ v' v:=by
 intro v z;have u:=bG p q;have s:a.eval (.const .nilIface)=.nilIface:=rfl;have key:∀(f:Value)(r:Bool),a.eval x=f->(f=.nilIface\/∃t c,f=.iface t c)->(∀k,(Op.equalIn (k+1) ty f .nilIface).run P w=.ok r w)->(execOp a.eval o).run P w=.ok (.value (.bool (bif ne then !r else r))) w:=by
  intro f r he b e;have e:(Op.equal ty f .nilIface).run P w=.ok r w:=e 9999;cases ne<;>simp only[δ,ε]at j⊢<;>simp only[execOp,j,he,s]
  .refine cT ?_;rcases b with rfl|⟨t,c,rfl⟩<;>simp[eqGuard,binOp,e]
  .refine cT ?_;rcases b with rfl|⟨t,c,rfl⟩<;>simp[eqGuard,binOp,e]
 cases g:gv t ox with
 |fc F caps=>
  rw[g]at z u;have⟨cs,i,A,hr⟩:=u.Nv;simp only[pu]at z;cases m:Nat.ble 2000000 F with
  |false=>grind
  |true=>
   rw[m]at z;simp only[δ,aE]at z;subst z;have:∃t' c,a.eval x=.iface t' c:=by
    rcases uA i (bA m)with⟨_,z,_⟩|⟨_,c,z,_⟩
    grind
    grind
   have⟨t',c,B⟩:=this;refine⟨_,key _ false B (.inr ⟨_,_,rfl⟩) (λk=>by simp[Op.equalIn,run_underlying l]),?_⟩;cases ne<;>exact .d (.bool _)
 |d y=>
  rw[g]at z u;cases y with
  |ni=>
   have C:a.eval x=.nilIface:=by
    have:=u.qu;cases b:a.eval x<;>rw[b]at this<;>first|rfl|(cases this;done)|skip
    all_goals (cases this)
   simp only[pu,aE]at z;subst z;refine⟨_,key _ true C (.inl rfl) (λk=>by simp[Op.equalIn,run_underlying l]),?_⟩;cases ne<;>exact .d (.bool _)
  |_=>cases z
 |_=>rw[g]at z;cases z
theorem N1(A:ak E n G ρ t h a w){ne:Bool}{ty t1 t2 e:TypeId}{x:Operand}{ox:O}(s:o.op=.binOp (bif ne then .neq else .eql) ty x (.const (.pointer none)) t2)(B:P.underlying ty=some (.pointer e))(C:cX P t1 x=some ox) :
  ∀v,pu (.pq ne) (gv t ox)=some v->∃v',(execOp a.eval o).run P w=.ok (.value v') w/\au G w ρ v' v:=by
 intro v f;have u:=bG A C;have D:a.eval (.const (.pointer none))=.pointer none:=rfl;have key:∀(q:Option Addr),a.eval x=.pointer q->(execOp a.eval o).run P w=.ok (.value (.bool (bif ne then !q.isNone else q.isNone))) w:=by
  intro q he;have m:∀k,(Op.equalIn (k+1) ty (.pointer q) (.pointer none)).run P w=.ok q.isNone w:=λk=>by
   cases q<;>simp[Op.equalIn,run_underlying B]
  have g:(Op.equal ty (.pointer q) (.pointer none)).run P w=.ok q.isNone w:=m 9999;cases ne<;>simp only[δ,ε]at s⊢<;>simp only[execOp,s,he,D]
  .refine cT ?_;simp[eqGuard,binOp,g]
  .refine cT ?_;simp[eqGuard,binOp,g]
 have fin:∀(q:Option Addr),a.eval x=.pointer q->v=.d (.bool (bif ne then !q.isNone else q.isNone))->∃v',(execOp a.eval o).run P w=.ok (.value v') w/\au G w ρ v' v:=λq F I=>⟨_,key q F,by rw[I];exact .d (.bool _)⟩
 generalize a.eval x=J at u fin;cases l:gv t ox with
 |p i o=>
  rw[l]at f u;cases u with|o h=>cases h with|c h=>cases h with|k h=>cases h with|p _ _ b h=>exact fin _ rfl (by cases ne<;>exact(aq f).symm)
 |e r o=>
  rw[l]at f u;cases u with|o h=>cases h with|c h=>cases h with|k h=>cases h with|e b=>exact fin _ rfl (by cases ne<;>exact(aq f).symm)
 |q i z j o=>
  rw[l]at f u;cases u with|o h=>cases h with|c h=>cases h with|k h=>cases h with|q=>exact fin _ rfl (by cases ne<;>exact(aq f).symm)
 |d y=>
  rw[l]at f u;cases y with
  |np=>
   have:=u.qu;cases this;exact fin _ rfl (by cases ne<;>exact(aq f).symm)
  |_=>cases f
 |_=>rw[l]at f;cases f
theorem Sk(D:ak E n G ρ t h a w){ty t1:TypeId}{fs:Array Field}{f:Nat}{fd:Field}{m:Option Nat}{x:Operand}{ox:O}(p:o.op=.field ty x f)(q:P.underlying ty=some (.struct fs))(r:fs[f]?=some fd)(hl:uj P fd.type=some m)(F:cX P t1 x=some ox) :
  ∀v,pu (.fd fd.offset m) (gv t ox)=some v->∃v',(execOp a.eval o).run P w=.ok (.value v') w/\au G w ρ v' v:=by
 intro v z;have e:=bG D F;cases s:gv t ox with
 |ag cs=>
  rw[s]at z e;have⟨u,A,I,hr⟩:=e.R9;have J:=hl;simp only[uj,aI,aD]at hl;have⟨i,L,b,B,l⟩:=hl;cases b with
  |false=>
   simp only[cj,ψ,aE]at l;subst l;simp only[pu]at z;have d:fd.offset<u.size:=by grind
   refine⟨u.getD fd.offset undef,?_,.c (hr _ _ z)⟩;simp only[execOp,p,A];refine cT ?_;simp[Instr.field,run_underlying q,r,asAgg,part,ib B,d]
  |true=>
   simp only[if_true,aE]at l;subst l;simp only[pu]at z;cases g:Nat.beq ((cs.drop fd.offset).take i.size).length i.size with
   |false=>grind
   |true=>
    rw[g]at z;simp only[δ,aE]at z;subst z;have k:=kH g;rw[bC,eJ]at k;refine⟨.agg (u.extract fd.offset (fd.offset+i.size)),?_,.o (.ag _ _ ?_ (λj y C=>?_))⟩
    .simp only[execOp,p,A];refine cT ?_;simp[Instr.field,run_underlying q,r,asAgg,part,ib B,sizeOf,typeInfo,L]
    grind
    .have M:j<i.size:=by
      grind
     rw[ao,ζ M,bF]at C;have:=hr _ y C;have d:fd.offset+j<u.size:=by grind
     rw[aF,aN d]at this;rw[aF,Array.getElem?_extract]
     grind
 |_=>rw[s]at z;cases m<;>cases z
theorem S_(b:ak E n G ρ t h a w)(g:SE E n a KP Q){x:Operand}{ox:O}{t1:TypeId}(i:o.op=.panic x)(j:cX P t1 x=some ox)(u:bq S ow (.pn ox) t h K KP):o.wp P a w bV Q:=by
 have y:=bG b j;simp only[bq]at u;split at u
 .rename_i F cs k;rw[k]at y;have⟨l,v,_,_⟩:=y.Nv;cases d:Nat.ble 2000000 F with
  |false=>grind
  |true=>
   rw[d]at u;have:∃t' c,a.eval x=.iface t' c:=by
    rcases uA v (bA d)with⟨_,m,_⟩|⟨_,c,m,_⟩
    grind
    grind
   have⟨t',c,e⟩:=this;have f:=g _ _ _ _ _ _ _ b y u;unfold Oper.wp;have z:(execOp a.eval o).run P w=.halt (.panic (.iface t' c)) w:=by
    simp only[execOp,i,e];rfl
   rw[z];rw[e]at f;exact f
 grind
theorem TI(hC:ak E n G ρ t h a w)(hn:iQ E n a o K bV){ty e t1 t2:TypeId}{zs:List V}{ds:List D}{i:TypeInfo}{l c:Operand}{ol oc:O}(ho:o.op=.makeSlice ty l c)(hu:P.underlying ty=some (.slice e))(hz:rM P e=some zs)(hd:zs.mapM SB=some ds)(hi:P.info? e=some i)
  (hzl:zs.length=P.cellsOf e) (hl:cX P t1 l=some ol) (hc:cX P t2 c=some oc) (hk:bq S ow (.mk ds (P.cellsOf e) i.bytes ol oc) t h K KP):o.wp P a w bV Q:=by
 have hvl:=bG hC hl;have hvc:=bG hC hc;have⟨i',z,hi',hz1,hzs,_,hzr⟩:=jf (G:=G) (w:=w) (ρ := ρ) hz;rw[hi]at hi';cases hi';simp only[bq,bf,cZ]at hk;split at hk
 .rename_i kl m kc q hgl hgc;rw[hgl]at hvl;rw[hgc]at hvc;have el:=hvl.int;have ec:=hvc.int;have⟨⟨h0,h1,h2,h3⟩,hk⟩:=hk;have hsz:P.cellsOf e=i.size:=by simp[Program.cellsOf,hi]
  have⟨d1,d2⟩:=vU hd;have hrun:=run_make (P:=P) w ty e i z hu hi hz1 kl kc m q h0 h1 (by grind) h3;have hC2:=hC.push (gK.alloc w (.cells (madeCells z.cells (q.toNat*i.size)) e)) (.slice (some ⟨w.heap.size,0,none⟩) m.toNat q.toNat) (.rows (P.cellsOf e) (List.replicate m.toNat ds)) (by intro b hb;simp only[fO,aE]at hb;omega)
   (.inr ⟨w.heap.size,q.toNat,madeCells z.cells (q.toNat*i.size),e,by simp,heap_alloc_new w _,by grind,by simp only [maxLen];omega,by rw [size_madeCells,hsz],λj row hr=>by
    rw[List.getElem?_replicate]at hr;split at hr
    .rename_i hj;cases hr;refine⟨by grind,λk x hx=>?_⟩;have hkl:k<zs.length:=by grind
     have hks:k<i.size:=by grind
     have hzc:z.cells.size=i.size:=by grind
     have hlt:j*i.size+k<q.toNat*i.size:=by
      have:(j+1)*i.size<=q.toNat*i.size:=bB _ (by omega)
      grind
     have hget:(madeCells z.cells (q.toNat*i.size)).getD (j*P.cellsOf e+k) undef=z.cells.getD k undef:=by
      rw[hsz,aF,madeCells,gQ,Array.getElem?_range];rw[ζ hlt,bE,bo,hzc,Nat.mul_comm,Nat.mul_add_mod,dQ hks];simp_all
     rw[hget];have hv:=(hzr k zs[k] (aA hkl)).1;have hdo:=d2 k zs[k] x (aA hkl) hx;have:=JS hv hdo;exact this.mono (λ_ h=>h) (λb hb=>(gK.alloc w _).iE b (hC.ok.hr.gl b hb))
    grind⟩)
  refine dU ?_ (hn _ _ _ _ _ _ _ hC2 (.k (.os h.length (some ⟨w.heap.size,0,none⟩) m.toNat q.toNat (by rw[<-hC.ok.hr.len];simp))) hk);simp only[execOp,ho,el,ec];simp_all
 grind
theorem Qm{d:D}{x:V}(h:Uu d x=true):x=.d d:=by
 unfold Uu at h;split at h
 grind
 .simp only[aP,ξ]at h;rw[xB h.1,h.2]
 grind
theorem T7(hC:ak E n G ρ t h a w)(hn:iQ E n a o K bV){ty:TypeId}{zs:List V}{d:D}{m:Nat}(ho:o.op=.alloc ty)(hz:rM P ty=some zs)(hl:zs.length=m)(hm:m<=1000000)(hd:zs.all (Uu d)=true)
  (hk:K (.q h.length 1 0 0) t (h++[.rows 1 (List.replicate m [d])])):o.wp P a w bV Q:=by
 have⟨i,z,hi,hz1,hzs,_,hzr⟩:=jf (G:=G) (w:=w) (ρ := ρ) hz;have hC2:=hC.push (gK.alloc w (.cells z.cells ty)) (.slice (some ⟨w.heap.size,0,none⟩) m m) (.rows 1 (List.replicate m [d])) (by intro b hb;simp only[fO,aE]at hb;omega)
  (.inr ⟨w.heap.size,m,z.cells,ty,by simp,heap_alloc_new w _,by simp,by simp only [maxLen];omega,by grind,λj row hr=>by
   rw[List.getElem?_replicate]at hr;split at hr
   .rename_i hj;cases hr;refine⟨rfl,λk x hx=>?_⟩;have hk0:k=0:=by
     grind
    subst hk0;simp at hx;subst hx;have hjl:j<zs.length:=by omega
    have hv:=(hzr j zs[j] (aA hjl)).1;rw[Qm (aS.1 hd _ (cP hjl))]at hv;have hv2:bp G w (z.cells.getD j undef) d:=by
     generalize z.cells.getD j undef=u at hv⊢;cases hv;grind
    rw[Nat.mul_one,eQ];exact hv2.mono (λ_ h=>h) (λb hb=>(gK.alloc w _).iE b (hC.ok.hr.gl b hb))
   grind⟩)
 refine dU (v':=.pointer (some ⟨w.heap.size,0,none⟩)) ?_ (hn _ _ _ _ _ _ _ hC2 (.k (.q h.length 1 0 0 w.heap.size m m (by rw[<-hC.ok.hr.len];simp))) hk);simp[execOp,ho,Instr.alloc,zeroValue,typeInfo,hi,hz1,newVar,newRow]
theorem TO(f:ak E n G ρ t h a w)(C:iQ E n a o K bV){ty t1:TypeId}{x:Operand}{ox:O}{m:Nat}(F:o.op=.load ty x)(I:cX P t1 x=some ox)(hl:uj P ty=some (some m))(u:bq S ow (.la ox m) t h K KP):o.wp P a w bV Q:=by
 have p:=bG f I;simp only[bq]at u;split at u
 .rename_i id z i off J;rw[J]at p;have⟨b,nn,c,q,L⟩:=p.ql;rw[get?_eq]at u;split at u
  .rename_i z' rs g;obtain⟨r,ds,⟨rfl,M⟩,u⟩:=u;simp only[aP]at r;have⟨⟨⟨N,R⟩,W⟩,X⟩:=r;obtain rfl:=kH N;obtain rfl:=kH R;obtain rfl:=kH W;obtain rfl:=kH X;rw[Nat.zero_mul,eQ]at q;have e:∀(j:Nat)(d:D),ds[j]?=some d->∃v,w.cell? ⟨b,0+j,none⟩=some v/\bp G w v d:=λj d hj=>by
    have⟨b',Y,arr,ty',s,A,B,Z,h3⟩:=j9 (f.ok.hr.rep id _ _ L g) (i:=j) (row:=[d]) (by grind);simp only[Value.slice.injEq,aE,Addr.mk.injEq,ω]at s;obtain⟨rfl,_,_⟩:=s;have:=h3 0 d rfl
    grind
   refine w_ f C F q hl (U:=λj=>(w.cell? ⟨b,0+j,none⟩).getD undef) (vs:=ds.map .d) (by grind) (λj y l=>?_) u;rw[aB]at l;cases hd:ds[j]? with
   |none=>grind
   |some d=>
    rw[hd]at l;cases l;have⟨v,A,B⟩:=e j d hd;rw[A];exact⟨rfl,.k (.d B)⟩
  grind
 grind
theorem TP(g:ak E n G ρ t h a w)(B:iQ E n a o K bV){ty e t1 t2:TypeId}{m:Nat}{x i:Operand}{ox s:O}(C:o.op=.indexAddr ty x i)(D:P.underlying ty=some (.array m e))(y:P.cellsOf e=1)(F:cX P t1 x=some ox)(I:cX P t2 i=some s)
  (u:bq S ow (.jq ox s m) t h K KP):o.wp P a w bV Q:=by
 have v:=bG g F;have d:=bG g I;have f:∀(b off:Nat)(k:IntKind)(j:Int),a.eval x=.pointer (some ⟨b,off,none⟩)->a.eval i=.int k j->0<=j->j<m ->
   (execOp a.eval o).run P w=.ok (.value (.pointer (some ⟨b,off+j.toNat*P.cellsOf e,none⟩))) w:=by
  intro b off k j l J L M;unfold Program.cellsOf at y⊢;cases p:P.info? e with
  |none=>grind
  |some ie=>
   simp[execOp,C,l,J,Instr.indexAt,asIntOf,run_underlying D,L,M,sizeOf,typeInfo,p,dx,Instr.sureAddr]
 simp only[bq]at u;split at u
 .rename_i id z j off k q hgx r;rw[hgx]at v;rw[r]at d;obtain⟨b,N,c,R,U⟩:=v.ql;obtain⟨A,⟨W,l⟩,u⟩:=u;simp only[aP]at A;obtain⟨⟨X,Y⟩,Z⟩:=A;obtain rfl:=kH X;obtain rfl:=kH Y;obtain rfl:=kH Z;refine an g B (f b _ k q R d.int W l) ?_ u;rw[y];have:=dL.q (G:=G) (w:=w) id 1 q.toNat 0 b N c U;simp only[Nat.zero_mul,cF,eQ]at this⊢;exact .k this
 grind
theorem T6(p:ak E n G ρ t h a w)(C:iQ E n a o K bV){ty e t1 t2:TypeId}{m:Nat}{x i:Operand}{ox B:O}(D:o.op=.index ty x i)(F:P.underlying ty=some (.array m e))(z:kO P e=some false)(y:P.cellsOf e=1)(I:cX P t1 x=some ox)(J:cX P t2 i=some B)
  (b:bq S ow (.ai ox B m) t h K KP):o.wp P a w bV Q:=by
 have c:=bG p I;have f:=bG p J;simp only[bq]at b;split at b
 .rename_i cs k q hgx r;rw[hgx]at c;rw[r]at f;have⟨cv,L,jb,s⟩:=c.R9;have M:=f.int;have⟨v,⟨N,R,U⟩,b⟩:=b;have A:q.toNat<cv.size:=by grind
  have hr:=s _ _ U;have W:bp G w (cv.getD q.toNat undef) v:=by
   generalize cv.getD q.toNat undef=u at hr;cases hr with
   |k h=>cases h;grind
  refine an p C (v':=cv.getD q.toNat undef) ?_ (.d W) b;have g:(isAgg e).run P w=.ok false w:=by
   unfold kO at z;cases j:P.underlying e with
   |none=>grind
   |some u=>
    rw[j]at z;simp only[isAgg,Sem.run_bind,run_underlying j,Result.andThen];cases u<;>simp_all
  unfold Program.cellsOf at y;cases l:P.info? e with
  |none=>grind
  |some X=>
   rw[l]at y;simp at y;simp[execOp,D,L,M,Instr.index,asIntOf,run_underlying F,N,R,sizeOf,typeInfo,l,y,part,g,A]
 grind
theorem Sx(L:ak E n G ρ t h a w)(Z:iQ E n a o K bV){s d e t1:TypeId}{x:Operand}{ox:O}(ho:o.op=.convert s d x)(hs:P.underlying s=some (.slice e))(he:P.underlying e=some (.int .u8))(hd:P.underlying d=some .string)(hx:cX P t1 x=some ox)
  (y:bq S ow (.sb ox) t h K KP):o.wp P a w bV Q:=by
 have f:=Cr (bG L hx);have nil:∀(c:Nat),a.eval x=.slice none 0 c->K (.d (.str [])) t h->o.wp P a w bV Q:=by
  intro c i y;have hr:=bp.str (G:=G) (w:=w) ByteArray.empty (by simp_all);refine an L Z (v':=.string ByteArray.empty) ?_ (.d hr) y;simp only[execOp,ho,i];exact cT (by rw[run_convert_bytes_string w s d e none 0 c hs he hd];rfl)
 have fin:∀(l:List UInt8)(k:Addr)(c:Nat),a.eval x=.slice (some k) l.length c->l.length<=maxLen->(∀j(M:j<l.length),w.cell? (k.add j)=some (.int .u8 (l[j].toNat:Int)))->K (.d (.str l)) t h->o.wp P a w bV Q:=by
  intro l k c i hm N y;have hr:=bp.str (G:=G) (w:=w) ⟨l.toArray⟩ (by assumption);simp only at hr;refine an L Z (v':=.string ⟨l.toArray⟩) ?_ (.d hr) y;simp only[execOp,ho,i];exact cT (run_convert_bytes_back w s d e k c l hs he hd N)
 have W:∀(z:Nat)(l:List UInt8)(v:Value),a.eval x=v->bp G w v (.sl z (l.map λb=>[D.int .u8 b.toNat]))->K (.d (.str l)) t h->o.wp P a w bV Q:=by
  intro z l v i q y;generalize hr:(l.map λb=>[D.int .u8 b.toNat])=r at q;have A:r=[]->l=[]:=λe=>by simp_all
  cases q with
  |xg=>grind
  |sle k=>rw[A rfl]at y hr;exact fin [] k 0 i (by grind) (λj M=>absurd M (by simp)) (by grind)
  |sl b oo B _ _ U R h2 h3 h4 h5 h6=>
   subst hr;rw[aH]at i R;refine fin l ⟨b,oo,none⟩ B i (aV R h2) (λj M=>?_) y;have g:(l.map λb=>[D.int .u8 b.toNat])[j]?=some [D.int .u8 l[j].toNat]:=by grind
   have C:=h4 j _ g;simp only[aX,ah]at C;have N:=h5 j _ 0 _ g rfl;have p:=h6 j _ 0 _ g rfl;rw[<-C]at N;rw[dx,show oo+j=oo+(j*(0+1)+0)by omega,N];generalize U j 0=u at p;cases p;rfl
 simp only[bq]at y;split at y
 .rename_i z r g;rw[g]at f;obtain⟨l,rfl,y⟩:=y;exact W z l _ rfl f.qu y
 .rename_i z r g;rw[g]at f;have⟨k,m,i,q⟩:=f.PA
  grind
 .rename_i id g;rw[g]at f;have⟨k,m,c,i,hρ⟩:=f.QG;rw[get?_eq]at y;split at y
  .rename_i z r hr;obtain⟨l,rfl,y⟩:=y;rcases L.ok.hr.rep id _ _ hρ hr with⟨he,hl⟩|⟨b,B,arr,ty',he,R,F,X,Y,I⟩
   simp_all
   .rw[aH]at he F;cases he;refine fin l ⟨b,0,none⟩ c i (aV F X) (λj M=>?_) y;have g:(l.map λb=>[D.int .u8 b.toNat])[j]?=some [D.int .u8 l[j].toNat]:=by grind
    have⟨C,q⟩:=I j _ g;simp only[aX,ah]at C;have p:=q 0 _ rfl;rw[<-C]at p Y;have J:j<arr.size:=by omega
    rw[dx,dC R];have e1:arr.getD (j*(0+1)+0) undef=arr[j]:=by
     rw[show j*(0+1)+0=j by omega,aF,aN J];rfl
    rw[e1]at p;rw[cF,aN J];generalize arr[j]=u at p;cases p;rfl
  grind
 grind
end
end Go.Vx
