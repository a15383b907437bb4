/- Lemmas. Conditions: none. -/
import Derived.Test.YtjpgfgajkjhonaaGreatDoorQRAM
import Derived.OrdersHeld
namespace Go.Vx
section
variable{P:Program}{E:gL}{n:Nat}{G G':Nat->Prop}{ρ ρ':List Value}{t:T}{h h':H}{a:Act}{w w':World}
def CI(w:World)(b:Nat):Prop:=(∃r,w.heap[b]?=some (.loop r))\/∃ds,w.heap[b]?=some (.deferred ds)
theorem CI.Vi{b:Nat}(h:CI w b)(u:KO w b):False:=by
 have⟨x,y,z,u⟩:=u;rcases h with⟨r,h⟩|⟨r,h⟩<;>rw[u]at h<;>cases h
theorem CI.lt{b:Nat}(h:CI w b):b<w.heap.size:=by
 rcases h with⟨r,h⟩|⟨r,h⟩<;>exact(aQ.1 h).1
theorem cY.Ad{hd:Value}{x:B}{r:Nat}(z:cY G w ρ hd x)(u:x≠.no)(hr:r∈eU hd x)(h:CI w r):False:=by
 rcases h with⟨_,h⟩|⟨_,h⟩<;>rcases z.obj u hr with⟨_,_,y⟩|⟨_,_,y⟩|⟨_,_,_,_,y⟩<;>(rw[h]at y;cases y)
theorem HR.Ad(hr:HR G w ρ h){b:Nat}(y:CI w b):¬own ρ h b:=λ⟨id,v,x,z,u,c,d⟩=>(hr.rep id v x z u).Ad c d y
theorem Ok.ng(x:Ok E G w ρ h){l:Nat}(hl:CI w l)(he:¬E.G l):¬G l:=λy=>(x.go l y).elim he λh=>hl.Vi h.1
theorem Ok.comp{e:List Deferred}{c:List Nat}(x:Ok E G w ρ h)(f:∀r∈E.ms,r∈c)(y:Ok ⟨w,G,ρ,h,e,c⟩ G' w' ρ' h'):Ok E G' w' ρ' h':=by
 refine⟨y.hr,λb u=>y.gm b (x.gm b u),λb u=>?_,λb u=>?_,λb u i=>?_,aV x.size y.size,y.os.trans x.os,y.tape.trans x.tape,y.out.trans x.out,
  λid v j hs=>y.hand id v (x.hand id v j hs) hs,aV x.hl y.hl,λr hr=>y.sC r (f r hr)⟩
 .rcases y.go b u with z|⟨z,d⟩
  .rcases x.go b z with g|⟨g,k⟩
   grind
   .exact .inr ⟨g.same (y.frame b (x.hr.gl b z) (x.hr.gd b z)),k⟩
  .refine .inr ⟨z,?_⟩;rcases d with d|d
   .exact .inl (aV x.size d)
   .exact x.oo b d
 .rcases y.oo b u with z|z
  .exact .inl (aV x.size z)
  .exact x.oo b z
 .refine(y.frame b (b9 u x.size) λl=>?_).trans (x.frame b u i);rcases x.oo b l with z|z
  grind
  grind
theorem Ok.G0(y:Ok E G w ρ h){l:Nat}(hl:CI w l)(A:E.w.heap.size<=l)(k:¬G l){ms:List Nat}(p:∀r∈ms,r∈E.ms/\r≠l){ds:List Deferred}(o:Obj):Ok {E with ds:=ds,ms:=ms} G (w.putObj l o) ρ h:=by
 have c:∀b,b≠l->(w.putObj l o).heap[b]?=w.heap[b]?:=λ_ z=>World.putObj_heap_other z;have d:∀b,G b->(w.putObj l o).heap[b]?=w.heap[b]?:=λb z=>c b λe=>k (e ▸ z);have q:=y.hr.Ad hl;refine⟨⟨y.hr.len,λid v x i j=>?_,y.hr.oB,λb z=>by rw[World.putObj_size];exact y.hr.gl b z,y.hr.gd,y.hr.sF.mono (λ_ h=>h) d⟩,y.gm,λb z=>(y.go b z).imp (λh=>h) λf=>⟨f.1.same (d b z),f.2⟩,y.oo,
  λb z g=>(c b λe=>?_).trans (y.frame b z g),by rw[World.putObj_size];exact y.size,y.os,y.tape,y.out,y.hand,y.hl,λr hr=>?_⟩
 .by_cases u:x=.no
  .subst u;trivial
  .exact(y.hr.rep id v _ i j).mono (λ_ h=>h) d (λb z=>c b λe=>q (e ▸ ⟨id,v,x,i,j,u,z⟩)) (λ_ _=>rfl)
 grind
 .have⟨s,f⟩:=p r hr;have⟨g1,B,g3⟩:=y.sC r s
  grind
theorem pU{v:Value}{x:V}(y:au G w ρ v x){l:Nat}(z:¬G l)(o:Obj):au G (w.putObj l o) ρ v x:=
 y.mono (λ_ h=>h) (λ_ u=>World.putObj_heap_other λe=>z (e ▸ u)) (λ_ _=>rfl)
theorem dL.ns{v:Value}{x:V}(d:dL G w ρ v x)(hs:NS x=false):∀i∈ij x,∃u,ρ[i]?=some u/\kN u=false:=by
 intro i y;cases d with
 |p id off b h=>simp only[ij,aL]at y;subst y;exact⟨_,h,rfl⟩
 |mp id r h=>simp only[ij,aL]at y;subst y;exact⟨_,h,rfl⟩
 |it id r m h=>simp only[ij,aL]at y;subst y;exact⟨_,h,rfl⟩
 |os id a n c h=>cases hs
 |q id z i off b n c h=>cases hs
 |ov id z i _ a n c h d=>cases hs
 |_=>simp[ij]at y
theorem VP{x:V}(h:NT x=false):NS x=false:=by cases x<;>first|exact h|rfl
theorem VR{x:V}(h:Rq x=false):NT x=false:=by cases x<;>first|exact h|rfl
theorem VQ{x:V}(h:KH x=false):Rq x=false:=by cases x<;>first|exact h|rfl
theorem dI.ns{v:Value}{x:V}(b:dI G w ρ v x)(hs:NT x=false):∀i∈kI x,∃u,ρ[i]?=some u/\kN u=false:=by
 intro i z;cases b with
 |k h=>
  have e:kI x=ij x:=by cases h<;>rfl
  exact h.ns (VP hs) i (e ▸ z)
 |fc f u cs caps j l c=>
  simp only[kI,aO]at z;obtain⟨y,d,z⟩:=z;obtain⟨k,g⟩:=aj.1 d;simp only[NT,List.any_eq_false]at hs;exact(c k y g).ns (by grind) i z
theorem dM.ns{v:Value}{x:V}(b:dM G w ρ v x)(hs:Rq x=false):∀i∈jJ x,∃u,ρ[i]?=some u/\kN u=false:=by
 intro i z;cases b with
 |c h=>
  have e:jJ x=kI x:=by
   cases h with
   |k h=>cases h<;>rfl
   |fc=>rfl
  exact h.ns (VR hs) i (e ▸ z)
 |ag cs vs j d=>
  simp only[jJ,aO]at z;have⟨y,f,z⟩:=z;have⟨k,g⟩:=aj.1 f;simp only[Rq,List.any_eq_false]at hs;exact(d k y g).ns (by grind) i z
theorem au.ns{v:Value}{x:V}(b:au G w ρ v x)(hs:KH x=false):∀i∈eT x,∃u,ρ[i]?=some u/\kN u=false:=by
 intro i z;cases b with
 |o h=>
  have e:eT x=jJ x:=by
   cases h with
   |c h=>cases h with
    |k h=>cases h<;>rfl
    |fc=>rfl
   |ag=>rfl
  exact h.ns (VQ hs) i (e ▸ z)
 |tu cs vs j d=>
  simp only[eT,aO]at z;have⟨y,f,z⟩:=z;have⟨k,g⟩:=aj.1 f;simp only[KH,List.any_eq_false]at hs;exact(d k y g).ns (by grind) i z
def lV(G:Nat->Prop)(w:World)(ρ:List Value)(G':Nat->Prop)(w':World)(ρ':List Value):Prop:=
 (∀b,G b->G' b/\w'.heap[b]?=w.heap[b]?)/\∀(i:Nat)(u:Value),ρ[i]?=some u->kN u=false->ρ'[i]?=some u
theorem lV.refl:lV G w ρ G w ρ :=⟨λ_ h=>⟨h,rfl⟩,λ_ _ h _=>h⟩
theorem lV.trans{x y:Nat->Prop}{w1 z:World}{ρ1 ρ2:List Value}(h:lV G w ρ x w1 ρ1)(k:lV x w1 ρ1 y z ρ2):lV G w ρ y z ρ2:=
 ⟨λb e=>let v:=h.1 b e;let c:=k.1 b v.1;⟨c.1,c.2.trans v.2⟩,λi u f d=>k.2 i u (h.2 i u f d) d⟩
theorem lV.put{l:Nat}(y:¬G l)(o:Obj):lV G w ρ G (w.putObj l o) ρ :=⟨λ_ x=>⟨x,World.putObj_heap_other λe=>y (e ▸ x)⟩,λ_ _ h _=>h⟩
theorem Ok.stay{ds:List Deferred}{ms:List Nat}(hr:HR G w ρ h)(x:Ok ⟨w,G,ρ,h,ds,ms⟩ G' w' ρ' h'):lV G w ρ G' w' ρ':=
 ⟨λb y=>⟨x.gm b y,x.frame b (hr.gl b y) (hr.gd b y)⟩,x.hand⟩
theorem lV.rep(y:lV G w ρ G' w' ρ'){v:Value}{x:V}(c:au G w ρ v x)(hs:KH x=false):au G' w' ρ' v x:=
 c.mono (λb z=>(y.1 b z).1) (λb z=>(y.1 b z).2) (λi e=>let⟨u,d,f⟩:=c.ns hs i e;(y.2 i u d f).trans d.symm)
theorem lV.VY(y:lV G w ρ G' w' ρ'){v:Value}{x:V}(c:dL G w ρ v x)(hs:NS x=false):dL G' w' ρ' v x:=
 c.mono (λb z=>(y.1 b z).1) (λb z=>(y.1 b z).2) (λi e=>let⟨u,d,f⟩:=c.ns hs i e;(y.2 i u d f).trans d.symm)
def Tn(r:Nat):Deferred:={target:=.collected r,args:= #[]}
def mR(E x:gL):Prop:=∃l:List Nat,x={E with ds:=l.map Tn++E.ds,ms:=l++E.ms}/\(E.ms.Nodup->(l++E.ms).Nodup)/\∀r∈l,E.w.heap.size<=r
theorem mR.refl(E:gL):mR E E:=⟨[],rfl,λh=>h,by simp⟩
theorem mR.trans{E E1 E2:gL}(h:mR E E1)(k:mR E1 E2):mR E E2:=by
 obtain⟨l,rfl,x,y⟩:=h;obtain⟨m,rfl,k1,k2⟩:=k;refine⟨m++l,by simp,λh=>by grind,λr hr=>?_⟩
 grind
theorem mR.ew{E E1:gL}(h:mR E E1):E1.w=E.w:=by obtain⟨l,rfl,_⟩:=h;rfl
theorem mR.eG{E E1:gL}(h:mR E E1):E1.G=E.G:=by obtain⟨l,rfl,_⟩:=h;rfl
theorem mR.er{E E1:gL}(h:mR E E1):E1.ρ=E.ρ :=by obtain⟨l,rfl,_⟩:=h;rfl
theorem mR.eh{E E1:gL}(h:mR E E1):E1.h=E.h:=by obtain⟨l,rfl,_⟩:=h;rfl
def wg:Code->Bool
 |.seq a b=>wg a&&wg b
 |.cond _ a b=>wg a&&wg b
 |.block _ c=>wg c
 |.loop c=>wg c
 |.rangeFunc _ _ _ _=>false
 |_=>true
def QM(b:Bool)(E:gL)(n:Nat)(K:Ex->T->H->Prop)(e:Exit)(a:Act)(w:World):Prop:=
 ∃x,mR E x/\(b=true->x=E)/\QK x n K e a w
theorem QM.of{b:Bool}{K:Ex->T->H->Prop}{e:Exit}(h:QK E n K e a w):QM b E n K e a w:=⟨E,.refl E,λ_=>rfl,h⟩
theorem QM.qk{K:Ex->T->H->Prop}{e:Exit}(h:QM true E n K e a w):QK E n K e a w:=by
 have⟨x,y,z,u⟩:=h
 grind
def PG(r:Option Nat)(E:gL):Prop:=∀l,r=some l->(∃x,E.w.heap[l]?=some (.loop x))/\¬own E.ρ E.h l
theorem PG.none(E:gL):PG none E:=λ_ h=>by cases h
theorem PG.mk{r:Option Nat}{E E1:gL}(h:PG r E)(x:mR E E1):PG r E1:=by
 obtain⟨l,rfl,_⟩:=x;exact h
def WK(P:Program)(ow:Nat->Bool)(n:Nat)(c:Code)(x:C):Prop:=
  ∀(r:Option Nat) (N:Nat) (E:gL),E.ρ.length=E.h.length→PG r E→∀(G:Nat→Prop) (ρ:List Value) (t:T) (h:H) (a:Act) (w:World) (K:Ex→T→H→Prop),ak E n G ρ t h a w →
    wx (Sat P) ow E.h.length x t h K->c.wpIn (Fw r) N P (QM (wg c) E n K) a w
theorem LH{d:D}(h:S7 d):bp G w (rW d) d:=by
 cases d with
 |int k n=>exact .int k n
 |bool b=>exact .bool b
 |str s=>
  have:=bp.str (G:=G) (w:=w) ⟨s.toArray⟩ (by assumption)
  assumption
 |_=>exact h.elim
theorem Qb:∀(ps:List Nat)(r:List D)(t:T)(u:Array Value),(∀p∈ps,p<u.size)->(∀d∈r,S7 d)->(∀i,au G w ρ (u.getD i undef) (gs t i)) ->
  ∀i,au G w ρ (((ps.zip (r.map rW)).foldl (λt(p,v)=>t.setIfInBounds p v) u).getD i undef) (gs (Ry ps r t) i):=by
 intro ps
 induction ps with
 |nil=>intro r t u _ _ h;exact h
 |cons p ps z=>
  intro r t u b hr h;cases r with
  |nil=>exact h
  |cons d r=>
   refine z r _ (u.setIfInBounds p (rW d)) (λq f=>by grind) (λx g=>hr x (by grind)) (λi=>?_);have y:=b p (by simp);rw[gI]
   by_cases e:p=i
   .subst e;simp only[fV,δ];have:=LH (G:=G) (w:=w) (hr d (by simp));simpa[Array.getElem?_setIfInBounds,y]using(au.o (.c (.k (.d this))):au G w ρ _ _)
   .rw[fm e,ε];simp_all
theorem Ea:∀(l:List (Nat×Value))(u:Array Value),(l.foldl (λt(p,v)=>t.setIfInBounds p v) u).size=u.size:=by
 intro l
 induction l with
 |nil=>grind
 |cons x l y=>grind
theorem MI{x:T}(h:(x.all λp=> !(KH p.2))=true)(i:Nat):KH (gs x i)=false:=by
 rcases(show gs x i=.un\/∃p∈x,p.2=gs x i from by
  induction x with
  |nil=>exact .inl rfl
  |cons p x y=>
   simp only[lA,aP]at h;rw[gI]
   grind)with e|⟨p,hp,e⟩
 .rw[e];rfl
 grind
end
def ff{α:Type}:Sem α->Prop
 |.pure _=>True
 |.load _ _ k=>∀v,ff (k v)
 |.new _ k=>∀r,ff (k r)
 |.shape _ k=>∀s,ff (k s)
 |.frozen _ k=>∀b,ff (k b)
 |.program k=>∀p,ff (k p)
 |.mark _ k=>ff k
 |.choose _ k=>∀n,ff (k n)
 |.halt _=>True
 |_=>False
theorem AP{α β:Type}{f:α->Sem β}(y:∀a,ff (f a))(s:Sem α):ff s->ff (s.bind f):=by
 induction s with
 |pure a=>intro _;exact y a
 |load _ _ _ x=>intro h v;exact x v (h v)
 |new _ _ x=>intro h v;exact x v (h v)
 |shape _ _ x=>intro h v;exact x v (h v)
 |frozen _ _ x=>intro h v;exact x v (h v)
 |program _ x=>intro h v;exact x v (h v)
 |mark _ _ x=>assumption
 |choose _ _ x=>intro h v;exact x v (h v)
 |halt _=>intro _;trivial
 |_=>intro h;exact h.elim
theorem bD{α β:Type}{f:α->Sem β}{s:Sem α}(x:∀a,ff (f a))(h:ff s):ff (s.bind f):=AP x s h
def Ext(w w':World):Prop:=w.heap.size<=w'.heap.size/\∀b,b<w.heap.size->w'.heap[b]?=w.heap[b]?
theorem Ext.refl(w:World):Ext w w:=⟨aM _,λ_ _=>rfl⟩
theorem Ext.trans{a b c:World}(h:Ext a b)(g:Ext b c):Ext a c:=
 ⟨aV h.1 g.1,λx y=>by rw[g.2 x (b9 y h.1),h.2 x y]⟩
theorem j0{α:Type}{P:Program}:∀{s:Sem α},ff s->∀{w w':World}{x:α},s.run P w=.ok x w'->Ext w w'
 |.pure _,_,w,w',x,hr=>by
  simp only[Sem.run,Result.ok.injEq]at hr;rw[<-hr.2];exact Ext.refl w
 |.load m a k,h,w,w',x,hr=>by
  simp only[Sem.run]at hr;split at hr
  .exact j0 (h _) hr
  .split at hr
   .exact j0 (h _) hr
   grind
 |.new o k,h,w,w',x,hr=>by
  simp only[Sem.run]at hr;refine Ext.trans ?_ (j0 (h _) hr);exact⟨by simp,λb z=>by grind⟩
 |.shape _ k,h,w,w',x,hr=>by
  simp only[Sem.run]at hr;exact j0 (h _) hr
 |.frozen _ k,h,w,w',x,hr=>by
  simp only[Sem.run]at hr;exact j0 (h _) hr
 |.program k,h,w,w',x,hr=>by
  simp only[Sem.run]at hr;exact j0 (h _) hr
 |.mark _ k,h,w,w',x,hr=>by
  simp only[Sem.run]at hr;exact j0 (s:=k) h hr
 |.choose _ k,h,w,w',x,hr=>by
  simp only[Sem.run]at hr;split at hr
  all_goals
   have y:=j0 (h _) hr;exact⟨y.1,y.2⟩
 |.halt _,_,w,w',x,hr=>by
  simp_all
def wF(o:Oper):Prop:=match o.op with
 |.move _|.assign _|.extract _ _|.load _ _|.alloc _|.build _ _|.buildSlice _ _ _|.slice _ _ _ _ _=>True
 |_=>False
theorem kY(t:TypeId):ff (typeInfo t):=by
 unfold typeInfo;refine bD (s:=program) (λp=>?_) (λ_=>trivial);split<;>trivial
theorem e7(t:TypeId):ff (underlying t):=by
 unfold underlying;refine bD (s:=program) (λp=>?_) (λ_=>trivial);split<;>trivial
theorem AM(t:TypeId):ff (isAgg t):=by
 unfold isAgg;refine bD (λp=>?_) (e7 t);split<;>trivial
theorem fq(t:TypeId):ff (sizeOf t):=by
 unfold sizeOf;exact bD (λ_=>trivial) (kY t)
theorem sZ(a:Addr):∀(n i:Nat)(acc:Array Value),ff (loadCellsFrom a i n acc)
 |0,_,_=>trivial
 |n+1,i,acc=>by
  unfold loadCellsFrom;exact bD (s:=load (a.add i)) (λv=>sZ a n (i+1) _) (λ_=>trivial)
theorem yC(t:TypeId)(v:Value):ff (Instr.loadAt t v):=by
 unfold Instr.loadAt;refine bD (λa=>?_) ?_
 .unfold loadVar;refine bD (λb=>?_) (AM t);split
  .refine bD (s:=sizeOf t) (λn=>?_) (fq t);exact bD (s:=loadCells a n) (λcs=>trivial) (sZ a n 0 #[])
  .exact λ_=>trivial
 .unfold Instr.sureAddr;split<;>trivial
theorem AQ(t:TypeId):ff (Instr.alloc t true (.tuple #[])):=by
 unfold Instr.alloc;refine bD (λz=>?_) ?_
 .refine bD (λa=>trivial) ?_;exact λ_=>trivial
 .unfold zeroValue;refine bD (λi=>?_) (kY t);split<;>trivial
theorem vH(t:TypeId):ff (zeroValue t):=by
 unfold zeroValue;refine bD (λi=>?_) (kY t);split<;>trivial
theorem vI{α β:Type}{f:α->Sem β}(y:∀a,ff (f a)):∀l:List α,ff (l.mapM f)
 |[]=>by rw[List.mapM_nil];trivial
 |a::l=>by
  rw[iU];exact bD (λx=>bD (λ_=>trivial) (vI y l)) (y a)
theorem yB{α β:Type}{f:α->β}{s:Sem α}(h:ff s):ff (f <$> s):=bD (f:=λa=>Sem.pure (f a)) (λ_=>trivial) h
theorem AN(t:TypeId)(ps:Array (Nat×Value)):ff (Instr.build t ps):=by
 unfold Instr.build;refine bD (λz=>?_) (vH t);refine bD (λd=>?_) (e7 t);split
 .rw[Array.mapM_eq_mapM_toList];refine bD (λpl=>?_) (yB (vI (λf=>by refine bD (λ_=>?_) (fq f.type);trivial) _));split<;>trivial
 .refine bD (λn=>?_) (fq _);split<;>trivial
 .trivial
theorem rO(t:TypeId)(n:Nat)(ps:Array (Nat×Value)):ff (Instr.buildSlice t n ps):=by
 unfold Instr.buildSlice;refine bD (λd=>?_) (e7 t);split
 .refine bD (λk=>?_) (fq _);dsimp only;have y:∀{z:Array Value}{e:TypeId},ff (match Instr.fill (λi=>some (i*k,k)) ((Array.range (n*k)).map (λx=>z[x % z.size]!)) ps.toList with
    |some cells=>do pure (.slice (some (<-newRow e cells)) n n)
    |_=>stuck "buildSlice: a part of the wrong size" : Sem Value):=by
   intro z e;split
   .exact bD (λ_=>trivial) (bD (s:=newObj _) (λ_=>trivial) (λ_=>trivial))
   .trivial
  split
  .trivial
  .split
   .exact y
   .exact bD (λ_=>y) (vH _)
 .trivial
theorem AL{α:Type}(k:IntKind)(x y:Int)(c:BoundsCode):ff (boundsPanic k x y c:Sem α):=by
 unfold boundsPanic;dsimp only;have hr:∀b,ff (runtimePanic (.bounds (IntKind.i64.wrap x) y b c):Sem α):=λb=>by
  unfold runtimePanic;exact bD (s:=program) (λp=>trivial) (λ_=>trivial)
 split
 .exact bD (λb=>hr b) (yB (s:=choose _) (λ_=>trivial))
 grind
theorem AO(x:Value)(y:Nat)(c:BoundsCode):ff (Instr.sliceBound x y c):=by
 unfold Instr.sliceBound;refine bD (λp=>?_) ?_
 .have⟨k,i⟩:=p;dsimp only;split
  .trivial
  .exact AL _ _ _ _
 .unfold asIntOf;split<;>trivial
theorem kQ(b:Bool)(n c:Nat)(x y mx:Option Value):ff (Instr.sliceBounds b n c x y mx):=by
 unfold Instr.sliceBounds;cases mx<;>cases y<;>cases x<;>repeat' (first|exact True.intro|refine bD (λ_=>?_) (AO _ _ _)|refine bD (s:=Sem.pure _) (λ_=>?_) True.intro)
theorem yD(x:Value):ff (asAddr x):=by
 unfold asAddr;split
 .trivial
 .unfold runtimePanic;exact bD (s:=program) (λp=>trivial) (λ_=>trivial)
 .trivial
theorem AK(t:TypeId)(x:Value)(y z mx:Option Value):ff (Instr.slice t x y z mx):=by
 unfold Instr.slice;refine bD (λd=>?_) (e7 t);split
 .split
  .trivial
  .exact bD (λ_=>trivial) (kQ _ _ _ _ _ _)
 .exact bD (λ_=>bD (λ_=>trivial) (fq _)) (kQ _ _ _ _ _ _)
 .refine bD (λa=>bD (λd=>?_) (e7 _)) (yD _);split
  .exact bD (λ_=>bD (λ_=>trivial) (fq _)) (kQ _ _ _ _ _ _)
  .trivial
 .trivial
theorem wE(t:TypeId)(x:Value)(y z mx:Option Value):ff (Instr.sliceAt t x y z mx):=by
 unfold Instr.sliceAt;refine bD (λd=>?_) (e7 t);split
 .refine bD (λa=>bD (λ_=>bD (λ_=>trivial) (fq _)) (kQ _ _ _ _ _ _)) ?_;unfold Instr.sureAddr;split<;>trivial
 .exact AK _ _ _ _ _
theorem Dh{o:Oper}(h:wF o)(ρ:Operand->Value):ff (execOp ρ o):=by
 unfold wF at h;unfold execOp;cases y:o.op<;>rw[y]at h<;>try exact h.elim
 case move x=>trivial
 case assign x=>trivial
 case extract x i=>
  refine bD (λ_=>trivial) ?_;unfold Instr.extract;split
  .split<;>trivial
  .trivial
 case load t x=>exact bD (λ_=>trivial) (yC t _)
 case alloc t=>exact bD (λ_=>trivial) (AQ t)
 case build t ps=>exact bD (λ_=>trivial) (AN t _)
 case buildSlice t n ps=>exact bD (λ_=>trivial) (rO t n _)
 case slice t x lo hi mx=>exact bD (λ_=>trivial) (wE t _ _ _ _)
theorem Fs{o:Oper}(h:wF o){P:Program}{ρ:Operand->Value}{w w':World}{x:Next}(hr:(execOp ρ o).run P w=.ok x w'):Ext w w'/\∃v,x=.value v:=by
  refine⟨j0 (Dh h ρ) hr,?_⟩
  unfold wF at h
  have key:∀{s:Sem Value},((do pure (Next.value (←s))):Sem Next).run P w = .ok x w'→∃v,x = .value v:=by
    intro s hs
    have:∀(s:Sem Value)(w:World),(s.bind λv=>Sem.pure (Next.value v)).run P w=.ok x w'->∃v,x=.value v:=by
      intro s
      induction s with
      |pure a=>intro w h;simp only[Sem.bind,Sem.run,Result.ok.injEq]at h;grind
      |load m a k ih=>
        intro w h
        simp only[Sem.bind,Sem.run]at h
        grind
      |store m a v k ih=>
        intro w h
        cases v<;>simp only[Sem.bind,Sem.run]at h<;>first
          |cases h;done
          | (split at h
             · split at h
               · cases h
               · exact ih _ h
             · split at h
               · exact ih _ h
               · cases h)
      |new _ _ ih=>intro w h;simp only[Sem.bind,Sem.run]at h;grind
      |shape _ _ ih=>intro w h;simp only[Sem.bind,Sem.run]at h;grind
      |freeze _ _ _ ih=>intro w h;simp only[Sem.bind,Sem.run]at h;grind
      |frozen _ _ ih=>intro w h;simp only[Sem.bind,Sem.run]at h;grind
      |getObj _ _ ih=>intro w h;simp only[Sem.bind,Sem.run]at h;grind
      |setObj _ _ _ ih=>intro w h;simp only[Sem.bind,Sem.run]at h;grind
      |choose _ _ ih=>intro w h;simp only[Sem.bind,Sem.run]at h;grind
      |sys _ _ ih=>intro w h;simp only[Sem.bind,Sem.run]at h;grind
      |program _ ih=>intro w h;simp only[Sem.bind,Sem.run]at h;grind
      |mark _ _ ih=>assumption
      |halt _=>intro w h;contradiction
    exact this s w hs
  unfold execOp at hr
  cases ho:o.op<;>rw[ho]at h hr<;>try exact h.elim
  case move y=>simp only[pure,Sem.run,Result.ok.injEq]at hr;grind
  case assign y=>simp only[pure,Sem.run,Result.ok.injEq]at hr;grind
  all_goals grind
section
variable{P:Program}{E:gL}{n:Nat}{G:Nat->Prop}{ρ:List Value}{t:T}{h:H}{a:Act}{w:World}{o:Oper}{K KP:V->T->H->Prop}
def YP(P:Program)(G:Nat->Prop)(w:World)(ρ:List Value)(a:Act)(o:Oper)(K:V->T->H->Prop)(t:T)(h:H):Prop:=
 ∃v' v,(∀x,(execOp a.eval o).run P x=.ok (.value v') x)/\au G w ρ v' v/\K v t h
def YL(P:Program)(G:Nat->Prop)(w:World)(ρ:List Value)(a:Act)(o:Oper)(K:V->T->H->Prop)(t:T)(h:H):Prop:=
 ∃v' v,(∀x,Ext w x->(execOp a.eval o).run P x=.ok (.value v') x)/\au G w ρ v' v/\K v t h
theorem fQ{v':Value}{v:V}(hr:∀x,(execOp a.eval o).run P x=.ok (.value v') x)(y:au G w ρ v' v)(z:K v t h):YP P G w ρ a o K t h:=⟨v',v,hr,y,z⟩
theorem Ext.cell{w z:World}(he:Ext w z){x:Addr}{v:Value}(u:w.cell? x=some v):z.cell? x=some v:=by
 unfold World.cell? at *;have y:x.block<w.heap.size:=by
  grind
 rw[he.2 _ y]
 grind
theorem vw{ty:TypeId}{x:Operand}{y:Addr}{v':Value}{v:V}(z:o.op=.load ty x)(u:a.eval x=.pointer (some y))(hl:uj P ty=some none)
  (b:w.cell? y=some v') (d:dI G w ρ v' v) (e:K v t h):YL P G w ρ a o K t h:=by
 refine⟨v',v,λf he=>?_,.c d,e⟩;simp[execOp,z,u,Instr.loadAt,Instr.sureAddr,tU hl,he.cell b]
theorem zn{ty:TypeId}{x:Operand}{b off k:Nat}{U:Nat->Value}{vs:List V}(g:o.op=.load ty x)(l:a.eval x=.pointer (some ⟨b,off,none⟩))(hl:uj P ty=some (some k))
  (d:vs.length=k) (p:∀(j:Nat)(y:V),vs[j]?=some y->w.cell? ⟨b,off+j,none⟩=some (U j)/\dI G w ρ (U j) y) (q:K (.ag vs) t h):YL P G w ρ a o K t h:=by
 refine⟨.agg ((List.range vs.length).map U).toArray,.ag vs,λe he=>?_,(.o (.ag _ vs (by simp) (λi y r=>?_))),q⟩
 .have z:(loadVar ty ⟨b,off,none⟩).run P e=.ok (.agg ((List.range vs.length).map U).toArray) e:=by
   refine tT hl _ _ (by grind) (λj v f=>?_);rw[dx];simp only[aB,aG]at f;obtain⟨A,u,rfl⟩:=f;have c:j<vs.length:=by
    grind
   rw[ck c]at u;cases u;exact he.cell (p j _ (aA c)).1
  simp[execOp,g,l,Instr.loadAt,Instr.sureAddr,z]
 .have s:i<vs.length:=(aC.1 r).1;simp_all
theorem SI(z:ak E n G ρ t h a w){x:Operand}{ox:O}{ty:TypeId}(y:o.op=.move x\/o.op=.assign x)(u:cX P ty x=some ox)(v:K (gv t ox) t h):YP P G w ρ a o K t h:=by
 refine fQ (v':=a.eval x) (λw=>?_) (bG z u) v;rcases y with y|y<;>simp[execOp,y]
section
variable(S:Nat->List V->H->(Out->H->Prop)->Prop)(ow:Nat->Bool)
theorem VB(M:ak E n G ρ t h a w){ty t1:TypeId}{x:Operand}{ox:O}{m:Option Nat}(r:o.op=.load ty x)(hx:cX P t1 x=some ox)(hl:uj P ty=some m)
  (u:bq S ow (.ld ox m) t h K KP):YL P G w ρ a o K t h:=by
 have B:=bG M hx;simp only[bq]at u;split at u
 .skip
  rename_i id off C;rw[C]at B;obtain⟨b,l,N⟩:=B.pt;rw[get?_eq]at u;split at u
  .rename_i cs R;obtain⟨Y,arr,ty',q,D,Z,s⟩:=M.ok.hr.rep id _ _ N R;simp only[Value.pointer.injEq,aE,Addr.mk.injEq,ω]at q;obtain⟨rfl,_⟩:=q;cases m with
   |none=>
    simp only[get?_eq]at u;split at u
    .rename_i v e;have p:off<arr.size:=by grind
     refine vw r l hl (v':=arr[off]) (by rw[dC D];grind) ?_ u;have:=s off v e;simpa[aF,p]using this
    grind
   |some k=>
    simp only[bf]at u;have f:=kH u.1;refine zn r l hl (U:=λj=>arr.getD (off+j) undef) f (λj y g=>?_) u.2;have F:j<k:=by grind
    rw[ao,ζ F,bF]at g;have p:off+j<arr.size:=by grind
    refine⟨?_,s (off+j) y g⟩;rw[dC D,aF,aN p];rfl
  grind
 .skip
  rename_i row off C;rw[C]at B;obtain⟨b,oo,U,l,hGb,hU,hD⟩:=B.el;cases m with
  |none=>
   simp only[get?_eq]at u;split at u
   .rename_i v e;exact vw r l hl (hU off v e) (.k (.d (hD off v e))) u
   grind
  |some k=>
   simp only[bf]at u;have f:=kH u.1;refine zn r l hl (U:=λj=>U (off+j)) f (λj y g=>?_) u.2;have F:j<k:=by grind
   rw[aB,ao,ζ F,bF]at g;cases hr:row[off+j]? with
   |none=>grind
   |some y0=>
    rw[hr]at g;cases g;exact⟨by grind,.k (.d (hD _ _ hr))⟩
 .skip
  rename_i id z i off C;rw[C]at B;obtain⟨b,nn,c,l,N⟩:=B.ql;rw[get?_eq]at u;split at u
  .rename_i z' rs A;obtain⟨W,row,J,u⟩:=u;obtain rfl:=kH W;obtain⟨Y,L,arr,ty',q,D,Z,X,s⟩:=j9 (M.ok.hr.rep id _ _ N A) J;simp only[Value.slice.injEq,aE,Addr.mk.injEq,ω]at q;obtain⟨rfl,_,_⟩:=q;cases m with
   |none=>
    simp only[get?_eq]at u;split at u
    .rename_i v e;exact vw r l hl (s off v e).1 (.k (.d (s off v e).2)) u
    grind
   |some k=>
    simp only[bf]at u;have f:=kH u.1;refine zn r l hl (U:=λj=>arr.getD (i*z+(off+j)) undef) f (λj y g=>?_) u.2;have F:j<k:=by grind
    rw[aB,ao,ζ F,bF]at g;cases hr:row[off+j]? with
    |none=>grind
    |some y0=>
     rw[hr]at g;cases g;exact⟨by grind,.k (.d (s _ _ hr).2)⟩
  .rename_i z' rs i' row A;obtain⟨⟨W,rfl⟩,u⟩:=u;obtain rfl:=kH W;obtain⟨Y,L,arr,ty',q,D,Z,s,h4,⟨h0,hrz⟩,h5,h6⟩:=M.ok.hr.rep id _ _ N A;simp only[Value.slice.injEq,aE,Addr.mk.injEq,ω]at q;obtain⟨rfl,_,_⟩:=q;cases m with
   |none=>
    simp only[get?_eq]at u;split at u
    .rename_i v e;have p:off<row.length:=(aC.1 e).1;have X:i*z+z<=arr.size:=by
      rw[h4];have:(i+1)*z<=L*z:=bB _ (by omega)
      grind
     refine vw r l hl (v':=arr.getD (i*z+off) undef) ?_ (h6 off v e) u;rw[dC D,aF,aN (by omega)];rfl
    grind
   |some k=>grind
  grind
 grind
theorem VC(C:ak E n G ρ t h a w){ty t1:TypeId}{x:Operand}{f:Nat}{fs:Array Field}{fd:Field}{ox:O}(D:o.op=.fieldAddr ty x f)(F:P.underlying ty=some (.struct fs))(J:fs[f]?=some fd)
  (j:P.cellsOf fd.type≠0) (L:cX P t1 x=some ox) (u:bq S ow (.fa ox fd.offset) t h K KP):YP P G w ρ a o K t h:=by
 have v:=bG C L;have y:∀l:Addr,a.eval x=.pointer (some l)->∀w:World,(execOp a.eval o).run P w=.ok (.value (.pointer (some (l.add fd.offset)))) w:=by
  intro l r w;unfold Program.cellsOf at j;cases B:P.info? fd.type with
  |none=>grind
  |some i=>
   rw[B]at j;simp at j;simp[execOp,D,r,Instr.fieldAt,run_underlying F,J,Instr.sureAddr,fieldPlace,sizeOf,typeInfo,B,j]
 simp only[bq]at u;split at u
 .rename_i id off d;rw[d]at v;have⟨b,g,s⟩:=v.pt;rw[cZ]at u;refine fQ (y _ g) ?_ u;rw[dx];exact .k (.p id _ b s)
 .rename_i row off d;rw[d]at v;have⟨b,oo,U,g,A,M,N⟩:=v.el;rw[cZ]at u;refine fQ (y _ g) ?_ u;rw[dx,jI];exact .k (.e b oo _ row U A M N)
 .rename_i id z i off d;rw[d]at v;have⟨b,R,c,g,s⟩:=v.ql;rw[cZ]at u;refine fQ (y _ g) ?_ u;rw[dx,jI];exact .k (.q id z i _ b R c s)
 grind
theorem VD(b:ak E n G ρ t h a w){t1:TypeId}{x:Operand}{i:Nat}{ox:O}(c:o.op=.extract x i)(d:cX P t1 x=some ox)(y:bq S ow (.ex ox i) t h K KP):YP P G w ρ a o K t h:=by
 have z:=bG b d;simp only[bq]at y;split at y
 .rename_i vs e;rw[e]at z;have⟨cs,f,hs,hr⟩:=z.Uh;rw[get?_eq]at y;split at y
  .rename_i v g;have u:i<cs.size:=by grind
   refine fQ (v':=cs.getD i undef) (λw=>?_) (.o (hr i v g)) y;simp[execOp,c,Instr.extract,f,u]
  grind
 grind
theorem VE(hC:ak E n G ρ t h a w){ty:TypeId}{fs:Array Field}{ps:Array (Nat×Operand)}{pl:List (Nat×Nat)}{oq:List (Nat×Nat×O)}{zs:List V}(ho:o.op=.build ty ps)(hu:P.underlying ty=some (.struct fs))
  (hpl:fs.toList.mapM (λf=>(P.info? f.type).map λi=>(f.offset,i.size))=some pl) (hz:rM P ty=some zs)
  (hq:oq.length=ps.size/\∀(k:Nat)(p:Nat×Operand)(q:Nat×Nat×O),ps[k]?=some p->oq[k]?=some q->pl[p.1]?=some (q.1,q.2.1)/\∃ty',cX P ty' p.2=some q.2.2)
  (hk:bq S ow (.bd zs oq) t h K KP):YP P G w ρ a o K t h:=by
 simp only[bq,bf]at hk;have⟨hall,hk⟩:=hk;have⟨i,z,hi,hz0,hzs,_,hzr⟩:=jf (G:=G) (w:=w) (ρ := ρ) hz;have hall':∀q∈oq,(gv t q.2.2).cs.length=q.2.1/\q.1+q.2.1<=zs.length/\(gv t q.2.2).cs.all fA=true:=by
  intro q hq;have:=aS.1 hall q hq;simp_all
 have⟨out,o1,o2,o3⟩:=xK (G:=G) (w:=w) (ρ := ρ) (pl.toArray[·]?) (ps.map λ(i,x)=>(i,a.eval x)).toList (oq.map λq=>(q.1,(gv t q.2.2).cs)) z.cells zs (by grind)
  (λk p q hp hq'=>by
   simp only[kr,aB,aG]at hp hq';obtain⟨p0,hp0,rfl⟩:=hp;obtain⟨q0,hq0,rfl⟩:=hq';have⟨g1,ty',g2⟩:=hq.2 k p0 q0 (by grind) hq0;have⟨e1,e2,e3⟩:=hall' q0 (aJ hq0);have⟨c1,c2⟩:=jE (bG hC g2) e3
   grind)
  hzs (λj x hx=>.k (hzr j x hx).1)
 rw[foldl_map']at o3;have hb:P.built ty (ps.map λ(i,x)=>(i,a.eval x)).toList=some out:=by
  simp only[Program.built,hi,hu,hz0,hpl]
  grind
 refine fQ (v':=.agg out) (λw2=>?_) (.o (.ag out _ ?_ o3)) hk
 .simp only[execOp,ho];exact cT (run_build w2 ty _ out hb)
 .have:∀(l:List (Nat×Nat×O))(c:List V),(l.foldl (λcs p=>lay cs p.1 (gv t p.2.2).cs) c).length=c.length:=by
   intro l
   induction l with
   |nil=>grind
   |cons q l ih=>intro c;simp only[cQ];rw[ih,j4]
  grind
theorem VA(C:ak E n G ρ t h a w){t1:TypeId}{x:Operand}{ox:O}(p:o.op=.nilCheck x)(D:cX P t1 x=some ox)(d:bq S ow (.nc ox) t h K KP):YP P G w ρ a o K t h:=by
 have y:=bG C D;simp only[bq]at d;split at d
 .rename_i i oo v;rw[v]at y;have⟨b,u,_⟩:=y.pt;exact fQ (v':=a.eval x) (λw=>by simp[execOp,p,u]) y d
 .rename_i r oo v;rw[v]at y;have⟨b,_,_,u,_⟩:=y.el;exact fQ (v':=a.eval x) (λw=>by simp[execOp,p,u]) y d
 .rename_i i z j oo v;rw[v]at y;have⟨b,_,_,u,_⟩:=y.ql;exact fQ (v':=a.eval x) (λw=>by simp[execOp,p,u]) y d
 .rename_i f c v;rw[v]at y;have⟨cs,u,_⟩:=y.Nv;cases F:Nat.blt f 2000000<;>rw[F]at d
  grind
  have A:f<2000000:=by simp_all
  have l:∃g B y2,a.eval x=.func (.func g) B y2:=by
   by_cases s:f<1000000
   .exact⟨_,_,_,uB u s⟩
   .exact⟨_,_,_,BX u s A⟩
  have⟨g,B,y2,l⟩:=l;exact fQ (v':=a.eval x) (λw=>by simp[execOp,p,l]) y d
 .rename_i f v;rw[v]at y;have u:a.eval x=.func (.func f) #[] #[]:=BR y.qu;exact fQ (v':=a.eval x) (λw=>by simp[execOp,p,u]) y d
 .rename_i row off v;rw[v]at y;have u:=y.qu;generalize q:a.eval x=M at u;cases u with
  |pt b o _ _ U s J L=>exact fQ (v':=a.eval x) (λw=>by simp[execOp,p,q]) (by rw[q];exact .k (.e b o off row U s J L)) d
 grind
end
theorem vm{P:Program}{ty:TypeId}{op:Op}{x:X}(z:fj P ty op=some x)(hs:Fq x=true\/yL x=true\/Rz x=true):(∃y,op=.move y)\/(∃y,op=.assign y)\/(∃y i,op=.extract y i)\/(∃t y,op=.load t y)\/(∃t,op=.alloc t)\/(∃y,op=.nilCheck y)\/(∃t y f,op=.fieldAddr t y f)\/(∃t ps,op=.build t ps)\/(∃t n ps,op=.buildSlice t n ps)\/∃t y u v mx,op=.slice t y u v mx:=by
 cases op
 grind
 grind
 case extract y i=>grind
 case load t y=>grind
 case alloc t=>grind
 case nilCheck y=>grind
 case fieldAddr t y f=>grind
 case build t ps=>grind
 case buildSlice t n ps=>grind
 case slice t y u v mx=>grind
 all_goals
  exfalso;simp only[fj,aI]at z
  repeat' (first
   |contradiction
   |(cases z;done)
   |(obtain⟨_,z⟩:=z)
   |(split at z)
   |(simp only[aG,aD,aE,reduceCtorEq]at z)
   |(rcases hs with hs|hs|hs<;>cases hs;done))
end
section
variable{P:Program}{ops:Array Oper}{Q:Exit->Act->World->Prop}{S:World->Prop}{md:Region.Mode}
theorem D4{j:Nat}{y z:Oper}{v:Value}(g:ops[j]?=some z)(u:y.apart ops z=true)
  (d:∀cs b,y.op≠.select cs b) (e:∀cs b,z.op≠.select cs b) (l:∀c a w,¬Q (.panic c) a w)
  (f:(∀w,S w)\/(wF z/\∀w w',S w->Ext w w'->S w')) {K:Act->World->Prop} {a:Act} {w:World}
  (q:S w) (p:YieldsIf P ops S y v a) (h:wpOp P ops Q j K (a.put y.dst v) w) :
  wpOp P ops Q j (λa' w'=>S w'/\YieldsIf P ops S y v a'/\K (a'.put y.dst v) w') a w:=by
 rcases f with f|⟨i,f⟩
 .exact wpOp_mono (λa' w' h=>⟨f w',h⟩) (wpOp_putIf g u d e (λc a w h=>(l c _ w h).elim) p h)
 .have h':=wpOp_putIf g u d e (λc a w h=>(l c _ w h).elim) p h;unfold wpOp at h'⊢;simp only[g]at h'⊢;split
  .rename_i k;rw[ζ k]at h';rcases h' with h'|h'
   .refine .inl ?_;unfold Oper.wp at h'⊢;cases hr:(execOp a.eval z).run P w with
    |ok x w'=>
     rw[hr]at h';obtain⟨he,v',rfl⟩:=Fs i hr;exact⟨f w w' q he,h'⟩
    |halt x w'=>
     rw[hr]at h';cases x<;>exact h'
   grind
  grind
theorem sY{n m:Nat}{is:List I}{bs:List (List Nat)}(D:U9 P n ops is bs m){i:Nat}{oi:Oper}{v:Value}(hi:ops[i]?=some oi)(hsel:∀(j:Nat)(o:Oper) cs b,ops[j]?=some o->o.op≠.select cs b)
    (hQ:∀c a w,¬Q (.panic c) a w) :
    ∀(fuel:Nat) (listed:Array Bool) (a:Act) (w:World),listed.size=ops.size →
      (∀(j:Nat)(b:List Nat),listed.getD j false=true->bs[j]?=some b->∀k∈b,listed.getD k false=true) ->
      (∀j oj,ops[j]?=some oj->j≠i->listed.getD j true=false->(∀b,bs[j]?=some b->i∉b)->oi.apart ops oj=true/\((∀w,S w)\/(wF oj/\∀w w',S w->Ext w w'->S w'))) ->
      i∈Region.ready .any ops listed->YieldsIf P ops S oi v a->S w ->
      wpAny P .any ops Q fuel (listed.setIfInBounds i true) (a.put oi.dst v) w->wpAny P .any ops Q (fuel+1) listed a w:=by
  intro fuel
  induction fuel with
  |zero=>
    intro listed a w _ _ _ hr hy hS H
    refine⟨λh=>(by grind),λj hj=>?_⟩
    by_cases hji:j=i
    · subst hji;exact hy.wpOp hi hS H
    · have:=ready_mono hj hji
      rw[H.1]at this
      grind
  |succ fuel ih=>
    intro listed a w hsz jb hfree hr hy hS H
    refine⟨λh=>(by grind),λj hj=>?_⟩
    by_cases hji:j=i
    · subst hji;exact hy.wpOp hi hS H
    · have h1:=H.2 j (ready_mono hj hji)
      have⟨hjun,oj,hoj,hall⟩:=mem_ready.1 hj
      have hnl:¬listed.getD i false=true:=by
        have h0:=(mem_ready.1 hr).1
        grind
      have⟨b,hb,hb1,hb2⟩:=D.cl j oj hoj
      have hready:∀k∈b,listed.getD k false=true:=λk hk=>by
        rcases hb2 k hk with h1|⟨k',h1,b',h2,h3⟩
        · obtain⟨e,e1,e2,rfl⟩:=gB.1 h1
          grind
        · obtain⟨e,e1,e2,rfl⟩:=gB.1 h1
          grind
      have hib:∀b',bs[j]?=some b'->i∉b':=λb' hb' hm=>by
        grind
      have⟨f1,f2⟩:=hfree j oj hoj hji hjun hib
      have hst:=D4 hoj f1 (λcs b=>hsel i oi cs b hi) (λcs b=>hsel j oj cs b hoj) hQ f2 hS hy h1
      have hjl:j<listed.size:=by grind
      have hset:∀k,(listed.setIfInBounds j true).getD k false=true<->k=j\/listed.getD k false=true:=λk=>by
        by_cases hkj:k=j
        simp_all
        · rw[getD_set_ne false (k_ hkj)];grind
      have hcl':∀(j':Nat)(b:List Nat),(listed.setIfInBounds j true).getD j' false=true->bs[j']?=some b->∀k∈b,(listed.setIfInBounds j true).getD k false=true:=by
        grind
      have hfree':∀k ok,ops[k]?=some ok->k≠i->(listed.setIfInBounds j true).getD k true=false->(∀b,bs[k]?=some b->i∉b) ->
          oi.apart ops ok=true/\((∀w,S w)\/(wF ok/\∀w w',S w->Ext w w'->S w')):=λk ok hk hki hun hno=>by
        grind
      refine wpOp_mono (λa' w' h3=>ih (listed.setIfInBounds j true) a' w' (by grind) hcl' hfree' (ready_mono hr (k_ hji)) h3.2.1 h3.1 ?_) hst
      rw[Array.setIfInBounds_comm _ _ hji]
      grind
end
section
variable{P:Program}{E:gL}{n:Nat}{K:Ex->T->H->Prop}{ops:Array Oper}{is:List I}{bs:List (List Nat)}{m:Nat}(ow:Nat->Bool)
theorem LQ{x:X}(h:yL x=true)(g:Rz x=true):False:=by cases x<;>first|(cases g;done)|(cases h;done)
theorem KS{G:Nat->Prop}{ρ:List Value}{t:T}{h:H}{a:Act}{w:World}{o:Oper}{KK KP:V->T->H->Prop}(d:ak E n G ρ t h a w){x:X}(z:fj P o.type o.op=some x\/x=.bad)(u:yL x=true\/Rz x=true)(c:bq (Sat P) ow x t h KK KP) :
  (yL x=true/\YP P G w ρ a o KK t h)\/(Rz x=true/\YL P G w ρ a o KK t h):=by
 rcases z with z|rfl
 case inr=>exact c.elim
 rcases vm z (.inr u)with⟨y,v⟩|⟨y,v⟩|⟨y,i,v⟩|⟨ty,y,v⟩|⟨ty,v⟩|⟨y,v⟩|⟨ty,y,f,v⟩|⟨ty,ps,v⟩|⟨ty,m,ps,v⟩|⟨ty,y,C,D,mx,v⟩<;>rw[v]at z<;>simp only[fj]at z
 .split at z
  .cases z;rcases u with u|u<;>cases u
  .simp only[aG]at z;obtain⟨oy,b,rfl⟩:=z;exact .inl ⟨rfl,SI d (.inl v) b c⟩
 .split at z
  .cases z;rcases u with u|u<;>cases u
  .simp only[aG]at z;obtain⟨oy,b,rfl⟩:=z;exact .inl ⟨rfl,SI d (.inr v) b c⟩
 .simp only[aI,aD,aE]at z;obtain⟨oy,b,rfl⟩:=z;exact .inl ⟨rfl,VD (Sat P) ow d v b c⟩
 .have ld:(do some (X.ld (<-cX P ty y) (<-uj P ty)))=some x->Rz x=true/\YL P G w ρ a o KK t h:=λz=>by
   simp only[aI,aD,aE]at z;obtain⟨oy,b,m,r,rfl⟩:=z;exact⟨rfl,VB (Sat P) ow d v b r c⟩
  split at z
  .split at z
   .split at z
    .simp only[aI,aD]at z;have⟨k,hl,oy,b,z⟩:=z;split at z
     .cases z;rcases u with u|u<;>cases u
     grind
    grind
   grind
  grind
 .have al:(rM P ty).map X.al=some x->False:=λz=>by
   simp only[aG]at z;obtain⟨zs,e,rfl⟩:=z;rcases u with u|u<;>cases u
  exfalso;split at z
  .split at z
   .simp only[aI,aD]at z;have⟨zs,e,z⟩:=z;split at z
    .split at z
     .cases z;rcases u with u|u<;>cases u
     grind
    grind
   grind
  grind
 .simp only[aG]at z;obtain⟨oy,b,rfl⟩:=z;exact .inl ⟨rfl,VA (Sat P) ow d v b c⟩
 .split at z
  .rename_i fs j;simp only[aI,aD]at z;have⟨fd,s,z⟩:=z;split at z
   grind
   .rename_i e;simp only[aD,aE]at z;obtain⟨oy,b,rfl⟩:=z;exact .inl ⟨rfl,VC (Sat P) ow d v j s e b c⟩
  grind
 .split at z
  .rename_i fs j;simp only[aI,aD,aE]at z;obtain⟨pl,l,qs,g,zs,e,rfl⟩:=z;have⟨g1,A⟩:=lK g;refine .inl ⟨rfl,VE (Sat P) ow d v j l e ⟨by grind,λk p q u B=>?_⟩ c⟩;have:=A k p q (by grind) B;simp only[aD,aE]at this
   grind
  grind
 .exfalso;split at z
  .simp only[aI,aD]at z;have⟨qs,g,zs,e,z⟩:=z;split at z
   .cases z;rcases u with u|u<;>cases u
   .split at z
    grind
    .cases z;rcases u with u|u<;>cases u
  grind
 .exfalso;split at z
  .split at z
   grind
   .simp only[aI,aD,aE]at z;obtain⟨_,_,_,_,_,_,_,_,rfl⟩:=z;rcases u with u|u<;>cases u
  .split at z
   .simp only[aI,aD,aE]at z;obtain⟨_,_,_,_,_,_,rfl⟩:=z;rcases u with u|u<;>cases u
   grind
  grind
theorem Pb{o:Oper}{x:X}(z:fj P o.type o.op=some x\/x=.bad)(hs:Fq x=true):wF o:=by
 rcases z with z|rfl
 case inr=>cases hs
 rcases vm z (.inl hs)with⟨y,u⟩|⟨y,u⟩|⟨y,i,u⟩|⟨ty,y,u⟩|⟨ty,u⟩|⟨y,u⟩|⟨ty,y,f,u⟩|⟨ty,ps,u⟩|⟨ty,m,ps,u⟩|⟨ty,y,b,c,mx,u⟩<;>unfold wF<;>rw[u]at z⊢<;>try trivial
 .simp only[fj,aG]at z;obtain⟨oy,v,rfl⟩:=z;cases hs
 .exfalso;simp only[fj]at z;split at z
  .simp only[aI,aD]at z;have⟨fd,d,z⟩:=z;split at z
   grind
   .simp only[aD,aE]at z;obtain⟨oy,v,rfl⟩:=z;cases hs
  grind
theorem Ba{x y:Oper}(h:x.apart ops y=true):y.apart ops x=true:=by
 unfold Oper.apart at *
 grind
theorem R7(h:Uy ops bs m=true):(∀(j:Nat)(o:Oper) cs b,ops[j]?=some o->o.op≠.select cs b)/\∀(i k:Nat)(x y:Oper)(z bk:List Nat),i<m->k<m->i≠k->ops[i]?=some x->ops[k]?=some y->bs[i]?=some z->bs[k]?=some bk->i∉bk->k∉z->x.apart ops y=true:=by
 unfold Uy at h;rw[aP]at h;have⟨l,p⟩:=h;refine⟨λj o cs b q he=>?_,?_⟩
 .have:=aS.1 l o (fY.2 (Array.mem_of_getElem? q));unfold Nd at this
  grind
 .have key:∀(i k:Nat)(x y:Oper)(bk:List Nat),i<k->k<m->ops[i]?=some x->ops[k]?=some y->bs[k]?=some bk->i∉bk->x.apart ops y=true:=by
   intro i k x y bk u f v c r s;have g:=aS.1 (aS.1 p k (cn.2 f)) i (cn.2 u);rw[r,v,c,bo]at g;have:has bk i=false:=by
    cases A:has bk i with
    |false=>rfl
    |true=>exact absurd (cK.1 A) s
   grind
  intro i k x y z bk B f d v c e C g D;rcases Nat.lt_or_gt_of_ne d with h|h
  grind
  .exact Ba (key k i y x z h B c v e D)
def Jz(E:gL)(n:Nat)(K:Ex->T->H->Prop)(q:List (I×List Nat))(s:List I)(is:List I)(bs:List (List Nat))(m:Nat)(P:Program)(listed:Array Bool)(a:Act)(w:World):Prop:=
  (∀(j:Nat)(b:List Nat),listed.getD j false=true->bs[j]?=some b->∀k∈b,listed.getD k false=true) /\
  ((∃ (done : List Nat) (k : Nat) (G : Nat → Prop) (ρ : List Value) (t : T) (h : H), done.Nodup ∧ done.length + k = m ∧ (∀ j, listed.getD j false = true ↔ j ∈ done) ∧ (∀ j ∈ done, j < m) ∧ ak E n G ρ t h a w ∧ PE (Sat P) ow q s k done t h K) ∨
   ∃(k:Nat)(G:Nat->Prop)(ρ:List Value)(t:T)(h:H),m<=k/\(∀j,listed.getD j false=true<->j<k)/\ak E n G ρ t h a w/\rx (Sat P) ow (is.drop k) t h K)
theorem NC (D:U9 P n ops is bs m) (hap:Uy ops bs m=true) (hnp:∀v t h,¬K (.fg v) t h) {q:List (I×List Nat)} (hq:q=(is.zip bs).take m):∀(fuel:Nat) (listed:Array Bool) (a:Act) (w:World),listed.size=ops.size→listed.toList.count false≤fuel →
    Jz ow E n K q (is.drop m) is bs m P listed a w->wpAny P .any ops (QK E n K) fuel listed a w:=by
  have hil:=D.il
  have hbl:=D.bl
  have hml:=D.ml
  have⟨hsel,hap⟩:=R7 hap
  have hQ:∀c a w,¬QK E n K (.panic c) a w:=λc a w ⟨_,_,_,_,_,_,_,_,_,hk⟩=>hnp _ _ _ hk
  have hqg:∀(j:Nat)(x:I)(b:List Nat),j<m->is[j]?=some x->bs[j]?=some b->q[j]?=some (x,b):=λj x b hj hx hb=>by
    grind
  have hql:q.length=m:=by grind
  have turn:∀(listed:Array Bool)(a:Act)(w:World),Jz ow E n K q (is.drop m) is bs m P listed a w->(∀j,j<m->listed.getD j false=true) ->
      ∃(k:Nat)(G:Nat->Prop)(ρ:List Value)(t:T)(h:H),m<=k/\(∀j,listed.getD j false=true<->j<k)/\ak E n G ρ t h a w/\rx (Sat P) ow (is.drop k) t h K:=by
    intro listed a w ⟨_,h3⟩ hall
    rcases h3 with⟨done,k,G,ρ,t,h,d1,d2,d3,d4,hC,hk⟩|h3
    · have hk0:k=0:=by
        have h1:(List.range m).length<=done.length:=yY qF λj hj=>(d3 j).1 (hall j (cn.1 hj))
        grind
      subst hk0
      exact⟨m,G,ρ,t,h,aM _,λj=>⟨λhj=>d4 j ((d3 j).1 hj),hall j⟩,hC,hk⟩
    grind
  have fin:∀(listed:Array Bool)(a:Act)(w:World),listed.size=ops.size->Jz ow E n K q (is.drop m) is bs m P listed a w->Region.ready .any ops listed=[]->QK E n K .normal a w:=by
    intro listed a w hs hI hr
    have hall:=zC D hr hs
    have⟨k,G,ρ,t',h',k1,k3,hC,hk⟩:=turn listed a w hI (λj hj=>hall j (by omega))
    have hkk:ops.size<=k:=by
      grind
    rw[et (by omega)]at hk
    exact⟨G,ρ,t',h',hC,hk⟩
  intro fuel
  induction fuel with
  |zero=>
    intro listed a w hs hc hI
    have hall:∀j,j<ops.size->listed.getD j false=true:=λj hj=>by
      have hj':j<listed.size:=by omega
      have h0:listed.toList.count false=0:=by omega
      rw[List.count_eq_zero]at h0
      cases hv:listed[j] with
      |true=>simp_all
      |false=>grind
    have hr:Region.ready .any ops listed=[]:=by
      rw[ko]
      intro j hj
      have⟨h1,o,h2,_⟩:=mem_ready.1 hj
      grind
    exact⟨hr,fin listed a w hs hI hr⟩
  |succ fuel ih=>
    intro listed a w hs hc hI
    have mem_redy:∀{done:List Nat}{j:Nat},j∈sq q done->j<m/\j∉done/\∃(x:I)(b:List Nat),is[j]?=some x/\bs[j]?=some b/\q[j]?=some (x,b)/\∀k∈b,k∈done:=by
      intro done j hj
      unfold sq at hj
      rw[dh,cn]at hj
      have⟨h1,h2⟩:=hj
      rw[hql]at h1
      have hx:=aA (show j<is.length by omega)
      have hb:=aA (show j<bs.length by omega)
      have hqj:=hqg j _ _ h1 hx hb
      rw[get?_eq,hqj]at h2
      simp only[aP,dF,aS]at h2
      refine⟨h1,λhd=>?_,_,_,hx,hb,hqj,λk hk=>cK.1 (h2.2 k hk)⟩
      rw[cK.2 hd]at h2
      grind
    by_cases hfi:∃(done:List Nat)(k:Nat)(G:Nat->Prop)(ρ:List Value)(t:T)(h:H)(j:Nat),done.Nodup/\done.length+(k+1)=m/\(∀j,listed.getD j false=true<->j∈done)/\(∀j∈done,j<m)/\ak E n G ρ t h a w/\tz q done=some j /\
        PE (Sat P) ow q (is.drop m) (k+1) done t h K
    · have⟨done,k,G,ρ,t,h,j,d1,d2,d3,d4,hC,hfj,hk⟩:=hfi
      have hjr:=List.mem_of_find?_eq_some hfj
      have hjf:=List.find?_some hfj
      have⟨hjm,hjd,x,b,hx,hb,hqj,hbd⟩:=mem_redy hjr
      obtain⟨o,ho⟩:∃o,ops[j]?=some o:=⟨_,aN (by omega)⟩
      have⟨x',hx',hci⟩:=D.ci j o ho
      obtain rfl:x'=x:=by grind
      have⟨b',hb',hb1,hb2⟩:=D.cl j o ho
      obtain rfl:b'=b:=by grind
      rw[zT,hfj]at hk
      simp only[get?_eq,hqj]at hk
      unfold Cl at hjf
      rw[get?_eq,hqj]at hjf
      simp only[aP,cI]at hjf
      have⟨hg,hkind⟩:=hjf
      have hg:x'.g=none:=by
        cases hgg:x'.g with
        |none=>rfl
        |some _=>grind
      have⟨cx,hd,hlt,hgo⟩:=nO hci
      have hgo:o.guard=none:=by
        cases hgg:o.guard with
        |none=>rfl
        |some p=>
          rw[hgg]at hgo
          have⟨d,_,e⟩:=hgo
          grind
      simp only[Bz,hg]at hk
      have hwn:Region.wanted o (yielded ops a.tmps)=true:=by simp[Region.wanted,hgo]
      have hready:∀k∈b',listed.getD k false=true:=λk hk=>(d3 k).2 (hbd k hk)
      have hnl:¬listed.getD j false=true:=λhh=>hjd ((d3 j).1 hh)
      have hjl:j<listed.size:=by omega
      have hrdy:j∈Region.ready .any ops listed:=by
        rw[mem_ready]
        refine⟨by grind,o,ho,λe he hbd=>?_⟩
        exact hready _ (hb1 _ (gB.2 ⟨e,he,hbd,rfl⟩))
      have hset:∀k,(listed.setIfInBounds j true).getD k false=true<->k=j\/listed.getD k false=true:=λk=>by
        by_cases hkj:k=j
        · subst hkj;simp[hjl]
        · rw[getD_set_ne false (k_ hkj)];simp[hkj]
      have jb:∀(j':Nat)(b:List Nat),(listed.setIfInBounds j true).getD j' false=true->bs[j']?=some b->∀k∈b,(listed.setIfInBounds j true).getD k false=true:=by
        intro j' b' h1 h2 k hk
        rw[hset]at h1⊢
        rcases h1 with rfl|h1
        grind
        · exact .inr (hI.1 j' b' h1 h2 k hk)
      have hcnt:(listed.setIfInBounds j true).toList.count false<=fuel:=by
        have:=count_set (show listed.getD j true=false by grind)
        omega
      have hsz:(listed.setIfInBounds j true).size=ops.size:=by grind
      have next:∀(v':Value)(v:V),au G w ρ v' v->(ub x'.d v t λt=>PE (Sat P) ow q (is.drop m) k (j::done) t h K)->wpAny P .any ops (QK E n K) fuel (listed.setIfInBounds j true) (a.put o.dst v') w:=by
        intro v' v hv hput
        rw[fU,hd]at hput
        refine ih _ _ _ hsz hcnt ⟨jb,.inl ⟨j::done,k,G,ρ,_,h,cm.2 ⟨hjd,d1⟩,by grind,λx=>by grind,λx hx=>?_,hC.fk o.dst hlt hv,hput⟩⟩
        grind
      have apart:∀k ok,ops[k]?=some ok->k≠j->listed.getD k true=false->(∀b,bs[k]?=some b->j∉b)->k<m/\o.apart ops ok=true:=by
        intro k ok hok hkj hun hno
        have hkl:k<ops.size:=(aQ.1 hok).1
        obtain⟨bk,hbk⟩:∃bk,bs[k]?=some bk:=⟨_,aA (by omega)⟩
        have hkm:k<m:=by
          rcases de k m with h|h
          grind
          · exact absurd (D.fu k bk h hbk j (by omega)) (hno bk hbk)
        grind
      rcases KS ow hC cx (hkind.imp id λh=>h.1) hk with⟨hpu,v',v,hrun,hv,hput⟩|⟨hld,v',v,hrun,hv,hput⟩
      · exact sY (S:=λ_=>True) D ho hsel hQ fuel listed a w hs hI.1 (λk ok hok hkj hun hno=>⟨(apart k ok hok hkj hun hno).2,.inl λ_=>trivial⟩) hrdy (.inl ⟨hwn,λw2 _=>hrun w2⟩) trivial (next v' v hv hput)
      · rcases hkind with hpu|⟨_,hall⟩
        · exact(LQ hpu hld).elim
        · refine sY (S:=Ext w) D ho hsel hQ fuel listed a w hs hI.1 (λk ok hok hkj hun hno=>?_) hrdy (.inl ⟨hwn,hrun⟩) (Ext.refl w) (next v' v hv hput)
          have⟨hkm,hapk⟩:=apart k ok hok hkj hun hno
          refine⟨hapk,.inr ⟨?_,λw1 w2 h1 h2=>h1.trans h2⟩⟩
          have⟨xk,hxk,hcik⟩:=D.ci k ok hok
          obtain⟨bk,hbk⟩:∃bk,bs[k]?=some bk:=⟨_,aA (by omega)⟩
          have hqk:=hqg k xk bk hkm hxk hbk
          have h3:=aS.1 hall k (cn.2 (by omega))
          rw[get?_eq,hqk]at h3
          simp only[cI]at h3
          have hks:k<listed.size:=by omega
          rcases h3 with h3|h3|h3|h3
          · have:=(d3 k).2 (cK.1 h3)
            grind
          · exact absurd (kH h3) hkj
          · exact absurd (cK.1 h3) (hno bk hbk)
          · exact Pb (nO hcik).1 h3
    · refine ⟨fin listed a w hs hI, fun j hj => ?_⟩
      have⟨hun,o,ho,hdep⟩:=mem_ready.1 hj
      have hjs:j<ops.size:=(aQ.1 ho).1
      have hjl:j<listed.size:=by omega
      have hnl:¬listed.getD j false=true:=by grind
      have⟨b,hb,hb1,hb2⟩:=D.cl j o ho
      have⟨i,hi,hci⟩:=D.ci j o ho
      have hready:∀k∈b,listed.getD k false=true:=λk hk=>by
        rcases hb2 k hk with h1|⟨k',h1,b',h2,h3⟩
        · obtain⟨e,e1,e2,rfl⟩:=gB.1 h1
          grind
        · obtain⟨e,e1,e2,rfl⟩:=gB.1 h1
          exact hI.1 _ b' (hdep e e1 e2) h2 k h3
      have hset:∀k,(listed.setIfInBounds j true).getD k false=true<->k=j\/listed.getD k false=true:=λk=>by
        by_cases hkj:k=j
        · subst hkj;simp[hjl]
        · rw[getD_set_ne false (k_ hkj)];grind
      have jb:∀(j':Nat)(b:List Nat),(listed.setIfInBounds j true).getD j' false=true->bs[j']?=some b->∀k∈b,(listed.setIfInBounds j true).getD k false=true:=by
        intro j' b' h1 h2 k hk
        rw[hset]at h1⊢
        rcases h1 with rfl|h1
        grind
        · exact .inr (hI.1 j' b' h1 h2 k hk)
      have hcnt:(listed.setIfInBounds j true).toList.count false<=fuel:=by have:=count_set hun;omega
      have hsz:(listed.setIfInBounds j true).size=ops.size:=by grind
      have go:(if Region.wanted o (yielded ops a.tmps)then o.wp P a w (wpAny P .any ops (QK E n K) fuel (listed.setIfInBounds j true)) (QK E n K)else wpAny P .any ops (QK E n K) fuel (listed.setIfInBounds j true) (a.put o.dst undef) w) ->
          wpOp P ops (QK E n K) j (wpAny P .any ops (QK E n K) fuel (listed.setIfInBounds j true)) a w:=by
        intro hg
        unfold wpOp
        simp only[ho]
        grind
      refine go ?_
      by_cases hjm:j<m
      · rcases hI.2 with⟨done,k,G,ρ,t,h,d1,d2,d3,d4,hC,hk⟩|⟨k,G,ρ,t,h,k1,k3,_⟩
        · have hjd:j∉done:=λhd=>hnl ((d3 j).2 hd)
          have hk0:k≠0:=by
            intro e
            have h1:(j::done).length<=(List.range m).length:=yY (cm.2 ⟨hjd,d1⟩) λx hx=>by
              grind
            grind
          obtain⟨k,rfl⟩:∃k',k=k'+1:=⟨k-1,by omega⟩
          have hno:tz q done=none:=by
            cases hf:tz q done with
            |none=>rfl
            |some j'=>exact absurd ⟨done,k,G,ρ,t,h,j',d1,d2,d3,d4,hC,hf,hk⟩ hfi
          rw[zT,hno]at hk
          have hqj:=hqg j i b hjm hi hb
          have hmem:j∈sq q done:=by
            unfold sq
            rw[dh,cn]
            refine⟨by omega,?_⟩
            rw[get?_eq,hqj]
            simp only[aP,dF,aS]
            refine⟨?_,λx hx=>cK.2 ((d3 x).1 (hready x hx))⟩
            cases hh:has done j with
            |false=>rfl
            |true=>exact absurd (cK.1 hh) hjd
          have hk2:=uS hk j hmem
          rw[get?_eq,hqj]at hk2
          exact yA ow hC hci hk2 (λa' w' G' ρ' t' h' hC' hk'=>ih _ _ _ hsz hcnt ⟨jb,.inl ⟨j::done,k,G',ρ',t',h',cm.2 ⟨hjd,d1⟩,by grind,λx=>by grind,λx hx=>by
            grind,hC',hk'⟩⟩) PQ.qk
        grind
      · have hall:∀i,i<m->listed.getD i false=true:=λi hi=>hready i (D.fu j b (by omega) hb i (by omega))
        have⟨k,G,ρ,t',h',k1,k3,hC,hk⟩:=turn listed a w hI hall
        have hjk:j=k:=by
          have h1:k<=j:=by
            grind
          rcases de k j with h2|h2
          · have:=(k3 k).1 (hready k (D.fu j b (by omega) hb k h2));omega
          grind
        subst hjk
        have hdrop:is.drop j=i::is.drop (j+1):=by
          have hlt:j<is.length:=by omega
          rw[bO hlt]
          grind
        rw[hdrop]at hk
        exact rp ow hC hci hk (λa' w' G' ρ' t' h' hC' hk'=>ih _ _ _ hsz hcnt ⟨jb,.inr ⟨j+1,G',ρ',t',h',by omega,λk=>by rw[hset,k3];omega,hC',hk'⟩⟩) PQ.qk
end
end Go.Vx
