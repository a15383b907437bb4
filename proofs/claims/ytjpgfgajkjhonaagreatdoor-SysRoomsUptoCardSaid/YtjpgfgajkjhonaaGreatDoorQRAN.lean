/- Lemmas. Conditions: none. -/
import Derived.Test.YtjpgfgajkjhonaaGreatDoorQRAM
import Derived.OrdersHeld
namespace Go.Vx
section
variable {P:Program} {E:gL} {n:Nat} {G G':Nat→Prop} {ρ ρ':List Value} {t:T} {h h':H} {a:Act} {w w':World}
def CI (w:World) (b:Nat):Prop:=(∃r,w.heap[b]? = some (.loop r))∨∃ds,w.heap[b]? = some (.deferred ds)
theorem CI.Vi {b:Nat} (h:CI w b) (hc:KO w b):False:=by
 obtain ⟨x,y,z,hc⟩:=hc;rcases h with ⟨r,h⟩ | ⟨r,h⟩<;>rw [hc] at h<;>cases h
theorem CI.lt {b:Nat} (h:CI w b):b<w.heap.size:=by
 rcases h with ⟨r,h⟩ | ⟨r,h⟩<;>exact (aQ.1 h).1
theorem cY.Ad {hd:Value} {x:B} {r:Nat} (hb:cY G w ρ hd x) (hn:x≠.no) (hr:r∈eU hd x) (h:CI w r):False:=by
 rcases h with ⟨_,h⟩ | ⟨_,h⟩<;>rcases hb.obj hn hr with ⟨_,_,h1⟩ | ⟨_,_,h1⟩ | ⟨_,_,_,_,h1⟩<;>(rw [h] at h1;cases h1)
theorem HR.Ad (hr:HR G w ρ h) {b:Nat} (hb:CI w b):¬own ρ h b:=λ⟨id,v,x,h1,h2,h3,h4⟩=>(hr.rep id v x h1 h2).Ad h3 h4 hb
theorem Ok.ng (hO:Ok E G w ρ h) {l:Nat} (hl:CI w l) (he:¬E.G l):¬G l:=λhg=>(hO.go l hg).elim he λh=>hl.Vi h.1
theorem Ok.comp {ds':List Deferred} {ms':List Nat} (hO:Ok E G w ρ h) (hms:∀r∈E.ms,r∈ms') (hP:Ok ⟨w,G,ρ,h,ds',ms'⟩ G' w' ρ' h'):Ok E G' w' ρ' h':=by
 refine ⟨hP.hr,λb hb=>hP.gm b (hO.gm b hb),λb hb=>?_,λb hb=>?_,λb hb hn=>?_,aV hO.size hP.size,hP.os.trans hO.os,hP.tape.trans hO.tape,hP.out.trans hO.out,
  λid v hv hs=>hP.hand id v (hO.hand id v hv hs) hs,aV hO.hl hP.hl,λr hr=>hP.sC r (hms r hr)⟩
 ·rcases hP.go b hb with h1 | ⟨h1,h2⟩
  ·rcases hO.go b h1 with h3 | ⟨h3,h4⟩
   grind
   ·exact .inr ⟨h3.same (hP.frame b (hO.hr.gl b h1) (hO.hr.gd b h1)),h4⟩
  ·refine .inr ⟨h1,?_⟩;rcases h2 with h2 | h2
   ·exact .inl (aV hO.size h2)
   ·exact hO.oo b h2
 ·rcases hP.oo b hb with h1 | h1
  ·exact .inl (aV hO.size h1)
  ·exact hO.oo b h1
 ·refine (hP.frame b (b9 hb hO.size) λho=>?_).trans (hO.frame b hb hn);rcases hO.oo b ho with h1 | h1
  grind
  grind
theorem Ok.G0 (hO:Ok E G w ρ h) {l:Nat} (hl:CI w l) (hE:E.w.heap.size≤l) (hg:¬G l) {ms:List Nat} (hm:∀r∈ms,r∈E.ms∧r≠l) {ds:List Deferred} (o:Obj):Ok { E with ds:=ds,ms:=ms } G (w.putObj l o) ρ h:=by
 have hw:∀b,b≠l→(w.putObj l o).heap[b]? = w.heap[b]?:=λ_ hb=>World.putObj_heap_other hb;have hG:∀b,G b→(w.putObj l o).heap[b]? = w.heap[b]?:=λb hb=>hw b λe=>hg (e ▸ hb);have hn:=hO.hr.Ad hl;refine ⟨⟨hO.hr.len,λid v x hv hx=>?_,hO.hr.oB,λb hb=>by rw [World.putObj_size];exact hO.hr.gl b hb,hO.hr.gd,hO.hr.sF.mono (λ_ h=>h) hG⟩,hO.gm,λb hb=>(hO.go b hb).imp (λh=>h) λh2=>⟨h2.1.same (hG b hb),h2.2⟩,hO.oo,
  λb hb hno=>(hw b λe=>?_).trans (hO.frame b hb hno),by rw [World.putObj_size];exact hO.size,hO.os,hO.tape,hO.out,hO.hand,hO.hl,λr hr=>?_⟩
 ·by_cases hx0:x = .no
  ·subst hx0;trivial
  ·exact (hO.hr.rep id v _ hv hx).mono (λ_ h=>h) hG (λb hb=>hw b λe=>hn (e ▸ ⟨id,v,x,hv,hx,hx0,hb⟩)) (λ_ _=>rfl)
 grind
 ·obtain ⟨h1,h2⟩:=hm r hr;obtain ⟨g1,g2,g3⟩:=hO.sC r h1
  grind
theorem pU {v:Value} {x:V} (hv:au G w ρ v x) {l:Nat} (hg:¬G l) (o:Obj):au G (w.putObj l o) ρ v x:=
 hv.mono (λ_ h=>h) (λ_ hb=>World.putObj_heap_other λe=>hg (e ▸ hb)) (λ_ _=>rfl)
theorem dL.ns {v:Value} {x:V} (hv:dL G w ρ v x) (hs:NS x=false):∀i∈ij x,∃u,ρ[i]? = some u∧kN u=false:=by
 intro i hi;cases hv with
 |p id off b h=>simp only [ij,aL] at hi;subst hi;exact ⟨_,h,rfl⟩
 |mp id r h=>simp only [ij,aL] at hi;subst hi;exact ⟨_,h,rfl⟩
 |it id r m h=>simp only [ij,aL] at hi;subst hi;exact ⟨_,h,rfl⟩
 |os id a n c h=>cases hs
 |q id z i off b n c h=>cases hs
 |ov id z i _ a n c h hv=>cases hs
 |_=>simp [ij] at hi
theorem VP {x:V} (h:NT x=false):NS x=false:=by cases x<;>first | exact h | rfl
theorem VR {x:V} (h:Rq x=false):NT x=false:=by cases x<;>first | exact h | rfl
theorem VQ {x:V} (h:KH x=false):Rq x=false:=by cases x<;>first | exact h | rfl
theorem dI.ns {v:Value} {x:V} (hv:dI G w ρ v x) (hs:NT x=false):∀i∈kI x,∃u,ρ[i]? = some u∧kN u=false:=by
 intro i hi;cases hv with
 |k h=>
  have e:kI x=ij x:=by cases h<;>rfl
  exact h.ns (VP hs) i (e ▸ hi)
 |fc f u cs caps h0 h1 h2=>
  simp only [kI,aO] at hi;obtain ⟨y,hy,hi⟩:=hi;obtain ⟨k,hk⟩:=aj.1 hy;simp only [NT,List.any_eq_false] at hs;exact (h2 k y hk).ns (by grind) i hi
theorem dM.ns {v:Value} {x:V} (hv:dM G w ρ v x) (hs:Rq x=false):∀i∈jJ x,∃u,ρ[i]? = some u∧kN u=false:=by
 intro i hi;cases hv with
 |c h=>
  have e:jJ x=kI x:=by
   cases h with
   |k h=>cases h<;>rfl
   |fc=>rfl
  exact h.ns (VR hs) i (e ▸ hi)
 |ag cs vs h1 h2=>
  simp only [jJ,aO] at hi;obtain ⟨y,hy,hi⟩:=hi;obtain ⟨k,hk⟩:=aj.1 hy;simp only [Rq,List.any_eq_false] at hs;exact (h2 k y hk).ns (by grind) i hi
theorem au.ns {v:Value} {x:V} (hv:au G w ρ v x) (hs:KH x=false):∀i∈eT x,∃u,ρ[i]? = some u∧kN u=false:=by
 intro i hi;cases hv with
 |o h=>
  have e:eT x=jJ x:=by
   cases h with
   |c h=>cases h with
    |k h=>cases h<;>rfl
    |fc=>rfl
   |ag=>rfl
  exact h.ns (VQ hs) i (e ▸ hi)
 |tu cs vs h1 h2=>
  simp only [eT,aO] at hi;obtain ⟨y,hy,hi⟩:=hi;obtain ⟨k,hk⟩:=aj.1 hy;simp only [KH,List.any_eq_false] at hs;exact (h2 k y hk).ns (by grind) i hi
def lV (G:Nat→Prop) (w:World) (ρ:List Value) (G':Nat→Prop) (w':World) (ρ':List Value):Prop:=
 (∀b,G b→G' b∧w'.heap[b]? = w.heap[b]?)∧∀(i:Nat) (u:Value),ρ[i]? = some u→kN u=false→ρ'[i]? = some u
theorem lV.refl:lV G w ρ G w ρ :=⟨λ_ h=>⟨h,rfl⟩,λ_ _ h _=>h⟩
theorem lV.trans {G1 G2:Nat→Prop} {w1 w2:World} {ρ1 ρ2:List Value} (h:lV G w ρ G1 w1 ρ1) (k:lV G1 w1 ρ1 G2 w2 ρ2):lV G w ρ G2 w2 ρ2:=
 ⟨λb hb=>let h1:=h.1 b hb;let h2:=k.1 b h1.1;⟨h2.1,h2.2.trans h1.2⟩,λi u hi hu=>k.2 i u (h.2 i u hi hu) hu⟩
theorem lV.put {l:Nat} (hg:¬G l) (o:Obj):lV G w ρ G (w.putObj l o) ρ :=⟨λ_ hb=>⟨hb,World.putObj_heap_other λe=>hg (e ▸ hb)⟩,λ_ _ h _=>h⟩
theorem Ok.stay {ds:List Deferred} {ms:List Nat} (hr:HR G w ρ h) (hP:Ok ⟨w,G,ρ,h,ds,ms⟩ G' w' ρ' h'):lV G w ρ G' w' ρ':=
 ⟨λb hb=>⟨hP.gm b hb,hP.frame b (hr.gl b hb) (hr.gd b hb)⟩,hP.hand⟩
theorem lV.rep (hS:lV G w ρ G' w' ρ') {v:Value} {x:V} (hv:au G w ρ v x) (hs:KH x=false):au G' w' ρ' v x:=
 hv.mono (λb hb=>(hS.1 b hb).1) (λb hb=>(hS.1 b hb).2) (λi hi=>let ⟨u,h1,h2⟩:=hv.ns hs i hi;(hS.2 i u h1 h2).trans h1.symm)
theorem lV.VY (hS:lV G w ρ G' w' ρ') {v:Value} {x:V} (hv:dL G w ρ v x) (hs:NS x=false):dL G' w' ρ' v x:=
 hv.mono (λb hb=>(hS.1 b hb).1) (λb hb=>(hS.1 b hb).2) (λi hi=>let ⟨u,h1,h2⟩:=hv.ns hs i hi;(hS.2 i u h1 h2).trans h1.symm)
def Tn (r:Nat):Deferred:={ target:=.collected r,args:= #[] }
def mR (E E':gL):Prop:=∃l:List Nat,E'={ E with ds:=l.map Tn++E.ds,ms:=l++E.ms }∧(E.ms.Nodup→(l++E.ms).Nodup)∧∀r∈l,E.w.heap.size≤r
theorem mR.refl (E:gL):mR E E:=⟨[],rfl,λh=>h,by simp⟩
theorem mR.trans {E E1 E2:gL} (h:mR E E1) (k:mR E1 E2):mR E E2:=by
 obtain ⟨l,rfl,h1,h2⟩:=h;obtain ⟨m,rfl,k1,k2⟩:=k;refine ⟨m++l,by simp,λh=>by grind,λr hr=>?_⟩
 grind
theorem mR.ew {E E1:gL} (h:mR E E1):E1.w=E.w:=by obtain ⟨l,rfl,_⟩:=h;rfl
theorem mR.eG {E E1:gL} (h:mR E E1):E1.G=E.G:=by obtain ⟨l,rfl,_⟩:=h;rfl
theorem mR.er {E E1:gL} (h:mR E E1):E1.ρ=E.ρ :=by obtain ⟨l,rfl,_⟩:=h;rfl
theorem mR.eh {E E1:gL} (h:mR E E1):E1.h=E.h:=by obtain ⟨l,rfl,_⟩:=h;rfl
def wg:Code→Bool
 |.seq a b=>wg a&&wg b
 |.cond _ a b=>wg a&&wg b
 |.block _ c=>wg c
 |.loop c=>wg c
 |.rangeFunc _ _ _ _=>false
 |_=>true
def QM (b:Bool) (E:gL) (n:Nat) (K:Ex→T→H→Prop) (e:Exit) (a:Act) (w:World):Prop:=
 ∃E',mR E E'∧(b=true→E'=E)∧QK E' n K e a w
theorem QM.of {b:Bool} {K:Ex→T→H→Prop} {e:Exit} (h:QK E n K e a w):QM b E n K e a w:=⟨E,.refl E,λ_=>rfl,h⟩
theorem QM.qk {K:Ex→T→H→Prop} {e:Exit} (h:QM true E n K e a w):QK E n K e a w:=by
 obtain ⟨E',h1,h2,h3⟩:=h
 grind
def PG (r:Option Nat) (E:gL):Prop:=∀l,r=some l→(∃rec,E.w.heap[l]? = some (.loop rec))∧¬own E.ρ E.h l
theorem PG.none (E:gL):PG none E:=λ_ h=>by cases h
theorem PG.mk {r:Option Nat} {E E1:gL} (h:PG r E) (hm:mR E E1):PG r E1:=by
 obtain ⟨l,rfl,_⟩:=hm;exact h
def WK (P:Program) (ow:Nat→Bool) (n:Nat) (c:Code) (x:C):Prop:=
  ∀(r:Option Nat) (N:Nat) (E:gL),E.ρ.length=E.h.length→PG r E→∀(G:Nat→Prop) (ρ:List Value) (t:T) (h:H) (a:Act) (w:World) (K:Ex→T→H→Prop),ak E n G ρ t h a w →
    wx (Sat P) ow E.h.length x t h K→c.wpIn (Fw r) N P (QM (wg c) E n K) a w
theorem LH {d:D} (h:S7 d):bp G w (rW d) d:=by
 cases d with
 |int k n=>exact .int k n
 |bool b=>exact .bool b
 |str s=>
  have:=bp.str (G:=G) (w:=w) ⟨s.toArray⟩ (by assumption)
  assumption
 |_=>exact h.elim
theorem Qb:∀(ps:List Nat) (r:List D) (t:T) (u:Array Value),(∀p∈ps,p<u.size)→(∀d∈r,S7 d)→(∀i,au G w ρ (u.getD i undef) (gs t i)) →
  ∀i,au G w ρ (((ps.zip (r.map rW)).foldl (λt (p,v)=>t.setIfInBounds p v) u).getD i undef) (gs (Ry ps r t) i):=by
 intro ps
 induction ps with
 |nil=>intro r t u _ _ h;exact h
 |cons p ps ih=>
  intro r t u hp hr h;cases r with
  |nil=>exact h
  |cons d r=>
   refine ih r _ (u.setIfInBounds p (rW d)) (λq hq=>by grind) (λx hx=>hr x (by grind)) (λi=>?_);have hpl:=hp p (by simp);rw [gI]
   by_cases e:p=i
   ·subst e;simp only [fV,δ];have:=LH (G:=G) (w:=w) (hr d (by simp));simpa [Array.getElem?_setIfInBounds,hpl] using (au.o (.c (.k (.d this))):au G w ρ _ _)
   ·rw [fm e,ε];simp_all
theorem Ea:∀(l:List (Nat×Value)) (u:Array Value),(l.foldl (λt (p,v)=>t.setIfInBounds p v) u).size=u.size:=by
 intro l
 induction l with
 |nil=>grind
 |cons x l ih=>grind
theorem MI {T0:T} (h:(T0.all λp=> !(KH p.2))=true) (i:Nat):KH (gs T0 i)=false:=by
 rcases (show gs T0 i = .un∨∃p∈T0,p.2=gs T0 i from by
  induction T0 with
  |nil=>exact .inl rfl
  |cons p T0 ih=>
   simp only [lA,aP] at h;rw [gI]
   grind) with e | ⟨p,hp,e⟩
 ·rw [e];rfl
 grind
end
def ff {α:Type}:Sem α→Prop
 |.pure _=>True
 |.load _ _ k=>∀v,ff (k v)
 |.new _ k=>∀r,ff (k r)
 |.shape _ k=>∀s,ff (k s)
 |.frozen _ k=>∀b,ff (k b)
 |.program k=>∀p,ff (k p)
 |.mark _ k=>ff k
 |.choose _ k=>∀n,ff (k n)
 |.halt _=>True
 |_=>False
theorem AP {α β:Type} {f:α→Sem β} (hf:∀a,ff (f a)) (s:Sem α):ff s→ff (s.bind f):=by
 induction s with
 |pure a=>intro _;exact hf a
 |load _ _ _ ih=>intro h v;exact ih v (h v)
 |new _ _ ih=>intro h v;exact ih v (h v)
 |shape _ _ ih=>intro h v;exact ih v (h v)
 |frozen _ _ ih=>intro h v;exact ih v (h v)
 |program _ ih=>intro h v;exact ih v (h v)
 |mark _ _ ih=>assumption
 |choose _ _ ih=>intro h v;exact ih v (h v)
 |halt _=>intro _;trivial
 |_=>intro h;exact h.elim
theorem bD {α β:Type} {f:α→Sem β} {s:Sem α} (hf:∀a,ff (f a)) (h:ff s):ff (s.bind f):=AP hf s h
def Ext (w w':World):Prop:=w.heap.size≤w'.heap.size∧∀b,b<w.heap.size→w'.heap[b]? = w.heap[b]?
theorem Ext.refl (w:World):Ext w w:=⟨aM _,λ_ _=>rfl⟩
theorem Ext.trans {a b c:World} (h:Ext a b) (g:Ext b c):Ext a c:=
 ⟨aV h.1 g.1,λx hx=>by rw [g.2 x (b9 hx h.1),h.2 x hx]⟩
theorem j0 {α:Type} {P:Program}:∀{s:Sem α},ff s→∀{w w':World} {x:α},s.run P w = .ok x w'→Ext w w'
 |.pure _,_,w,w',x,hr=>by
  simp only [Sem.run,Result.ok.injEq] at hr;rw [←hr.2];exact Ext.refl w
 |.load m a k,h,w,w',x,hr=>by
  simp only [Sem.run] at hr;split at hr
  ·exact j0 (h _) hr
  ·split at hr
   ·exact j0 (h _) hr
   grind
 |.new o k,h,w,w',x,hr=>by
  simp only [Sem.run] at hr;refine Ext.trans ?_ (j0 (h _) hr);exact ⟨by simp,λb hb=>by grind⟩
 |.shape _ k,h,w,w',x,hr=>by
  simp only [Sem.run] at hr;exact j0 (h _) hr
 |.frozen _ k,h,w,w',x,hr=>by
  simp only [Sem.run] at hr;exact j0 (h _) hr
 |.program k,h,w,w',x,hr=>by
  simp only [Sem.run] at hr;exact j0 (h _) hr
 |.mark _ k,h,w,w',x,hr=>by
  simp only [Sem.run] at hr;exact j0 (s:=k) h hr
 |.choose _ k,h,w,w',x,hr=>by
  simp only [Sem.run] at hr;split at hr
  all_goals
   have h1:=j0 (h _) hr;exact ⟨h1.1,h1.2⟩
 |.halt _,_,w,w',x,hr=>by
  simp_all
def wF (o:Oper):Prop:=match o.op with
 |.move _ | .assign _ | .extract _ _ | .load _ _ | .alloc _ | .build _ _ | .buildSlice _ _ _ | .slice _ _ _ _ _=>True
 |_=>False
theorem kY (t:TypeId):ff (typeInfo t):=by
 unfold typeInfo;refine bD (s:=program) (λp=>?_) (λ_=>trivial);split<;>trivial
theorem e7 (t:TypeId):ff (underlying t):=by
 unfold underlying;refine bD (s:=program) (λp=>?_) (λ_=>trivial);split<;>trivial
theorem AM (t:TypeId):ff (isAgg t):=by
 unfold isAgg;refine bD (λp=>?_) (e7 t);split<;>trivial
theorem fq (t:TypeId):ff (sizeOf t):=by
 unfold sizeOf;exact bD (λ_=>trivial) (kY t)
theorem sZ (a:Addr):∀(n i:Nat) (acc:Array Value),ff (loadCellsFrom a i n acc)
 |0,_,_=>trivial
 |n+1,i,acc=>by
  unfold loadCellsFrom;exact bD (s:=load (a.add i)) (λv=>sZ a n (i+1) _) (λ_=>trivial)
theorem yC (t:TypeId) (v:Value):ff (Instr.loadAt t v):=by
 unfold Instr.loadAt;refine bD (λa=>?_) ?_
 ·unfold loadVar;refine bD (λb=>?_) (AM t);split
  ·refine bD (s:=sizeOf t) (λn=>?_) (fq t);exact bD (s:=loadCells a n) (λcs=>trivial) (sZ a n 0 #[])
  ·exact λ_=>trivial
 ·unfold Instr.sureAddr;split<;>trivial
theorem AQ (t:TypeId):ff (Instr.alloc t true (.tuple #[])):=by
 unfold Instr.alloc;refine bD (λz=>?_) ?_
 ·refine bD (λa=>trivial) ?_;exact λ_=>trivial
 ·unfold zeroValue;refine bD (λi=>?_) (kY t);split<;>trivial
theorem vH (t:TypeId):ff (zeroValue t):=by
 unfold zeroValue;refine bD (λi=>?_) (kY t);split<;>trivial
theorem vI {α β:Type} {f:α→Sem β} (hf:∀a,ff (f a)):∀l:List α,ff (l.mapM f)
 |[]=>by rw [List.mapM_nil];trivial
 |a :: l=>by
  rw [iU];exact bD (λx=>bD (λ_=>trivial) (vI hf l)) (hf a)
theorem yB {α β:Type} {f:α→β} {s:Sem α} (h:ff s):ff (f <$> s):=bD (f:=λa=>Sem.pure (f a)) (λ_=>trivial) h
theorem AN (t:TypeId) (ps:Array (Nat×Value)):ff (Instr.build t ps):=by
 unfold Instr.build;refine bD (λz=>?_) (vH t);refine bD (λd=>?_) (e7 t);split
 ·rw [Array.mapM_eq_mapM_toList];refine bD (λpl=>?_) (yB (vI (λf=>by refine bD (λ_=>?_) (fq f.type);trivial) _));split<;>trivial
 ·refine bD (λn=>?_) (fq _);split<;>trivial
 ·trivial
theorem rO (t:TypeId) (n:Nat) (ps:Array (Nat×Value)):ff (Instr.buildSlice t n ps):=by
 unfold Instr.buildSlice;refine bD (λd=>?_) (e7 t);split
 ·refine bD (λk=>?_) (fq _);dsimp only;have hz:∀{z:Array Value} {e:TypeId},ff (match Instr.fill (λi=>some (i*k,k)) ((Array.range (n*k)).map (λx=>z[x % z.size]!)) ps.toList with
    |some cells=>do pure (.slice (some (←newRow e cells)) n n)
    | _=>stuck "buildSlice: a part of the wrong size" : Sem Value):=by
   intro z e;split
   ·exact bD (λ_=>trivial) (bD (s:=newObj _) (λ_=>trivial) (λ_=>trivial))
   ·trivial
  split
  ·trivial
  ·split
   ·exact hz
   ·exact bD (λ_=>hz) (vH _)
 ·trivial
theorem AL {α:Type} (k:IntKind) (x y:Int) (c:BoundsCode):ff (boundsPanic k x y c:Sem α):=by
 unfold boundsPanic;dsimp only;have hr:∀b,ff (runtimePanic (.bounds (IntKind.i64.wrap x) y b c):Sem α):=λb=>by
  unfold runtimePanic;exact bD (s:=program) (λp=>trivial) (λ_=>trivial)
 split
 ·exact bD (λb=>hr b) (yB (s:=choose _) (λ_=>trivial))
 grind
theorem AO (x:Value) (y:Nat) (c:BoundsCode):ff (Instr.sliceBound x y c):=by
 unfold Instr.sliceBound;refine bD (λp=>?_) ?_
 ·obtain ⟨k,i⟩:=p;dsimp only;split
  ·trivial
  ·exact AL _ _ _ _
 ·unfold asIntOf;split<;>trivial
theorem kQ (b:Bool) (n c:Nat) (lo hi mx:Option Value):ff (Instr.sliceBounds b n c lo hi mx):=by
 unfold Instr.sliceBounds;cases mx<;>cases hi<;>cases lo<;>repeat' (first | exact True.intro | refine bD (λ_=>?_) (AO _ _ _) | refine bD (s:=Sem.pure _) (λ_=>?_) True.intro)
theorem yD (x:Value):ff (asAddr x):=by
 unfold asAddr;split
 ·trivial
 ·unfold runtimePanic;exact bD (s:=program) (λp=>trivial) (λ_=>trivial)
 ·trivial
theorem AK (t:TypeId) (x:Value) (lo hi mx:Option Value):ff (Instr.slice t x lo hi mx):=by
 unfold Instr.slice;refine bD (λd=>?_) (e7 t);split
 ·split
  ·trivial
  ·exact bD (λ_=>trivial) (kQ _ _ _ _ _ _)
 ·exact bD (λ_=>bD (λ_=>trivial) (fq _)) (kQ _ _ _ _ _ _)
 ·refine bD (λa=>bD (λd=>?_) (e7 _)) (yD _);split
  ·exact bD (λ_=>bD (λ_=>trivial) (fq _)) (kQ _ _ _ _ _ _)
  ·trivial
 ·trivial
theorem wE (t:TypeId) (x:Value) (lo hi mx:Option Value):ff (Instr.sliceAt t x lo hi mx):=by
 unfold Instr.sliceAt;refine bD (λd=>?_) (e7 t);split
 ·refine bD (λa=>bD (λ_=>bD (λ_=>trivial) (fq _)) (kQ _ _ _ _ _ _)) ?_;unfold Instr.sureAddr;split<;>trivial
 ·exact AK _ _ _ _ _
theorem Dh {o:Oper} (h:wF o) (ρ:Operand→Value):ff (execOp ρ o):=by
 unfold wF at h;unfold execOp;cases ho:o.op<;>rw [ho] at h<;>try exact h.elim
 case move x=>trivial
 case assign x=>trivial
 case extract x i=>
  refine bD (λ_=>trivial) ?_;unfold Instr.extract;split
  ·split<;>trivial
  ·trivial
 case load t x=>exact bD (λ_=>trivial) (yC t _)
 case alloc t=>exact bD (λ_=>trivial) (AQ t)
 case build t ps=>exact bD (λ_=>trivial) (AN t _)
 case buildSlice t n ps=>exact bD (λ_=>trivial) (rO t n _)
 case slice t x lo hi mx=>exact bD (λ_=>trivial) (wE t _ _ _ _)
theorem Fs {o:Oper} (h:wF o) {P:Program} {ρ:Operand→Value} {w w':World} {x:Next} (hr:(execOp ρ o).run P w = .ok x w'):Ext w w'∧∃v,x = .value v:=by
  refine ⟨j0 (Dh h ρ) hr,?_⟩
  unfold wF at h
  have key:∀{s:Sem Value},((do pure (Next.value (←s))):Sem Next).run P w = .ok x w'→∃v,x = .value v:=by
    intro s hs
    have:∀(s:Sem Value) (w:World),(s.bind λv=>Sem.pure (Next.value v)).run P w = .ok x w'→∃v,x = .value v:=by
      intro s
      induction s with
      |pure a=>intro w h;simp only [Sem.bind,Sem.run,Result.ok.injEq] at h;grind
      |load m a k ih=>
        intro w h
        simp only [Sem.bind,Sem.run] at h
        grind
      |store m a v k ih=>
        intro w h
        cases v<;>simp only [Sem.bind,Sem.run] at h<;>first
          |cases h;done
          | (split at h
             · split at h
               · cases h
               · exact ih _ h
             · split at h
               · exact ih _ h
               · cases h)
      |new _ _ ih=>intro w h;simp only [Sem.bind,Sem.run] at h;grind
      |shape _ _ ih=>intro w h;simp only [Sem.bind,Sem.run] at h;grind
      |freeze _ _ _ ih=>intro w h;simp only [Sem.bind,Sem.run] at h;grind
      |frozen _ _ ih=>intro w h;simp only [Sem.bind,Sem.run] at h;grind
      |getObj _ _ ih=>intro w h;simp only [Sem.bind,Sem.run] at h;grind
      |setObj _ _ _ ih=>intro w h;simp only [Sem.bind,Sem.run] at h;grind
      |choose _ _ ih=>intro w h;simp only [Sem.bind,Sem.run] at h;grind
      |sys _ _ ih=>intro w h;simp only [Sem.bind,Sem.run] at h;grind
      |program _ ih=>intro w h;simp only [Sem.bind,Sem.run] at h;grind
      |mark _ _ ih=>assumption
      |halt _=>intro w h;contradiction
    exact this s w hs
  unfold execOp at hr
  cases ho:o.op<;>rw [ho] at h hr<;>try exact h.elim
  case move y=>simp only [pure,Sem.run,Result.ok.injEq] at hr;grind
  case assign y=>simp only [pure,Sem.run,Result.ok.injEq] at hr;grind
  all_goals grind
section
variable {P:Program} {E:gL} {n:Nat} {G:Nat→Prop} {ρ:List Value} {t:T} {h:H} {a:Act} {w:World} {o:Oper} {K KP:V→T→H→Prop}
def YP (P:Program) (G:Nat→Prop) (w:World) (ρ:List Value) (a:Act) (o:Oper) (K:V→T→H→Prop) (t:T) (h:H):Prop:=
 ∃v' v,(∀w2,(execOp a.eval o).run P w2 = .ok (.value v') w2)∧au G w ρ v' v∧K v t h
def YL (P:Program) (G:Nat→Prop) (w:World) (ρ:List Value) (a:Act) (o:Oper) (K:V→T→H→Prop) (t:T) (h:H):Prop:=
 ∃v' v,(∀w2,Ext w w2→(execOp a.eval o).run P w2 = .ok (.value v') w2)∧au G w ρ v' v∧K v t h
theorem fQ {v':Value} {v:V} (hr:∀w2,(execOp a.eval o).run P w2 = .ok (.value v') w2) (hv:au G w ρ v' v) (hk:K v t h):YP P G w ρ a o K t h:=⟨v',v,hr,hv,hk⟩
theorem Ext.cell {w w2:World} (he:Ext w w2) {ad:Addr} {v:Value} (hc:w.cell? ad=some v):w2.cell? ad=some v:=by
 unfold World.cell? at *;have hlt:ad.block<w.heap.size:=by
  grind
 rw [he.2 _ hlt]
 grind
theorem vw {ty:TypeId} {x:Operand} {ad:Addr} {v':Value} {v:V} (ho:o.op = .load ty x) (hp:a.eval x = .pointer (some ad)) (hl:uj P ty=some none)
  (hc:w.cell? ad=some v') (hv:dI G w ρ v' v) (hk:K v t h):YL P G w ρ a o K t h:=by
 refine ⟨v',v,λw2 he=>?_,.c hv,hk⟩;simp [execOp,ho,hp,Instr.loadAt,Instr.sureAddr,tU hl,he.cell hc]
theorem zn {ty:TypeId} {x:Operand} {b off k:Nat} {U:Nat→Value} {vs:List V} (ho:o.op = .load ty x) (hp:a.eval x = .pointer (some ⟨b,off,none⟩)) (hl:uj P ty=some (some k))
  (hlen:vs.length=k) (hU:∀(j:Nat) (y:V),vs[j]? = some y→w.cell? ⟨b,off+j,none⟩=some (U j)∧dI G w ρ (U j) y) (hk:K (.ag vs) t h):YL P G w ρ a o K t h:=by
 refine ⟨.agg ((List.range vs.length).map U).toArray,.ag vs,λw2 he=>?_,(.o (.ag _ vs (by simp) (λi y hi=>?_))),hk⟩
 ·have hrun:(loadVar ty ⟨b,off,none⟩).run P w2 = .ok (.agg ((List.range vs.length).map U).toArray) w2:=by
   refine tT hl _ _ (by grind) (λj v hv=>?_);rw [dx];simp only [aB,aG] at hv;obtain ⟨j',hj',rfl⟩:=hv;have hjl:j<vs.length:=by
    grind
   rw [ck hjl] at hj';cases hj';exact he.cell (hU j _ (aA hjl)).1
  simp [execOp,ho,hp,Instr.loadAt,Instr.sureAddr,hrun]
 ·have hil:i<vs.length:=(aC.1 hi).1;simp_all
theorem SI (hC:ak E n G ρ t h a w) {x:Operand} {ox:O} {ty:TypeId} (ho:o.op = .move x∨o.op = .assign x) (hx:cX P ty x=some ox) (hk:K (gv t ox) t h):YP P G w ρ a o K t h:=by
 refine fQ (v':=a.eval x) (λw=>?_) (bG hC hx) hk;rcases ho with ho | ho<;>simp [execOp,ho]
section
variable (S:Nat→List V→H→(Out→H→Prop)→Prop) (ow:Nat→Bool)
theorem VB (hC:ak E n G ρ t h a w) {ty t1:TypeId} {x:Operand} {ox:O} {m:Option Nat} (ho:o.op = .load ty x) (hx:cX P t1 x=some ox) (hl:uj P ty=some m)
  (hk:bq S ow (.ld ox m) t h K KP):YL P G w ρ a o K t h:=by
 have hv:=bG hC hx;simp only [bq] at hk;split at hk
 ·skip
  rename_i id off hg;rw [hg] at hv;obtain ⟨b,hp,hρ⟩:=hv.pt;rw [get?_eq] at hk;split at hk
  ·rename_i cs hcs;obtain ⟨b',arr,ty',hb,h1,h2,h3⟩:=hC.ok.hr.rep id _ _ hρ hcs;simp only [Value.pointer.injEq,aE,Addr.mk.injEq,ω] at hb;obtain ⟨rfl,_⟩:=hb;cases m with
   |none=>
    simp only [get?_eq] at hk;split at hk
    ·rename_i v hvv;have hol:off<arr.size:=by grind
     refine vw ho hp hl (v':=arr[off]) (by rw [dC h1];grind) ?_ hk;have:=h3 off v hvv;simpa [aF,hol] using this
    grind
   |some k=>
    simp only [bf] at hk;have hlen:=kH hk.1;refine zn ho hp hl (U:=λj=>arr.getD (off+j) undef) hlen (λj y hy=>?_) hk.2;have hj:j<k:=by grind
    rw [ao,ζ hj,bF] at hy;have hol:off+j<arr.size:=by grind
    refine ⟨?_,h3 (off+j) y hy⟩;rw [dC h1,aF,aN hol];rfl
  grind
 ·skip
  rename_i row off hg;rw [hg] at hv;obtain ⟨b,oo,U,hp,hGb,hU,hD⟩:=hv.el;cases m with
  |none=>
   simp only [get?_eq] at hk;split at hk
   ·rename_i v hvv;exact vw ho hp hl (hU off v hvv) (.k (.d (hD off v hvv))) hk
   grind
  |some k=>
   simp only [bf] at hk;have hlen:=kH hk.1;refine zn ho hp hl (U:=λj=>U (off+j)) hlen (λj y hy=>?_) hk.2;have hj:j<k:=by grind
   rw [aB,ao,ζ hj,bF] at hy;cases hr:row[off+j]? with
   |none=>grind
   |some y0=>
    rw [hr] at hy;cases hy;exact ⟨by grind,.k (.d (hD _ _ hr))⟩
 ·skip
  rename_i id z i off hg;rw [hg] at hv;obtain ⟨b,nn,c,hp,hρ⟩:=hv.ql;rw [get?_eq] at hk;split at hk
  ·rename_i z' rs hrs;obtain ⟨hz,row,hrow,hk⟩:=hk;obtain rfl:=kH hz;obtain ⟨b',cap,arr,ty',hb,h1,h2,hle,h3⟩:=j9 (hC.ok.hr.rep id _ _ hρ hrs) hrow;simp only [Value.slice.injEq,aE,Addr.mk.injEq,ω] at hb;obtain ⟨rfl,_,_⟩:=hb;cases m with
   |none=>
    simp only [get?_eq] at hk;split at hk
    ·rename_i v hvv;exact vw ho hp hl (h3 off v hvv).1 (.k (.d (h3 off v hvv).2)) hk
    grind
   |some k=>
    simp only [bf] at hk;have hlen:=kH hk.1;refine zn ho hp hl (U:=λj=>arr.getD (i*z+(off+j)) undef) hlen (λj y hy=>?_) hk.2;have hj:j<k:=by grind
    rw [aB,ao,ζ hj,bF] at hy;cases hr:row[off+j]? with
    |none=>grind
    |some y0=>
     rw [hr] at hy;cases hy;exact ⟨by grind,.k (.d (h3 _ _ hr).2)⟩
  ·rename_i z' rs i' row hrs;obtain ⟨⟨hz,rfl⟩,hk⟩:=hk;obtain rfl:=kH hz;obtain ⟨b',cap,arr,ty',hb,h1,h2,h3,h4,⟨h0,hrz⟩,h5,h6⟩:=hC.ok.hr.rep id _ _ hρ hrs;simp only [Value.slice.injEq,aE,Addr.mk.injEq,ω] at hb;obtain ⟨rfl,_,_⟩:=hb;cases m with
   |none=>
    simp only [get?_eq] at hk;split at hk
    ·rename_i v hvv;have hol:off<row.length:=(aC.1 hvv).1;have hle:i*z+z≤arr.size:=by
      rw [h4];have:(i+1)*z≤cap*z:=bB _ (by omega)
      grind
     refine vw ho hp hl (v':=arr.getD (i*z+off) undef) ?_ (h6 off v hvv) hk;rw [dC h1,aF,aN (by omega)];rfl
    grind
   |some k=>grind
  grind
 grind
theorem VC (hC:ak E n G ρ t h a w) {ty t1:TypeId} {x:Operand} {f:Nat} {fs:Array Field} {fd:Field} {ox:O} (ho:o.op = .fieldAddr ty x f) (hu:P.underlying ty=some (.struct fs)) (hf:fs[f]? = some fd)
  (hz:P.cellsOf fd.type≠0) (hx:cX P t1 x=some ox) (hk:bq S ow (.fa ox fd.offset) t h K KP):YP P G w ρ a o K t h:=by
 have hv:=bG hC hx;have hrun:∀ad:Addr,a.eval x = .pointer (some ad)→∀w:World,(execOp a.eval o).run P w = .ok (.value (.pointer (some (ad.add fd.offset)))) w:=by
  intro ad had w;unfold Program.cellsOf at hz;cases hi:P.info? fd.type with
  |none=>grind
  |some i=>
   rw [hi] at hz;simp at hz;simp [execOp,ho,had,Instr.fieldAt,run_underlying hu,hf,Instr.sureAddr,fieldPlace,sizeOf,typeInfo,hi,hz]
 simp only [bq] at hk;split at hk
 ·rename_i id off hg;rw [hg] at hv;obtain ⟨b,hp,hρ⟩:=hv.pt;rw [cZ] at hk;refine fQ (hrun _ hp) ?_ hk;rw [dx];exact .k (.p id _ b hρ)
 ·rename_i row off hg;rw [hg] at hv;obtain ⟨b,oo,U,hp,hGb,hU,hD⟩:=hv.el;rw [cZ] at hk;refine fQ (hrun _ hp) ?_ hk;rw [dx,jI];exact .k (.e b oo _ row U hGb hU hD)
 ·rename_i id z i off hg;rw [hg] at hv;obtain ⟨b,nn,c,hp,hρ⟩:=hv.ql;rw [cZ] at hk;refine fQ (hrun _ hp) ?_ hk;rw [dx,jI];exact .k (.q id z i _ b nn c hρ)
 grind
theorem VD (hC:ak E n G ρ t h a w) {t1:TypeId} {x:Operand} {i:Nat} {ox:O} (ho:o.op = .extract x i) (hx:cX P t1 x=some ox) (hk:bq S ow (.ex ox i) t h K KP):YP P G w ρ a o K t h:=by
 have hvx:=bG hC hx;simp only [bq] at hk;split at hk
 ·rename_i vs hg;rw [hg] at hvx;obtain ⟨cs,hv,hs,hr⟩:=hvx.Uh;rw [get?_eq] at hk;split at hk
  ·rename_i v hi;have hil:i<cs.size:=by grind
   refine fQ (v':=cs.getD i undef) (λw=>?_) (.o (hr i v hi)) hk;simp [execOp,ho,Instr.extract,hv,hil]
  grind
 grind
theorem VE (hC:ak E n G ρ t h a w) {ty:TypeId} {fs:Array Field} {ps:Array (Nat×Operand)} {pl:List (Nat×Nat)} {oq:List (Nat×Nat×O)} {zs:List V} (ho:o.op = .build ty ps) (hu:P.underlying ty=some (.struct fs))
  (hpl:fs.toList.mapM (λf=>(P.info? f.type).map λi=>(f.offset,i.size))=some pl) (hz:rM P ty=some zs)
  (hq:oq.length=ps.size∧∀(k:Nat) (p:Nat×Operand) (q:Nat×Nat×O),ps[k]? = some p→oq[k]? = some q→pl[p.1]? = some (q.1,q.2.1)∧∃ty',cX P ty' p.2=some q.2.2)
  (hk:bq S ow (.bd zs oq) t h K KP):YP P G w ρ a o K t h:=by
 simp only [bq,bf] at hk;obtain ⟨hall,hk⟩:=hk;obtain ⟨i,z,hi,hz0,hzs,_,hzr⟩:=jf (G:=G) (w:=w) (ρ := ρ) hz;have hall':∀q∈oq,(gv t q.2.2).cs.length=q.2.1∧q.1+q.2.1≤zs.length∧(gv t q.2.2).cs.all fA=true:=by
  intro q hq;have:=aS.1 hall q hq;simp_all
 obtain ⟨out,o1,o2,o3⟩:=xK (G:=G) (w:=w) (ρ := ρ) (pl.toArray[·]?) (ps.map λ(i,x)=>(i,a.eval x)).toList (oq.map λq=>(q.1,(gv t q.2.2).cs)) z.cells zs (by grind)
  (λk p q hp hq'=>by
   simp only [kr,aB,aG] at hp hq';obtain ⟨p0,hp0,rfl⟩:=hp;obtain ⟨q0,hq0,rfl⟩:=hq';obtain ⟨g1,ty',g2⟩:=hq.2 k p0 q0 (by grind) hq0;obtain ⟨e1,e2,e3⟩:=hall' q0 (aJ hq0);obtain ⟨c1,c2⟩:=jE (bG hC g2) e3
   grind)
  hzs (λj x hx=>.k (hzr j x hx).1)
 rw [foldl_map'] at o3;have hb:P.built ty (ps.map λ(i,x)=>(i,a.eval x)).toList=some out:=by
  simp only [Program.built,hi,hu,hz0,hpl]
  grind
 refine fQ (v':=.agg out) (λw2=>?_) (.o (.ag out _ ?_ o3)) hk
 ·simp only [execOp,ho];exact cT (run_build w2 ty _ out hb)
 ·have:∀(l:List (Nat×Nat×O)) (c:List V),(l.foldl (λcs p=>lay cs p.1 (gv t p.2.2).cs) c).length=c.length:=by
   intro l
   induction l with
   |nil=>grind
   |cons q l ih=>intro c;simp only [cQ];rw [ih,j4]
  grind
theorem VA (hC:ak E n G ρ t h a w) {t1:TypeId} {x:Operand} {ox:O} (ho:o.op = .nilCheck x) (hx:cX P t1 x=some ox) (hk:bq S ow (.nc ox) t h K KP):YP P G w ρ a o K t h:=by
 have hvx:=bG hC hx;simp only [bq] at hk;split at hk
 ·rename_i i oo hg;rw [hg] at hvx;obtain ⟨b,hv,_⟩:=hvx.pt;exact fQ (v':=a.eval x) (λw=>by simp [execOp,ho,hv]) hvx hk
 ·rename_i r oo hg;rw [hg] at hvx;obtain ⟨b,_,_,hv,_⟩:=hvx.el;exact fQ (v':=a.eval x) (λw=>by simp [execOp,ho,hv]) hvx hk
 ·rename_i i z j oo hg;rw [hg] at hvx;obtain ⟨b,_,_,hv,_⟩:=hvx.ql;exact fQ (v':=a.eval x) (λw=>by simp [execOp,ho,hv]) hvx hk
 ·rename_i f c hg;rw [hg] at hvx;obtain ⟨cs,hv,_⟩:=hvx.Nv;cases hb:Nat.blt f 2000000<;>rw [hb] at hk
  grind
  have hlt:f<2000000:=by simp_all
  have hv':∃g y1 y2,a.eval x = .func (.func g) y1 y2:=by
   by_cases h1:f<1000000
   ·exact ⟨_,_,_,uB hv h1⟩
   ·exact ⟨_,_,_,BX hv h1 hlt⟩
  obtain ⟨g,y1,y2,hv'⟩:=hv';exact fQ (v':=a.eval x) (λw=>by simp [execOp,ho,hv']) hvx hk
 ·rename_i f hg;rw [hg] at hvx;have hv:a.eval x = .func (.func f) #[] #[]:=BR hvx.qu;exact fQ (v':=a.eval x) (λw=>by simp [execOp,ho,hv]) hvx hk
 ·rename_i row off hg;rw [hg] at hvx;have hv:=hvx.qu;generalize hav:a.eval x=av at hv;cases hv with
  |pt b o _ _ U h1 h2 h3=>exact fQ (v':=a.eval x) (λw=>by simp [execOp,ho,hav]) (by rw [hav];exact .k (.e b o off row U h1 h2 h3)) hk
 grind
end
theorem vm {P:Program} {ty:TypeId} {op:Op} {x:X} (hx:fj P ty op=some x) (hs:Fq x=true∨yL x=true∨Rz x=true):(∃y,op = .move y)∨(∃y,op = .assign y)∨(∃y i,op = .extract y i)∨(∃t y,op = .load t y)∨(∃t,op = .alloc t)∨(∃y,op = .nilCheck y)∨(∃t y f,op = .fieldAddr t y f)∨(∃t ps,op = .build t ps)∨(∃t n ps,op = .buildSlice t n ps)∨∃t y lo hi mx,op = .slice t y lo hi mx:=by
 cases op
 grind
 grind
 case extract y i=>grind
 case load t y=>grind
 case alloc t=>grind
 case nilCheck y=>grind
 case fieldAddr t y f=>grind
 case build t ps=>grind
 case buildSlice t n ps=>grind
 case slice t y lo hi mx=>grind
 all_goals
  exfalso;simp only [fj,aI] at hx
  repeat' (first
   |contradiction
   |(cases hx;done)
   |(obtain ⟨_,hx⟩:=hx)
   |(split at hx)
   |(simp only [aG,aD,aE,reduceCtorEq] at hx)
   |(rcases hs with hs | hs | hs<;>cases hs;done))
end
section
variable {P:Program} {ops:Array Oper} {Q:Exit→Act→World→Prop} {S:World→Prop} {md:Region.Mode}
theorem D4 {j:Nat} {oi oj:Oper} {v:Value} (hj:ops[j]? = some oj) (hap:oi.apart ops oj=true)
  (hsi:∀cs b,oi.op≠.select cs b) (hsj:∀cs b,oj.op≠.select cs b) (hQ:∀c a w,¬Q (.panic c) a w)
  (hS:(∀w,S w)∨(wF oj∧∀w w',S w→Ext w w'→S w')) {K:Act→World→Prop} {a:Act} {w:World}
  (hw:S w) (hy:YieldsIf P ops S oi v a) (h:wpOp P ops Q j K (a.put oi.dst v) w) :
  wpOp P ops Q j (λa' w'=>S w'∧YieldsIf P ops S oi v a'∧K (a'.put oi.dst v) w') a w:=by
 rcases hS with hS | ⟨hso,hS⟩
 ·exact wpOp_mono (λa' w' h=>⟨hS w',h⟩) (wpOp_putIf hj hap hsi hsj (λc a w h=>(hQ c _ w h).elim) hy h)
 ·have h':=wpOp_putIf hj hap hsi hsj (λc a w h=>(hQ c _ w h).elim) hy h;unfold wpOp at h' ⊢;simp only [hj] at h' ⊢;split
  ·rename_i hwn;rw [ζ hwn] at h';rcases h' with h' | h'
   ·refine .inl ?_;unfold Oper.wp at h' ⊢;cases hr:(execOp a.eval oj).run P w with
    |ok x w'=>
     rw [hr] at h';obtain ⟨he,v',rfl⟩:=Fs hso hr;exact ⟨hS w w' hw he,h'⟩
    |halt x w'=>
     rw [hr] at h';cases x<;>exact h'
   grind
  grind
theorem sY {n m:Nat} {is:List I} {bs:List (List Nat)} (D:U9 P n ops is bs m) {i:Nat} {oi:Oper} {v:Value} (hi:ops[i]? = some oi) (hsel:∀(j:Nat) (o:Oper) cs b,ops[j]? = some o→o.op≠.select cs b)
    (hQ:∀c a w,¬Q (.panic c) a w) :
    ∀(fuel:Nat) (listed:Array Bool) (a:Act) (w:World),listed.size=ops.size →
      (∀(j:Nat) (b:List Nat),listed.getD j false=true→bs[j]? = some b→∀k∈b,listed.getD k false=true) →
      (∀j oj,ops[j]? = some oj→j≠i→listed.getD j true=false→(∀b,bs[j]? = some b→i∉b)→oi.apart ops oj=true∧((∀w,S w)∨(wF oj∧∀w w',S w→Ext w w'→S w'))) →
      i∈Region.ready .any ops listed→YieldsIf P ops S oi v a→S w →
      wpAny P .any ops Q fuel (listed.setIfInBounds i true) (a.put oi.dst v) w→wpAny P .any ops Q (fuel+1) listed a w:=by
  intro fuel
  induction fuel with
  |zero=>
    intro listed a w _ _ _ hr hy hS H
    refine ⟨λh=>(by grind),λj hj=>?_⟩
    by_cases hji:j=i
    · subst hji;exact hy.wpOp hi hS H
    · have:=ready_mono hj hji
      rw [H.1] at this
      grind
  |succ fuel ih=>
    intro listed a w hsz jb hfree hr hy hS H
    refine ⟨λh=>(by grind),λj hj=>?_⟩
    by_cases hji:j=i
    · subst hji;exact hy.wpOp hi hS H
    · have h1:=H.2 j (ready_mono hj hji)
      obtain ⟨hjun,oj,hoj,hall⟩:=mem_ready.1 hj
      have hnl:¬listed.getD i false=true:=by
        have h0:=(mem_ready.1 hr).1
        grind
      obtain ⟨b,hb,hb1,hb2⟩:=D.cl j oj hoj
      have hready:∀k∈b,listed.getD k false=true:=λk hk=>by
        rcases hb2 k hk with h1 | ⟨k',h1,b',h2,h3⟩
        · obtain ⟨e,e1,e2,rfl⟩:=gB.1 h1
          grind
        · obtain ⟨e,e1,e2,rfl⟩:=gB.1 h1
          grind
      have hib:∀b',bs[j]? = some b'→i∉b':=λb' hb' hm=>by
        grind
      obtain ⟨f1,f2⟩:=hfree j oj hoj hji hjun hib
      have hst:=D4 hoj f1 (λcs b=>hsel i oi cs b hi) (λcs b=>hsel j oj cs b hoj) hQ f2 hS hy h1
      have hjl:j<listed.size:=by grind
      have hset:∀k,(listed.setIfInBounds j true).getD k false=true↔k=j∨listed.getD k false=true:=λk=>by
        by_cases hkj:k=j
        simp_all
        · rw [getD_set_ne false (k_ hkj)];grind
      have hcl':∀(j':Nat) (b:List Nat),(listed.setIfInBounds j true).getD j' false=true→bs[j']? = some b→∀k∈b,(listed.setIfInBounds j true).getD k false=true:=by
        grind
      have hfree':∀k ok,ops[k]? = some ok→k≠i→(listed.setIfInBounds j true).getD k true=false→(∀b,bs[k]? = some b→i∉b) →
          oi.apart ops ok=true∧((∀w,S w)∨(wF ok∧∀w w',S w→Ext w w'→S w')):=λk ok hk hki hun hno=>by
        grind
      refine wpOp_mono (λa' w' h3=>ih (listed.setIfInBounds j true) a' w' (by grind) hcl' hfree' (ready_mono hr (k_ hji)) h3.2.1 h3.1 ?_) hst
      rw [Array.setIfInBounds_comm _ _ hji]
      grind
end
section
variable {P:Program} {E:gL} {n:Nat} {K:Ex→T→H→Prop} {ops:Array Oper} {is:List I} {bs:List (List Nat)} {m:Nat} (ow:Nat→Bool)
theorem LQ {x:X} (h:yL x=true) (g:Rz x=true):False:=by cases x<;>first | (cases g;done) | (cases h;done)
theorem KS {G:Nat→Prop} {ρ:List Value} {t:T} {h:H} {a:Act} {w:World} {o:Oper} {KK KP:V→T→H→Prop} (hC:ak E n G ρ t h a w) {x:X} (hx:fj P o.type o.op=some x∨x = .bad) (hp:yL x=true∨Rz x=true) (hk:bq (Sat P) ow x t h KK KP) :
  (yL x=true∧YP P G w ρ a o KK t h)∨(Rz x=true∧YL P G w ρ a o KK t h):=by
 rcases hx with hx | rfl
 case inr=>exact hk.elim
 rcases vm hx (.inr hp) with ⟨y,ho⟩ | ⟨y,ho⟩ | ⟨y,i,ho⟩ | ⟨ty,y,ho⟩ | ⟨ty,ho⟩ | ⟨y,ho⟩ | ⟨ty,y,f,ho⟩ | ⟨ty,ps,ho⟩ | ⟨ty,m,ps,ho⟩ | ⟨ty,y,lo,hi,mx,ho⟩<;>rw [ho] at hx<;>simp only [fj] at hx
 ·split at hx
  ·cases hx;rcases hp with hp | hp<;>cases hp
  ·simp only [aG] at hx;obtain ⟨oy,hy,rfl⟩:=hx;exact .inl ⟨rfl,SI hC (.inl ho) hy hk⟩
 ·split at hx
  ·cases hx;rcases hp with hp | hp<;>cases hp
  ·simp only [aG] at hx;obtain ⟨oy,hy,rfl⟩:=hx;exact .inl ⟨rfl,SI hC (.inr ho) hy hk⟩
 ·simp only [aI,aD,aE] at hx;obtain ⟨oy,hy,rfl⟩:=hx;exact .inl ⟨rfl,VD (Sat P) ow hC ho hy hk⟩
 ·have ld:(do some (X.ld (←cX P ty y) (←uj P ty)))=some x→Rz x=true∧YL P G w ρ a o KK t h:=λhx=>by
   simp only [aI,aD,aE] at hx;obtain ⟨oy,hy,m,hm,rfl⟩:=hx;exact ⟨rfl,VB (Sat P) ow hC ho hy hm hk⟩
  split at hx
  ·split at hx
   ·split at hx
    ·simp only [aI,aD] at hx;obtain ⟨k,hl,oy,hy,hx⟩:=hx;split at hx
     ·cases hx;rcases hp with hp | hp<;>cases hp
     grind
    grind
   grind
  grind
 ·have al:(rM P ty).map X.al=some x→False:=λhx=>by
   simp only [aG] at hx;obtain ⟨zs,hz,rfl⟩:=hx;rcases hp with hp | hp<;>cases hp
  exfalso;split at hx
  ·split at hx
   ·simp only [aI,aD] at hx;obtain ⟨zs,hz,hx⟩:=hx;split at hx
    ·split at hx
     ·cases hx;rcases hp with hp | hp<;>cases hp
     grind
    grind
   grind
  grind
 ·simp only [aG] at hx;obtain ⟨oy,hy,rfl⟩:=hx;exact .inl ⟨rfl,VA (Sat P) ow hC ho hy hk⟩
 ·split at hx
  ·rename_i fs hu;simp only [aI,aD] at hx;obtain ⟨fd,hf,hx⟩:=hx;split at hx
   grind
   ·rename_i hz;simp only [aD,aE] at hx;obtain ⟨oy,hy,rfl⟩:=hx;exact .inl ⟨rfl,VC (Sat P) ow hC ho hu hf hz hy hk⟩
  grind
 ·split at hx
  ·rename_i fs hu;simp only [aI,aD,aE] at hx;obtain ⟨pl,hpl,qs,hqs,zs,hz,rfl⟩:=hx;obtain ⟨g1,g2⟩:=lK hqs;refine .inl ⟨rfl,VE (Sat P) ow hC ho hu hpl hz ⟨by grind,λk p q hp hq=>?_⟩ hk⟩;have:=g2 k p q (by grind) hq;simp only [aD,aE] at this
   grind
  grind
 ·exfalso;split at hx
  ·simp only [aI,aD] at hx;obtain ⟨qs,hqs,zs,hz,hx⟩:=hx;split at hx
   ·cases hx;rcases hp with hp | hp<;>cases hp
   ·split at hx
    grind
    ·cases hx;rcases hp with hp | hp<;>cases hp
  grind
 ·exfalso;split at hx
  ·split at hx
   grind
   ·simp only [aI,aD,aE] at hx;obtain ⟨_,_,_,_,_,_,_,_,rfl⟩:=hx;rcases hp with hp | hp<;>cases hp
  ·split at hx
   ·simp only [aI,aD,aE] at hx;obtain ⟨_,_,_,_,_,_,rfl⟩:=hx;rcases hp with hp | hp<;>cases hp
   grind
  grind
theorem Pb {o:Oper} {x:X} (hx:fj P o.type o.op=some x∨x = .bad) (hs:Fq x=true):wF o:=by
 rcases hx with hx | rfl
 case inr=>cases hs
 rcases vm hx (.inl hs) with ⟨y,ho⟩ | ⟨y,ho⟩ | ⟨y,i,ho⟩ | ⟨ty,y,ho⟩ | ⟨ty,ho⟩ | ⟨y,ho⟩ | ⟨ty,y,f,ho⟩ | ⟨ty,ps,ho⟩ | ⟨ty,m,ps,ho⟩ | ⟨ty,y,lo,hi,mx,ho⟩<;>unfold wF<;>rw [ho] at hx ⊢<;>try trivial
 ·simp only [fj,aG] at hx;obtain ⟨oy,hy,rfl⟩:=hx;cases hs
 ·exfalso;simp only [fj] at hx;split at hx
  ·simp only [aI,aD] at hx;obtain ⟨fd,hf,hx⟩:=hx;split at hx
   grind
   ·simp only [aD,aE] at hx;obtain ⟨oy,hy,rfl⟩:=hx;cases hs
  grind
theorem Ba {x y:Oper} (h:x.apart ops y=true):y.apart ops x=true:=by
 unfold Oper.apart at *
 grind
theorem R7 (h:Uy ops bs m=true):(∀(j:Nat) (o:Oper) cs b,ops[j]? = some o→o.op≠.select cs b)∧∀(i k:Nat) (x y:Oper) (bi bk:List Nat),i<m→k<m→i≠k→ops[i]? = some x→ops[k]? = some y→bs[i]? = some bi→bs[k]? = some bk→i∉bk→k∉bi→x.apart ops y=true:=by
 unfold Uy at h;rw [aP] at h;obtain ⟨h1,h2⟩:=h;refine ⟨λj o cs b hj he=>?_,?_⟩
 ·have:=aS.1 h1 o (fY.2 (Array.mem_of_getElem? hj));unfold Nd at this
  grind
 ·have key:∀(i k:Nat) (x y:Oper) (bk:List Nat),i<k→k<m→ops[i]? = some x→ops[k]? = some y→bs[k]? = some bk→i∉bk→x.apart ops y=true:=by
   intro i k x y bk hik hk hx hy hb hn;have h3:=aS.1 (aS.1 h2 k (cn.2 hk)) i (cn.2 hik);rw [hb,hx,hy,bo] at h3;have:has bk i=false:=by
    cases hh:has bk i with
    |false=>rfl
    |true=>exact absurd (cK.1 hh) hn
   grind
  intro i k x y bi bk hi hk hne hx hy hbi hbk h3 h4;rcases Nat.lt_or_gt_of_ne hne with h | h
  grind
  ·exact Ba (key k i y x bi h hi hy hx hbi h4)
def Jz (E:gL) (n:Nat) (K:Ex→T→H→Prop) (q:List (I×List Nat)) (s:List I) (is:List I) (bs:List (List Nat)) (m:Nat) (P:Program) (listed:Array Bool) (a:Act) (w:World):Prop:=
  (∀(j:Nat) (b:List Nat),listed.getD j false=true→bs[j]? = some b→∀k∈b,listed.getD k false=true) ∧
  ((∃ (done : List Nat) (k : Nat) (G : Nat → Prop) (ρ : List Value) (t : T) (h : H), done.Nodup ∧ done.length + k = m ∧ (∀ j, listed.getD j false = true ↔ j ∈ done) ∧ (∀ j ∈ done, j < m) ∧ ak E n G ρ t h a w ∧ PE (Sat P) ow q s k done t h K) ∨
   ∃(k:Nat) (G:Nat→Prop) (ρ:List Value) (t:T) (h:H),m≤k∧(∀j,listed.getD j false=true↔j<k)∧ak E n G ρ t h a w∧rx (Sat P) ow (is.drop k) t h K)
theorem NC (D:U9 P n ops is bs m) (hap:Uy ops bs m=true) (hnp:∀v t h,¬K (.fg v) t h) {q:List (I×List Nat)} (hq:q=(is.zip bs).take m):∀(fuel:Nat) (listed:Array Bool) (a:Act) (w:World),listed.size=ops.size→listed.toList.count false≤fuel →
    Jz ow E n K q (is.drop m) is bs m P listed a w→wpAny P .any ops (QK E n K) fuel listed a w:=by
  have hil:=D.il
  have hbl:=D.bl
  have hml:=D.ml
  obtain ⟨hsel,hap⟩:=R7 hap
  have hQ:∀c a w,¬QK E n K (.panic c) a w:=λc a w ⟨_,_,_,_,_,_,_,_,_,hk⟩=>hnp _ _ _ hk
  have hqg:∀(j:Nat) (x:I) (b:List Nat),j<m→is[j]? = some x→bs[j]? = some b→q[j]? = some (x,b):=λj x b hj hx hb=>by
    grind
  have hql:q.length=m:=by grind
  have turn:∀(listed:Array Bool) (a:Act) (w:World),Jz ow E n K q (is.drop m) is bs m P listed a w→(∀j,j<m→listed.getD j false=true) →
      ∃(k:Nat) (G:Nat→Prop) (ρ:List Value) (t:T) (h:H),m≤k∧(∀j,listed.getD j false=true↔j<k)∧ak E n G ρ t h a w∧rx (Sat P) ow (is.drop k) t h K:=by
    intro listed a w ⟨_,h3⟩ hall
    rcases h3 with ⟨done,k,G,ρ,t,h,d1,d2,d3,d4,hC,hk⟩ | h3
    · have hk0:k=0:=by
        have h1:(List.range m).length≤done.length:=yY qF λj hj=>(d3 j).1 (hall j (cn.1 hj))
        grind
      subst hk0
      exact ⟨m,G,ρ,t,h,aM _,λj=>⟨λhj=>d4 j ((d3 j).1 hj),hall j⟩,hC,hk⟩
    grind
  have fin:∀(listed:Array Bool) (a:Act) (w:World),listed.size=ops.size→Jz ow E n K q (is.drop m) is bs m P listed a w→Region.ready .any ops listed = []→QK E n K .normal a w:=by
    intro listed a w hs hI hr
    have hall:=zC D hr hs
    obtain ⟨k,G,ρ,t',h',k1,k3,hC,hk⟩:=turn listed a w hI (λj hj=>hall j (by omega))
    have hkk:ops.size≤k:=by
      grind
    rw [et (by omega)] at hk
    exact ⟨G,ρ,t',h',hC,hk⟩
  intro fuel
  induction fuel with
  |zero=>
    intro listed a w hs hc hI
    have hall:∀j,j<ops.size→listed.getD j false=true:=λj hj=>by
      have hj':j<listed.size:=by omega
      have h0:listed.toList.count false=0:=by omega
      rw [List.count_eq_zero] at h0
      cases hv:listed[j] with
      |true=>simp_all
      |false=>grind
    have hr:Region.ready .any ops listed = []:=by
      rw [ko]
      intro j hj
      obtain ⟨h1,o,h2,_⟩:=mem_ready.1 hj
      grind
    exact ⟨hr,fin listed a w hs hI hr⟩
  |succ fuel ih=>
    intro listed a w hs hc hI
    have mem_redy:∀{done:List Nat} {j:Nat},j∈sq q done→j<m∧j∉done∧∃(x:I) (b:List Nat),is[j]? = some x∧bs[j]? = some b∧q[j]? = some (x,b)∧∀k∈b,k∈done:=by
      intro done j hj
      unfold sq at hj
      rw [dh,cn] at hj
      obtain ⟨h1,h2⟩:=hj
      rw [hql] at h1
      have hx:=aA (show j<is.length by omega)
      have hb:=aA (show j<bs.length by omega)
      have hqj:=hqg j _ _ h1 hx hb
      rw [get?_eq,hqj] at h2
      simp only [aP,dF,aS] at h2
      refine ⟨h1,λhd=>?_,_,_,hx,hb,hqj,λk hk=>cK.1 (h2.2 k hk)⟩
      rw [cK.2 hd] at h2
      grind
    by_cases hfi:∃(done:List Nat) (k:Nat) (G:Nat→Prop) (ρ:List Value) (t:T) (h:H) (j:Nat),done.Nodup∧done.length+(k+1)=m∧(∀j,listed.getD j false=true↔j∈done)∧(∀j∈done,j<m)∧ak E n G ρ t h a w∧tz q done=some j ∧
        PE (Sat P) ow q (is.drop m) (k+1) done t h K
    · obtain ⟨done,k,G,ρ,t,h,j,d1,d2,d3,d4,hC,hfj,hk⟩:=hfi
      have hjr:=List.mem_of_find?_eq_some hfj
      have hjf:=List.find?_some hfj
      obtain ⟨hjm,hjd,x,b,hx,hb,hqj,hbd⟩:=mem_redy hjr
      obtain ⟨o,ho⟩:∃o,ops[j]? = some o:=⟨_,aN (by omega)⟩
      obtain ⟨x',hx',hci⟩:=D.ci j o ho
      obtain rfl:x'=x:=by grind
      obtain ⟨b',hb',hb1,hb2⟩:=D.cl j o ho
      obtain rfl:b'=b:=by grind
      rw [zT,hfj] at hk
      simp only [get?_eq,hqj] at hk
      unfold Cl at hjf
      rw [get?_eq,hqj] at hjf
      simp only [aP,cI] at hjf
      obtain ⟨hg,hkind⟩:=hjf
      have hg:x'.g=none:=by
        cases hgg:x'.g with
        |none=>rfl
        |some _=>grind
      obtain ⟨cx,hd,hlt,hgo⟩:=nO hci
      have hgo:o.guard=none:=by
        cases hgg:o.guard with
        |none=>rfl
        |some p=>
          rw [hgg] at hgo
          obtain ⟨d,_,e⟩:=hgo
          grind
      simp only [Bz,hg] at hk
      have hwn:Region.wanted o (yielded ops a.tmps)=true:=by simp [Region.wanted,hgo]
      have hready:∀k∈b',listed.getD k false=true:=λk hk=>(d3 k).2 (hbd k hk)
      have hnl:¬listed.getD j false=true:=λhh=>hjd ((d3 j).1 hh)
      have hjl:j<listed.size:=by omega
      have hrdy:j∈Region.ready .any ops listed:=by
        rw [mem_ready]
        refine ⟨by grind,o,ho,λe he hbd=>?_⟩
        exact hready _ (hb1 _ (gB.2 ⟨e,he,hbd,rfl⟩))
      have hset:∀k,(listed.setIfInBounds j true).getD k false=true↔k=j∨listed.getD k false=true:=λk=>by
        by_cases hkj:k=j
        · subst hkj;simp [hjl]
        · rw [getD_set_ne false (k_ hkj)];simp [hkj]
      have jb:∀(j':Nat) (b:List Nat),(listed.setIfInBounds j true).getD j' false=true→bs[j']? = some b→∀k∈b,(listed.setIfInBounds j true).getD k false=true:=by
        intro j' b' h1 h2 k hk
        rw [hset] at h1 ⊢
        rcases h1 with rfl | h1
        grind
        · exact .inr (hI.1 j' b' h1 h2 k hk)
      have hcnt:(listed.setIfInBounds j true).toList.count false≤fuel:=by
        have:=count_set (show listed.getD j true=false by grind)
        omega
      have hsz:(listed.setIfInBounds j true).size=ops.size:=by grind
      have next:∀(v':Value) (v:V),au G w ρ v' v→(ub x'.d v t λt=>PE (Sat P) ow q (is.drop m) k (j :: done) t h K)→wpAny P .any ops (QK E n K) fuel (listed.setIfInBounds j true) (a.put o.dst v') w:=by
        intro v' v hv hput
        rw [fU,hd] at hput
        refine ih _ _ _ hsz hcnt ⟨jb,.inl ⟨j :: done,k,G,ρ,_,h,cm.2 ⟨hjd,d1⟩,by grind,λx=>by grind,λx hx=>?_,hC.fk o.dst hlt hv,hput⟩⟩
        grind
      have apart:∀k ok,ops[k]? = some ok→k≠j→listed.getD k true=false→(∀b,bs[k]? = some b→j∉b)→k<m∧o.apart ops ok=true:=by
        intro k ok hok hkj hun hno
        have hkl:k<ops.size:=(aQ.1 hok).1
        obtain ⟨bk,hbk⟩:∃bk,bs[k]? = some bk:=⟨_,aA (by omega)⟩
        have hkm:k<m:=by
          rcases de k m with h | h
          grind
          · exact absurd (D.fu k bk h hbk j (by omega)) (hno bk hbk)
        grind
      rcases KS ow hC cx (hkind.imp id λh=>h.1) hk with ⟨hpu,v',v,hrun,hv,hput⟩ | ⟨hld,v',v,hrun,hv,hput⟩
      · exact sY (S:=λ_=>True) D ho hsel hQ fuel listed a w hs hI.1 (λk ok hok hkj hun hno=>⟨(apart k ok hok hkj hun hno).2,.inl λ_=>trivial⟩) hrdy (.inl ⟨hwn,λw2 _=>hrun w2⟩) trivial (next v' v hv hput)
      · rcases hkind with hpu | ⟨_,hall⟩
        · exact (LQ hpu hld).elim
        · refine sY (S:=Ext w) D ho hsel hQ fuel listed a w hs hI.1 (λk ok hok hkj hun hno=>?_) hrdy (.inl ⟨hwn,hrun⟩) (Ext.refl w) (next v' v hv hput)
          obtain ⟨hkm,hapk⟩:=apart k ok hok hkj hun hno
          refine ⟨hapk,.inr ⟨?_,λw1 w2 h1 h2=>h1.trans h2⟩⟩
          obtain ⟨xk,hxk,hcik⟩:=D.ci k ok hok
          obtain ⟨bk,hbk⟩:∃bk,bs[k]? = some bk:=⟨_,aA (by omega)⟩
          have hqk:=hqg k xk bk hkm hxk hbk
          have h3:=aS.1 hall k (cn.2 (by omega))
          rw [get?_eq,hqk] at h3
          simp only [cI] at h3
          have hks:k<listed.size:=by omega
          rcases h3 with h3 | h3 | h3 | h3
          · have:=(d3 k).2 (cK.1 h3)
            grind
          · exact absurd (kH h3) hkj
          · exact absurd (cK.1 h3) (hno bk hbk)
          · exact Pb (nO hcik).1 h3
    · refine ⟨fin listed a w hs hI, fun j hj => ?_⟩
      obtain ⟨hun,o,ho,hdep⟩:=mem_ready.1 hj
      have hjs:j<ops.size:=(aQ.1 ho).1
      have hjl:j<listed.size:=by omega
      have hnl:¬listed.getD j false=true:=by grind
      obtain ⟨b,hb,hb1,hb2⟩:=D.cl j o ho
      obtain ⟨i,hi,hci⟩:=D.ci j o ho
      have hready:∀k∈b,listed.getD k false=true:=λk hk=>by
        rcases hb2 k hk with h1 | ⟨k',h1,b',h2,h3⟩
        · obtain ⟨e,e1,e2,rfl⟩:=gB.1 h1
          grind
        · obtain ⟨e,e1,e2,rfl⟩:=gB.1 h1
          exact hI.1 _ b' (hdep e e1 e2) h2 k h3
      have hset:∀k,(listed.setIfInBounds j true).getD k false=true↔k=j∨listed.getD k false=true:=λk=>by
        by_cases hkj:k=j
        · subst hkj;simp [hjl]
        · rw [getD_set_ne false (k_ hkj)];grind
      have jb:∀(j':Nat) (b:List Nat),(listed.setIfInBounds j true).getD j' false=true→bs[j']? = some b→∀k∈b,(listed.setIfInBounds j true).getD k false=true:=by
        intro j' b' h1 h2 k hk
        rw [hset] at h1 ⊢
        rcases h1 with rfl | h1
        grind
        · exact .inr (hI.1 j' b' h1 h2 k hk)
      have hcnt:(listed.setIfInBounds j true).toList.count false≤fuel:=by have:=count_set hun;omega
      have hsz:(listed.setIfInBounds j true).size=ops.size:=by grind
      have go:(if Region.wanted o (yielded ops a.tmps) then o.wp P a w (wpAny P .any ops (QK E n K) fuel (listed.setIfInBounds j true)) (QK E n K) else wpAny P .any ops (QK E n K) fuel (listed.setIfInBounds j true) (a.put o.dst undef) w) →
          wpOp P ops (QK E n K) j (wpAny P .any ops (QK E n K) fuel (listed.setIfInBounds j true)) a w:=by
        intro hg
        unfold wpOp
        simp only [ho]
        grind
      refine go ?_
      by_cases hjm:j<m
      · rcases hI.2 with ⟨done,k,G,ρ,t,h,d1,d2,d3,d4,hC,hk⟩ | ⟨k,G,ρ,t,h,k1,k3,_⟩
        · have hjd:j∉done:=λhd=>hnl ((d3 j).2 hd)
          have hk0:k≠0:=by
            intro e
            have h1:(j :: done).length≤(List.range m).length:=yY (cm.2 ⟨hjd,d1⟩) λx hx=>by
              grind
            grind
          obtain ⟨k,rfl⟩:∃k',k=k'+1:=⟨k - 1,by omega⟩
          have hno:tz q done=none:=by
            cases hf:tz q done with
            |none=>rfl
            |some j'=>exact absurd ⟨done,k,G,ρ,t,h,j',d1,d2,d3,d4,hC,hf,hk⟩ hfi
          rw [zT,hno] at hk
          have hqj:=hqg j i b hjm hi hb
          have hmem:j∈sq q done:=by
            unfold sq
            rw [dh,cn]
            refine ⟨by omega,?_⟩
            rw [get?_eq,hqj]
            simp only [aP,dF,aS]
            refine ⟨?_,λx hx=>cK.2 ((d3 x).1 (hready x hx))⟩
            cases hh:has done j with
            |false=>rfl
            |true=>exact absurd (cK.1 hh) hjd
          have hk2:=uS hk j hmem
          rw [get?_eq,hqj] at hk2
          exact yA ow hC hci hk2 (λa' w' G' ρ' t' h' hC' hk'=>ih _ _ _ hsz hcnt ⟨jb,.inl ⟨j :: done,k,G',ρ',t',h',cm.2 ⟨hjd,d1⟩,by grind,λx=>by grind,λx hx=>by
            grind,hC',hk'⟩⟩) PQ.qk
        grind
      · have hall:∀i,i<m→listed.getD i false=true:=λi hi=>hready i (D.fu j b (by omega) hb i (by omega))
        obtain ⟨k,G,ρ,t',h',k1,k3,hC,hk⟩:=turn listed a w hI hall
        have hjk:j=k:=by
          have h1:k≤j:=by
            grind
          rcases de k j with h2 | h2
          · have:=(k3 k).1 (hready k (D.fu j b (by omega) hb k h2));omega
          grind
        subst hjk
        have hdrop:is.drop j=i :: is.drop (j+1):=by
          have hlt:j<is.length:=by omega
          rw [bO hlt]
          grind
        rw [hdrop] at hk
        exact rp ow hC hci hk (λa' w' G' ρ' t' h' hC' hk'=>ih _ _ _ hsz hcnt ⟨jb,.inr ⟨j+1,G',ρ',t',h',by omega,λk=>by rw [hset,k3];omega,hC',hk'⟩⟩) PQ.qk
end
end Go.Vx
