/- Lemmas. Conditions: none. -/
import Derived.Test.YtjpgfgajkjhonaaGreatDoorQHAN
import Derived.OrdersHeld
namespace Go.Vx
section
variable {P:Program} {E:gR} {n:Nat} {G G':Nat→Prop} {ρ ρ':List Value} {t:T} {h h':H} {a:Act} {w w':World}
def C3 (w:World) (b:Nat):Prop:=(∃r,w.heap[b]? = some (.loop r))∨∃ds,w.heap[b]? = some (.deferred ds)
theorem C3.VX {b:Nat} (h:C3 w b) (hc:K2 w b):False:=by
 obtain ⟨x,y,z,hc⟩:=hc;rcases h with ⟨r,h⟩ | ⟨r,h⟩<;>rw [hc] at h<;>cases h
theorem C3.lt {b:Nat} (h:C3 w b):b<w.heap.size:=by
 rcases h with ⟨r,h⟩ | ⟨r,h⟩<;>exact (aN.1 h).1
theorem cm.BA {hd:Value} {x:B} {r:Nat} (hb:cm G w ρ hd x) (hn:x≠.no) (hr:r∈e9 hd x) (h:C3 w r):False:=by
 rcases h with ⟨_,h⟩ | ⟨_,h⟩<;>rcases hb.obj hn hr with ⟨_,_,h1⟩ | ⟨_,_,h1⟩ | ⟨_,_,_,_,h1⟩<;>(rw [h] at h1;cases h1)
theorem HR.BA (hr:HR G w ρ h) {b:Nat} (hb:C3 w b):¬own ρ h b:=λ⟨id,v,x,h1,h2,h3,h4⟩=>(hr.rep id v x h1 h2).BA h3 h4 hb
theorem Ok.ng (hO:Ok E G w ρ h) {l:Nat} (hl:C3 w l) (he:¬E.G l):¬G l:=λhg=>(hO.go l hg).elim he λh=>hl.VX h.1
theorem Ok.comp {ds':List Deferred} {ms':List Nat} (hO:Ok E G w ρ h) (hms:∀r∈E.ms,r∈ms') (hP:Ok ⟨w,G,ρ,h,ds',ms'⟩ G' w' ρ' h'):Ok E G' w' ρ' h':=by
 refine ⟨hP.hr,λb hb=>hP.gm b (hO.gm b hb),λb hb=>?_,λb hb=>?_,λb hb hn=>?_,aZ hO.size hP.size,hP.os.trans hO.os,hP.tape.trans hO.tape,hP.out.trans hO.out,
  λid v hv hs=>hP.hand id v (hO.hand id v hv hs) hs,aZ hO.hl hP.hl,λr hr=>hP.sN r (hms r hr)⟩
 ·rcases hP.go b hb with h1 | ⟨h1,h2⟩
  ·rcases hO.go b h1 with h3 | ⟨h3,h4⟩
   ·exact .inl h3
   ·exact .inr ⟨h3.same (hP.frame b (hO.hr.gl b h1) (hO.hr.gd b h1)),h4⟩
  ·refine .inr ⟨h1,?_⟩;rcases h2 with h2 | h2
   ·exact .inl (aZ hO.size h2)
   ·exact hO.oo b h2
 ·rcases hP.oo b hb with h1 | h1
  ·exact .inl (aZ hO.size h1)
  ·exact hO.oo b h1
 ·refine (hP.frame b (bt hb hO.size) λho=>?_).trans (hO.frame b hb hn);rcases hO.oo b ho with h1 | h1
  ·exact absurd hb (Nat.not_lt.2 h1)
  ·exact hn h1
theorem Ok.Gk (hO:Ok E G w ρ h) {l:Nat} (hl:C3 w l) (hE:E.w.heap.size≤l) (hg:¬G l) {ms:List Nat} (hm:∀r∈ms,r∈E.ms∧r≠l) {ds:List Deferred} (o:Obj):Ok { E with ds:=ds,ms:=ms } G (w.putObj l o) ρ h:=by
 have hw:∀b,b≠l→(w.putObj l o).heap[b]? = w.heap[b]?:=λ_ hb=>World.putObj_heap_other hb;have hG:∀b,G b→(w.putObj l o).heap[b]? = w.heap[b]?:=λb hb=>hw b λe=>hg (e ▸ hb);have hn:=hO.hr.BA hl;refine ⟨⟨hO.hr.len,λid v x hv hx=>?_,hO.hr.nW,λb hb=>by rw [World.putObj_size];exact hO.hr.gl b hb,hO.hr.gd,hO.hr.uH.mono (λ_ h=>h) hG⟩,hO.gm,λb hb=>(hO.go b hb).imp (λh=>h) λh2=>⟨h2.1.same (hG b hb),h2.2⟩,hO.oo,
  λb hb hno=>(hw b λe=>?_).trans (hO.frame b hb hno),by rw [World.putObj_size];exact hO.size,hO.os,hO.tape,hO.out,hO.hand,hO.hl,λr hr=>?_⟩
 ·by_cases hx0:x = .no
  ·subst hx0;trivial
  ·exact (hO.hr.rep id v _ hv hx).mono (λ_ h=>h) hG (λb hb=>hw b λe=>hn (e ▸ ⟨id,v,x,hv,hx,hx0,hb⟩)) (λ_ _=>rfl)
 ·subst e;exact absurd hb (Nat.not_lt.2 hE)
 ·obtain ⟨h1,h2⟩:=hm r hr;obtain ⟨g1,g2,g3⟩:=hO.sN r h1;exact ⟨(hw r h2).trans g1,g2,g3⟩
theorem p8 {v:Value} {x:V} (hv:bB G w ρ v x) {l:Nat} (hg:¬G l) (o:Obj):bB G (w.putObj l o) ρ v x:=
 hv.mono (λ_ h=>h) (λ_ hb=>World.putObj_heap_other λe=>hg (e ▸ hb)) (λ_ _=>rfl)
theorem dV.ns {v:Value} {x:V} (hv:dV G w ρ v x) (hs:NN x=false):∀i∈ir x,∃u,ρ[i]? = some u∧j1 u=false:=by
 intro i hi;cases hv with
 |p id off b h=>simp only [ir,aM] at hi;subst hi;exact ⟨_,h,rfl⟩
 |mp id r h=>simp only [ir,aM] at hi;subst hi;exact ⟨_,h,rfl⟩
 |it id r m h=>simp only [ir,aM] at hi;subst hi;exact ⟨_,h,rfl⟩
 |os id a n c h=>cases hs
 |q id z i off b n c h=>cases hs
 |ov id z i _ a n c h hv=>cases hs
 |_=>simp [ir] at hi
theorem Ux {x:V} (h:NO x=false):NN x=false:=by cases x<;>first | exact h | rfl
theorem Uz {x:V} (h:Ra x=false):NO x=false:=by cases x<;>first | exact h | rfl
theorem Uy {x:V} (h:KW x=false):Ra x=false:=by cases x<;>first | exact h | rfl
theorem dP.ns {v:Value} {x:V} (hv:dP G w ρ v x) (hs:NO x=false):∀i∈kG x,∃u,ρ[i]? = some u∧j1 u=false:=by
 intro i hi;cases hv with
 |k h=>
  have e:kG x=ir x:=by cases h<;>rfl
  exact h.ns (Ux hs) i (e ▸ hi)
 |fc f u cs caps h0 h1 h2=>
  simp only [kG,aQ] at hi;obtain ⟨y,hy,hi⟩:=hi;obtain ⟨k,hk⟩:=aq.1 hy;simp only [NO,List.any_eq_false] at hs;exact (h2 k y hk).ns (by simpa using hs y hy) i hi
theorem dW.ns {v:Value} {x:V} (hv:dW G w ρ v x) (hs:Ra x=false):∀i∈jC x,∃u,ρ[i]? = some u∧j1 u=false:=by
 intro i hi;cases hv with
 |c h=>
  have e:jC x=kG x:=by
   cases h with
   |k h=>cases h<;>rfl
   |fc=>rfl
  exact h.ns (Uz hs) i (e ▸ hi)
 |ag cs vs h1 h2=>
  simp only [jC,aQ] at hi;obtain ⟨y,hy,hi⟩:=hi;obtain ⟨k,hk⟩:=aq.1 hy;simp only [Ra,List.any_eq_false] at hs;exact (h2 k y hk).ns (by simpa using hs y hy) i hi
theorem bB.ns {v:Value} {x:V} (hv:bB G w ρ v x) (hs:KW x=false):∀i∈eR x,∃u,ρ[i]? = some u∧j1 u=false:=by
 intro i hi;cases hv with
 |o h=>
  have e:eR x=jC x:=by
   cases h with
   |c h=>cases h with
    |k h=>cases h<;>rfl
    |fc=>rfl
   |ag=>rfl
  exact h.ns (Uy hs) i (e ▸ hi)
 |tu cs vs h1 h2=>
  simp only [eR,aQ] at hi;obtain ⟨y,hy,hi⟩:=hi;obtain ⟨k,hk⟩:=aq.1 hy;simp only [KW,List.any_eq_false] at hs;exact (h2 k y hk).ns (by simpa using hs y hy) i hi
def l8 (G:Nat→Prop) (w:World) (ρ:List Value) (G':Nat→Prop) (w':World) (ρ':List Value):Prop:=
 (∀b,G b→G' b∧w'.heap[b]? = w.heap[b]?)∧∀(i:Nat) (u:Value),ρ[i]? = some u→j1 u=false→ρ'[i]? = some u
theorem l8.refl:l8 G w ρ G w ρ :=⟨λ_ h=>⟨h,rfl⟩,λ_ _ h _=>h⟩
theorem l8.trans {G1 G2:Nat→Prop} {w1 w2:World} {ρ1 ρ2:List Value} (h:l8 G w ρ G1 w1 ρ1) (k:l8 G1 w1 ρ1 G2 w2 ρ2):l8 G w ρ G2 w2 ρ2:=
 ⟨λb hb=>let h1:=h.1 b hb;let h2:=k.1 b h1.1;⟨h2.1,h2.2.trans h1.2⟩,λi u hi hu=>k.2 i u (h.2 i u hi hu) hu⟩
theorem l8.put {l:Nat} (hg:¬G l) (o:Obj):l8 G w ρ G (w.putObj l o) ρ :=⟨λ_ hb=>⟨hb,World.putObj_heap_other λe=>hg (e ▸ hb)⟩,λ_ _ h _=>h⟩
theorem Ok.stay {ds:List Deferred} {ms:List Nat} (hr:HR G w ρ h) (hP:Ok ⟨w,G,ρ,h,ds,ms⟩ G' w' ρ' h'):l8 G w ρ G' w' ρ':=
 ⟨λb hb=>⟨hP.gm b hb,hP.frame b (hr.gl b hb) (hr.gd b hb)⟩,hP.hand⟩
theorem l8.rep (hS:l8 G w ρ G' w' ρ') {v:Value} {x:V} (hv:bB G w ρ v x) (hs:KW x=false):bB G' w' ρ' v x:=
 hv.mono (λb hb=>(hS.1 b hb).1) (λb hb=>(hS.1 b hb).2) (λi hi=>let ⟨u,h1,h2⟩:=hv.ns hs i hi;(hS.2 i u h1 h2).trans h1.symm)
theorem l8.VF (hS:l8 G w ρ G' w' ρ') {v:Value} {x:V} (hv:dV G w ρ v x) (hs:NN x=false):dV G' w' ρ' v x:=
 hv.mono (λb hb=>(hS.1 b hb).1) (λb hb=>(hS.1 b hb).2) (λi hi=>let ⟨u,h1,h2⟩:=hv.ns hs i hi;(hS.2 i u h1 h2).trans h1.symm)
def T3 (r:Nat):Deferred:={ target:=.collected r,args:= #[] }
def mc (E E':gR):Prop:=∃l:List Nat,E'={ E with ds:=l.map T3++E.ds,ms:=l++E.ms }∧(E.ms.Nodup→(l++E.ms).Nodup)∧∀r∈l,E.w.heap.size≤r
theorem mc.refl (E:gR):mc E E:=⟨[],rfl,λh=>h,by simp⟩
theorem mc.trans {E E1 E2:gR} (h:mc E E1) (k:mc E1 E2):mc E E2:=by
 obtain ⟨l,rfl,h1,h2⟩:=h;obtain ⟨m,rfl,k1,k2⟩:=k;refine ⟨m++l,by simp,λh=>by simpa using k1 (h1 h),λr hr=>?_⟩;rcases aS.1 hr with h | h
 ·exact k2 r h
 ·exact h2 r h
theorem mc.ew {E E1:gR} (h:mc E E1):E1.w=E.w:=by obtain ⟨l,rfl,_⟩:=h;rfl
theorem mc.eG {E E1:gR} (h:mc E E1):E1.G=E.G:=by obtain ⟨l,rfl,_⟩:=h;rfl
theorem mc.er {E E1:gR} (h:mc E E1):E1.ρ=E.ρ :=by obtain ⟨l,rfl,_⟩:=h;rfl
theorem mc.eh {E E1:gR} (h:mc E E1):E1.h=E.h:=by obtain ⟨l,rfl,_⟩:=h;rfl
def w_:Code→Bool
 |.seq a b=>w_ a&&w_ b
 |.cond _ a b=>w_ a&&w_ b
 |.block _ c=>w_ c
 |.loop c=>w_ c
 |.rangeFunc _ _ _ _=>false
 |_=>true
def QM (b:Bool) (E:gR) (n:Nat) (K:Ex→T→H→Prop) (e:Exit) (a:Act) (w:World):Prop:=
 ∃E',mc E E'∧(b=true→E'=E)∧QK E' n K e a w
theorem QM.of {b:Bool} {K:Ex→T→H→Prop} {e:Exit} (h:QK E n K e a w):QM b E n K e a w:=⟨E,.refl E,λ_=>rfl,h⟩
theorem QM.qk {K:Ex→T→H→Prop} {e:Exit} (h:QM true E n K e a w):QK E n K e a w:=by
 obtain ⟨E',h1,h2,h3⟩:=h;rw [h2 rfl] at h3;exact h3
def N_ (r:Option Nat) (E:gR):Prop:=∀l,r=some l→(∃rec,E.w.heap[l]? = some (.loop rec))∧¬own E.ρ E.h l
theorem N_.none (E:gR):N_ none E:=λ_ h=>by cases h
theorem N_.mk {r:Option Nat} {E E1:gR} (h:N_ r E) (hm:mc E E1):N_ r E1:=by
 obtain ⟨l,rfl,_⟩:=hm;exact h
def WK (P:Program) (ow:Nat→Bool) (n:Nat) (c:Code) (x:C):Prop:=
  ∀(r:Option Nat) (N:Nat) (E:gR),E.ρ.length=E.h.length→N_ r E→∀(G:Nat→Prop) (ρ:List Value) (t:T) (h:H) (a:Act) (w:World) (K:Ex→T→H→Prop),au E n G ρ t h a w →
    wx (Sat P) ow E.h.length x t h K→c.wpIn (Fw r) N P (QM (w_ c) E n K) a w
theorem LJ {d:D} (h:Rb d):bw G w (qt d) d:=by
 cases d with
 |int k n=>exact .int k n
 |bool b=>exact .bool b
 |str s=>
  have:=bw.str (G:=G) (w:=w) ⟨s.toArray⟩ (by simpa [ByteArray.size,Rb,maxLen] using h);simpa [qt] using this
 |_=>exact h.elim
theorem Q5:∀(ps:List Nat) (r:List D) (t:T) (u:Array Value),(∀p∈ps,p<u.size)→(∀d∈r,Rb d)→(∀i,bB G w ρ (u.getD i undef) (gs t i)) →
  ∀i,bB G w ρ (((ps.zip (r.map qt)).foldl (λt (p,v)=>t.setIfInBounds p v) u).getD i undef) (gs (Ri ps r t) i):=by
 intro ps
 induction ps with
 |nil=>intro r t u _ _ h;exact h
 |cons p ps ih=>
  intro r t u hp hr h;cases r with
  |nil=>exact h
  |cons d r=>
   refine ih r _ (u.setIfInBounds p (qt d)) (λq hq=>by simpa using hp q (by simp [hq])) (λx hx=>hr x (by simp [hx])) (λi=>?_);have hpl:=hp p (by simp);rw [gP]
   by_cases e:p=i
   ·subst e;simp only [fG,δ];have:=LJ (G:=G) (w:=w) (hr d (by simp));simpa [cZ,hpl] using (bB.o (.c (.k (.d this))):bB G w ρ _ _)
   ·rw [fy e,ε];simpa [cZ,e] using h i
theorem E_:∀(l:List (Nat×Value)) (u:Array Value),(l.foldl (λt (p,v)=>t.setIfInBounds p v) u).size=u.size:=by
 intro l
 induction l with
 |nil=>intro u;rfl
 |cons x l ih=>intro u;rw [cN,ih];simp
theorem MI {T0:T} (h:(T0.all λp=> !(KW p.2))=true) (i:Nat):KW (gs T0 i)=false:=by
 rcases (show gs T0 i = .un∨∃p∈T0,p.2=gs T0 i from by
  induction T0 with
  |nil=>exact .inl rfl
  |cons p T0 ih=>
   simp only [lJ,aP] at h;rw [gP];cases hb:Nat.beq p.1 i
   ·rw [ε];rcases ih h.2 with h1 | ⟨q,h1,h2⟩
    ·exact .inl h1
    ·exact .inr ⟨q,by simp [h1],h2⟩
   ·rw [δ];exact .inr ⟨p,by simp,rfl⟩) with e | ⟨p,hp,e⟩
 ·rw [e];rfl
 ·rw [←e];have:=aT.1 h p hp;simpa using this
end
def fk {α:Type}:Sem α→Prop
 |.pure _=>True
 |.load _ _ k=>∀v,fk (k v)
 |.new _ k=>∀r,fk (k r)
 |.shape _ k=>∀s,fk (k s)
 |.frozen _ k=>∀b,fk (k b)
 |.program k=>∀p,fk (k p)
 |.mark _ k=>fk k
 |.choose _ k=>∀n,fk (k n)
 |.halt _=>True
 |_=>False
theorem Ac {α β:Type} {f:α→Sem β} (hf:∀a,fk (f a)) (s:Sem α):fk s→fk (s.bind f):=by
 induction s with
 |pure a=>intro _;exact hf a
 |load _ _ _ ih=>intro h v;exact ih v (h v)
 |new _ _ ih=>intro h v;exact ih v (h v)
 |shape _ _ ih=>intro h v;exact ih v (h v)
 |frozen _ _ ih=>intro h v;exact ih v (h v)
 |program _ ih=>intro h v;exact ih v (h v)
 |mark _ _ ih=>intro h;exact ih h
 |choose _ _ ih=>intro h v;exact ih v (h v)
 |halt _=>intro _;trivial
 |_=>intro h;exact h.elim
theorem bH {α β:Type} {f:α→Sem β} {s:Sem α} (hf:∀a,fk (f a)) (h:fk s):fk (s.bind f):=Ac hf s h
def Ext (w w':World):Prop:=w.heap.size≤w'.heap.size∧∀b,b<w.heap.size→w'.heap[b]? = w.heap[b]?
theorem Ext.refl (w:World):Ext w w:=⟨aR _,λ_ _=>rfl⟩
theorem Ext.trans {a b c:World} (h:Ext a b) (g:Ext b c):Ext a c:=
 ⟨aZ h.1 g.1,λx hx=>by rw [g.2 x (bt hx h.1),h.2 x hx]⟩
theorem jc {α:Type} {P:Program}:∀{s:Sem α},fk s→∀{w w':World} {x:α},s.run P w = .ok x w'→Ext w w'
 |.pure _,_,w,w',x,hr=>by
  simp only [Sem.run,Result.ok.injEq] at hr;rw [←hr.2];exact Ext.refl w
 |.load m a k,h,w,w',x,hr=>by
  simp only [Sem.run] at hr;split at hr
  ·exact jc (h _) hr
  ·split at hr
   ·exact jc (h _) hr
   ·cases hr
 |.new o k,h,w,w',x,hr=>by
  simp only [Sem.run] at hr;refine Ext.trans ?_ (jc (h _) hr);exact ⟨by simp,λb hb=>by simp [jL,Nat.ne_of_lt hb]⟩
 |.shape _ k,h,w,w',x,hr=>by
  simp only [Sem.run] at hr;exact jc (h _) hr
 |.frozen _ k,h,w,w',x,hr=>by
  simp only [Sem.run] at hr;exact jc (h _) hr
 |.program k,h,w,w',x,hr=>by
  simp only [Sem.run] at hr;exact jc (h _) hr
 |.mark _ k,h,w,w',x,hr=>by
  simp only [Sem.run] at hr;exact jc (s:=k) h hr
 |.choose _ k,h,w,w',x,hr=>by
  simp only [Sem.run] at hr;split at hr
  all_goals
   have h1:=jc (h _) hr;exact ⟨h1.1,h1.2⟩
 |.halt _,_,w,w',x,hr=>by
  simp only [Sem.run] at hr;cases hr
def wV (o:Oper):Prop:=match o.op with
 |.move _ | .assign _ | .extract _ _ | .load _ _ | .alloc _ | .build _ _ | .buildSlice _ _ _ | .slice _ _ _ _ _=>True
 |_=>False
theorem kv (t:TypeId):fk (typeInfo t):=by
 unfold typeInfo;refine bH (s:=program) (λp=>?_) (λ_=>trivial);split<;>trivial
theorem eu (t:TypeId):fk (underlying t):=by
 unfold underlying;refine bH (s:=program) (λp=>?_) (λ_=>trivial);split<;>trivial
theorem A9 (t:TypeId):fk (isAgg t):=by
 unfold isAgg;refine bH (λp=>?_) (eu t);split<;>trivial
theorem gB (t:TypeId):fk (sizeOf t):=by
 unfold sizeOf;exact bH (λ_=>trivial) (kv t)
theorem su (a:Addr):∀(n i:Nat) (acc:Array Value),fk (loadCellsFrom a i n acc)
 |0,_,_=>trivial
 |n+1,i,acc=>by
  unfold loadCellsFrom;exact bH (s:=load (a.add i)) (λv=>su a n (i+1) _) (λ_=>trivial)
theorem yU (t:TypeId) (v:Value):fk (Instr.loadAt t v):=by
 unfold Instr.loadAt;refine bH (λa=>?_) ?_
 ·unfold loadVar;refine bH (λb=>?_) (A9 t);split
  ·refine bH (s:=sizeOf t) (λn=>?_) (gB t);exact bH (s:=loadCells a n) (λcs=>trivial) (su a n 0 #[])
  ·exact λ_=>trivial
 ·unfold Instr.sureAddr;split<;>trivial
theorem Ad (t:TypeId):fk (Instr.alloc t true (.tuple #[])):=by
 unfold Instr.alloc;refine bH (λz=>?_) ?_
 ·refine bH (λa=>trivial) ?_;exact λ_=>trivial
 ·unfold zeroValue;refine bH (λi=>?_) (kv t);split<;>trivial
theorem vS (t:TypeId):fk (zeroValue t):=by
 unfold zeroValue;refine bH (λi=>?_) (kv t);split<;>trivial
theorem vT {α β:Type} {f:α→Sem β} (hf:∀a,fk (f a)):∀l:List α,fk (l.mapM f)
 |[]=>by rw [List.mapM_nil];trivial
 |a :: l=>by
  rw [gJ];exact bH (λx=>bH (λ_=>trivial) (vT hf l)) (hf a)
theorem yT {α β:Type} {f:α→β} {s:Sem α} (h:fk s):fk (f <$> s):=bH (f:=λa=>Sem.pure (f a)) (λ_=>trivial) h
theorem Aa (t:TypeId) (ps:Array (Nat×Value)):fk (Instr.build t ps):=by
 unfold Instr.build;refine bH (λz=>?_) (vS t);refine bH (λd=>?_) (eu t);split
 ·rw [Array.mapM_eq_mapM_toList];refine bH (λpl=>?_) (yT (vT (λf=>by refine bH (λ_=>?_) (gB f.type);trivial) _));split<;>trivial
 ·refine bH (λn=>?_) (gB _);split<;>trivial
 ·trivial
theorem rh (t:TypeId) (n:Nat) (ps:Array (Nat×Value)):fk (Instr.buildSlice t n ps):=by
 unfold Instr.buildSlice;refine bH (λd=>?_) (eu t);split
 ·refine bH (λk=>?_) (gB _);dsimp only;have hz:∀{z:Array Value} {e:TypeId},fk (match Instr.fill (λi=>some (i*k,k)) ((Array.range (n*k)).map (λx=>z[x % z.size]!)) ps.toList with
    |some cells=>do pure (.slice (some (←newRow e cells)) n n)
    | _=>stuck "buildSlice: a part of the wrong size" : Sem Value):=by
   intro z e;split
   ·exact bH (λ_=>trivial) (bH (s:=newObj _) (λ_=>trivial) (λ_=>trivial))
   ·trivial
  split
  ·trivial
  ·split
   ·exact hz
   ·exact bH (λ_=>hz) (vS _)
 ·trivial
theorem A8 {α:Type} (k:IntKind) (x y:Int) (c:BoundsCode):fk (boundsPanic k x y c:Sem α):=by
 unfold boundsPanic;dsimp only;have hr:∀b,fk (runtimePanic (.bounds (IntKind.i64.wrap x) y b c):Sem α):=λb=>by
  unfold runtimePanic;exact bH (s:=program) (λp=>trivial) (λ_=>trivial)
 split
 ·exact bH (λb=>hr b) (yT (s:=choose _) (λ_=>trivial))
 ·exact hr _
theorem Ab (x:Value) (y:Nat) (c:BoundsCode):fk (Instr.sliceBound x y c):=by
 unfold Instr.sliceBound;refine bH (λp=>?_) ?_
 ·obtain ⟨k,i⟩:=p;dsimp only;split
  ·trivial
  ·exact A8 _ _ _ _
 ·unfold asIntOf;split<;>trivial
theorem ka (b:Bool) (n c:Nat) (lo hi mx:Option Value):fk (Instr.sliceBounds b n c lo hi mx):=by
 unfold Instr.sliceBounds;cases mx<;>cases hi<;>cases lo<;>repeat' (first | exact True.intro | refine bH (λ_=>?_) (Ab _ _ _) | refine bH (s:=Sem.pure _) (λ_=>?_) True.intro)
theorem yV (x:Value):fk (asAddr x):=by
 unfold asAddr;split
 ·trivial
 ·unfold runtimePanic;exact bH (s:=program) (λp=>trivial) (λ_=>trivial)
 ·trivial
theorem A7 (t:TypeId) (x:Value) (lo hi mx:Option Value):fk (Instr.slice t x lo hi mx):=by
 unfold Instr.slice;refine bH (λd=>?_) (eu t);split
 ·split
  ·trivial
  ·exact bH (λ_=>trivial) (ka _ _ _ _ _ _)
 ·exact bH (λ_=>bH (λ_=>trivial) (gB _)) (ka _ _ _ _ _ _)
 ·refine bH (λa=>bH (λd=>?_) (eu _)) (yV _);split
  ·exact bH (λ_=>bH (λ_=>trivial) (gB _)) (ka _ _ _ _ _ _)
  ·trivial
 ·trivial
theorem wU (t:TypeId) (x:Value) (lo hi mx:Option Value):fk (Instr.sliceAt t x lo hi mx):=by
 unfold Instr.sliceAt;refine bH (λd=>?_) (eu t);split
 ·refine bH (λa=>bH (λ_=>bH (λ_=>trivial) (gB _)) (ka _ _ _ _ _ _)) ?_;unfold Instr.sureAddr;split<;>trivial
 ·exact A7 _ _ _ _ _
theorem EC {o:Oper} (h:wV o) (ρ:Operand→Value):fk (execOp ρ o):=by
 unfold wV at h;unfold execOp;cases ho:o.op<;>rw [ho] at h<;>try exact h.elim
 case move x=>trivial
 case assign x=>trivial
 case extract x i=>
  refine bH (λ_=>trivial) ?_;unfold Instr.extract;split
  ·split<;>trivial
  ·trivial
 case load t x=>exact bH (λ_=>trivial) (yU t _)
 case alloc t=>exact bH (λ_=>trivial) (Ad t)
 case build t ps=>exact bH (λ_=>trivial) (Aa t _)
 case buildSlice t n ps=>exact bH (λ_=>trivial) (rh t n _)
 case slice t x lo hi mx=>exact bH (λ_=>trivial) (wU t _ _ _ _)
theorem GP {o:Oper} (h:wV o) {P:Program} {ρ:Operand→Value} {w w':World} {x:Next} (hr:(execOp ρ o).run P w = .ok x w'):Ext w w'∧∃v,x = .value v:=by
  refine ⟨jc (EC h ρ) hr,?_⟩
  unfold wV at h
  have key:∀{s:Sem Value},((do pure (Next.value (←s))):Sem Next).run P w = .ok x w'→∃v,x = .value v:=by
    intro s hs
    have:∀(s:Sem Value) (w:World),(s.bind λv=>Sem.pure (Next.value v)).run P w = .ok x w'→∃v,x = .value v:=by
      intro s
      induction s with
      |pure a=>intro w h;simp only [Sem.bind,Sem.run,Result.ok.injEq] at h;exact ⟨_,h.1.symm⟩
      |load m a k ih=>
        intro w h
        simp only [Sem.bind,Sem.run] at h
        split at h
        · exact ih _ _ h
        · split at h
          · exact ih _ _ h
          · cases h
      |store m a v k ih=>
        intro w h
        cases v<;>simp only [Sem.bind,Sem.run] at h<;>first
          |cases h;done
          | (split at h
             · split at h
               · cases h
               · exact ih _ h
             · split at h
               · exact ih _ h
               · cases h)
      |new _ _ ih=>intro w h;simp only [Sem.bind,Sem.run] at h;exact ih _ _ h
      |shape _ _ ih=>intro w h;simp only [Sem.bind,Sem.run] at h;exact ih _ _ h
      |freeze _ _ _ ih=>intro w h;simp only [Sem.bind,Sem.run] at h;exact ih _ h
      |frozen _ _ ih=>intro w h;simp only [Sem.bind,Sem.run] at h;exact ih _ _ h
      |getObj _ _ ih=>intro w h;simp only [Sem.bind,Sem.run] at h;split at h<;>first | (cases h;done) | exact ih _ _ h
      |setObj _ _ _ ih=>intro w h;simp only [Sem.bind,Sem.run] at h;split at h<;>first | (cases h;done) | exact ih _ h
      |choose _ _ ih=>intro w h;simp only [Sem.bind,Sem.run] at h;split at h<;>exact ih _ _ h
      |sys _ _ ih=>intro w h;simp only [Sem.bind,Sem.run] at h;exact ih _ _ h
      |program _ ih=>intro w h;simp only [Sem.bind,Sem.run] at h;exact ih _ _ h
      |mark _ _ ih=>intro w h;simp only [Sem.bind,Sem.run] at h;exact ih _ h
      |halt _=>intro w h;simp only [Sem.bind,Sem.run] at h;cases h
    exact this s w hs
  unfold execOp at hr
  cases ho:o.op<;>rw [ho] at h hr<;>try exact h.elim
  case move y=>simp only [pure,Sem.run,Result.ok.injEq] at hr;exact ⟨_,hr.1.symm⟩
  case assign y=>simp only [pure,Sem.run,Result.ok.injEq] at hr;exact ⟨_,hr.1.symm⟩
  all_goals exact key hr
section
variable {P:Program} {E:gR} {n:Nat} {G:Nat→Prop} {ρ:List Value} {t:T} {h:H} {a:Act} {w:World} {o:Oper} {K KP:V→T→H→Prop}
def YP (P:Program) (G:Nat→Prop) (w:World) (ρ:List Value) (a:Act) (o:Oper) (K:V→T→H→Prop) (t:T) (h:H):Prop:=
 ∃v' v,(∀w2,(execOp a.eval o).run P w2 = .ok (.value v') w2)∧bB G w ρ v' v∧K v t h
def YL (P:Program) (G:Nat→Prop) (w:World) (ρ:List Value) (a:Act) (o:Oper) (K:V→T→H→Prop) (t:T) (h:H):Prop:=
 ∃v' v,(∀w2,Ext w w2→(execOp a.eval o).run P w2 = .ok (.value v') w2)∧bB G w ρ v' v∧K v t h
theorem fX {v':Value} {v:V} (hr:∀w2,(execOp a.eval o).run P w2 = .ok (.value v') w2) (hv:bB G w ρ v' v) (hk:K v t h):YP P G w ρ a o K t h:=⟨v',v,hr,hv,hk⟩
theorem Ext.cell {w w2:World} (he:Ext w w2) {ad:Addr} {v:Value} (hc:w.cell? ad=some v):w2.cell? ad=some v:=by
 unfold World.cell? at *;have hlt:ad.block<w.heap.size:=by
  rcases cq ad.block w.heap.size with h | h
  ·exact h
  ·rw [kV h] at hc;simp at hc
 rw [he.2 _ hlt];exact hc
theorem wL {ty:TypeId} {x:Operand} {ad:Addr} {v':Value} {v:V} (ho:o.op = .load ty x) (hp:a.eval x = .pointer (some ad)) (hl:u_ P ty=some none)
  (hc:w.cell? ad=some v') (hv:dP G w ρ v' v) (hk:K v t h):YL P G w ρ a o K t h:=by
 refine ⟨v',v,λw2 he=>?_,.c hv,hk⟩;simp [execOp,ho,hp,Instr.loadAt,Instr.sureAddr,tn hl,he.cell hc]
theorem AP {ty:TypeId} {x:Operand} {b off k:Nat} {U:Nat→Value} {vs:List V} (ho:o.op = .load ty x) (hp:a.eval x = .pointer (some ⟨b,off,none⟩)) (hl:u_ P ty=some (some k))
  (hlen:vs.length=k) (hU:∀(j:Nat) (y:V),vs[j]? = some y→w.cell? ⟨b,off+j,none⟩=some (U j)∧dP G w ρ (U j) y) (hk:K (.ag vs) t h):YL P G w ρ a o K t h:=by
 refine ⟨.agg ((List.range vs.length).map U).toArray,.ag vs,λw2 he=>?_,(.o (.ag _ vs (by simp) (λi y hi=>?_))),hk⟩
 ·have hrun:(loadVar ty ⟨b,off,none⟩).run P w2 = .ok (.agg ((List.range vs.length).map U).toArray) w2:=by
   refine ti hl _ _ (by simpa using hlen) (λj v hv=>?_);rw [eI];simp only [aC,aG] at hv;obtain ⟨j',hj',rfl⟩:=hv;have hjl:j<vs.length:=by
    have:=(aA.1 hj').1;simpa using this
   rw [cG hjl] at hj';cases hj';exact he.cell (hU j _ (aB hjl)).1
  simp [execOp,ho,hp,Instr.loadAt,Instr.sureAddr,hrun]
 ·have hil:i<vs.length:=(aA.1 hi).1;simpa [aF,hil] using (hU i y hi).2
theorem Rr (hC:au E n G ρ t h a w) {x:Operand} {ox:O} {ty:TypeId} (ho:o.op = .move x∨o.op = .assign x) (hx:ck P ty x=some ox) (hk:K (gv t ox) t h):YP P G w ρ a o K t h:=by
 refine fX (v':=a.eval x) (λw=>?_) (bJ hC hx) hk;rcases ho with ho | ho<;>simp [execOp,ho]
section
variable (S:Nat→List V→H→(Out→H→Prop)→Prop) (ow:Nat→Bool)
theorem Uk (hC:au E n G ρ t h a w) {ty t1:TypeId} {x:Operand} {ox:O} {m:Option Nat} (ho:o.op = .load ty x) (hx:ck P t1 x=some ox) (hl:u_ P ty=some m)
  (hk:bz S ow (.ld ox m) t h K KP):YL P G w ρ a o K t h:=by
 have hv:=bJ hC hx;simp only [bz] at hk;split at hk
 ·skip
  rename_i id off hg;rw [hg] at hv;obtain ⟨b,hp,hρ⟩:=hv.pt;rw [get?_eq] at hk;split at hk
  ·rename_i cs hcs;obtain ⟨b',arr,ty',hb,h1,h2,h3⟩:=hC.ok.hr.rep id _ _ hρ hcs;simp only [Value.pointer.injEq,aE,Addr.mk.injEq,ω] at hb;obtain ⟨rfl,_⟩:=hb;cases m with
   |none=>
    simp only [get?_eq] at hk;split at hk
    ·rename_i v hvv;have hol:off<arr.size:=by rw [h2];exact (aA.1 hvv).1
     refine wL ho hp hl (v':=arr[off]) (by rw [dO h1];exact aJ hol) ?_ hk;have:=h3 off v hvv;simpa [aF,hol] using this
    ·exact hk.elim
   |some k=>
    simp only [bo] at hk;have hlen:=jf hk.1;refine AP ho hp hl (U:=λj=>arr.getD (off+j) undef) hlen (λj y hy=>?_) hk.2;have hj:j<k:=by rw [←hlen];exact (aA.1 hy).1
    rw [ae,ζ hj,aw] at hy;have hol:off+j<arr.size:=by rw [h2];exact (aA.1 hy).1
    refine ⟨?_,h3 (off+j) y hy⟩;rw [dO h1,aF,aJ hol];rfl
  ·exact hk.elim
 ·skip
  rename_i row off hg;rw [hg] at hv;obtain ⟨b,oo,U,hp,hGb,hU,hD⟩:=hv.el;cases m with
  |none=>
   simp only [get?_eq] at hk;split at hk
   ·rename_i v hvv;exact wL ho hp hl (hU off v hvv) (.k (.d (hD off v hvv))) hk
   ·exact hk.elim
  |some k=>
   simp only [bo] at hk;have hlen:=jf hk.1;refine AP ho hp hl (U:=λj=>U (off+j)) hlen (λj y hy=>?_) hk.2;have hj:j<k:=by rw [←hlen];exact (aA.1 hy).1
   rw [aC,ae,ζ hj,aw] at hy;cases hr:row[off+j]? with
   |none=>rw [hr] at hy;cases hy
   |some y0=>
    rw [hr] at hy;cases hy;exact ⟨by rw [dx];exact hU _ _ hr,.k (.d (hD _ _ hr))⟩
 ·skip
  rename_i id z i off hg;rw [hg] at hv;obtain ⟨b,nn,c,hp,hρ⟩:=hv.ql;rw [get?_eq] at hk;split at hk
  ·rename_i z' rs hrs;obtain ⟨hz,row,hrow,hk⟩:=hk;obtain rfl:=jf hz;obtain ⟨b',cap,arr,ty',hb,h1,h2,hle,h3⟩:=jn (hC.ok.hr.rep id _ _ hρ hrs) hrow;simp only [Value.slice.injEq,aE,Addr.mk.injEq,ω] at hb;obtain ⟨rfl,_,_⟩:=hb;cases m with
   |none=>
    simp only [get?_eq] at hk;split at hk
    ·rename_i v hvv;exact wL ho hp hl (h3 off v hvv).1 (.k (.d (h3 off v hvv).2)) hk
    ·exact hk.elim
   |some k=>
    simp only [bo] at hk;have hlen:=jf hk.1;refine AP ho hp hl (U:=λj=>arr.getD (i*z+(off+j)) undef) hlen (λj y hy=>?_) hk.2;have hj:j<k:=by rw [←hlen];exact (aA.1 hy).1
    rw [aC,ae,ζ hj,aw] at hy;cases hr:row[off+j]? with
    |none=>rw [hr] at hy;cases hy
    |some y0=>
     rw [hr] at hy;cases hy;exact ⟨by rw [dx];exact (h3 _ _ hr).1,.k (.d (h3 _ _ hr).2)⟩
  ·rename_i z' rs i' row hrs;obtain ⟨⟨hz,rfl⟩,hk⟩:=hk;obtain rfl:=jf hz;obtain ⟨b',cap,arr,ty',hb,h1,h2,h3,h4,⟨h0,hrz⟩,h5,h6⟩:=hC.ok.hr.rep id _ _ hρ hrs;simp only [Value.slice.injEq,aE,Addr.mk.injEq,ω] at hb;obtain ⟨rfl,_,_⟩:=hb;cases m with
   |none=>
    simp only [get?_eq] at hk;split at hk
    ·rename_i v hvv;have hol:off<row.length:=(aA.1 hvv).1;have hle:i*z+z≤arr.size:=by
      rw [h4];have:(i+1)*z≤cap*z:=bC _ (by omega);rw [bq] at this;omega
     refine wL ho hp hl (v':=arr.getD (i*z+off) undef) ?_ (h6 off v hvv) hk;rw [dO h1,aF,aJ (by omega)];rfl
    ·exact hk.elim
   |some k=>exact hk.elim
  ·exact hk.elim
 ·exact hk.elim
theorem Ul (hC:au E n G ρ t h a w) {ty t1:TypeId} {x:Operand} {f:Nat} {fs:Array Field} {fd:Field} {ox:O} (ho:o.op = .fieldAddr ty x f) (hu:P.underlying ty=some (.struct fs)) (hf:fs[f]? = some fd)
  (hz:P.cellsOf fd.type≠0) (hx:ck P t1 x=some ox) (hk:bz S ow (.fa ox fd.offset) t h K KP):YP P G w ρ a o K t h:=by
 have hv:=bJ hC hx;have hrun:∀ad:Addr,a.eval x = .pointer (some ad)→∀w:World,(execOp a.eval o).run P w = .ok (.value (.pointer (some (ad.add fd.offset)))) w:=by
  intro ad had w;unfold Program.cellsOf at hz;cases hi:P.info? fd.type with
  |none=>rw [hi] at hz;simp at hz
  |some i=>
   rw [hi] at hz;simp at hz;simp [execOp,ho,had,Instr.fieldAt,run_underlying hu,hf,Instr.sureAddr,fieldPlace,sizeOf,typeInfo,hi,hz]
 simp only [bz] at hk;split at hk
 ·rename_i id off hg;rw [hg] at hv;obtain ⟨b,hp,hρ⟩:=hv.pt;rw [cn] at hk;refine fX (hrun _ hp) ?_ hk;rw [eI];exact .k (.p id _ b hρ)
 ·rename_i row off hg;rw [hg] at hv;obtain ⟨b,oo,U,hp,hGb,hU,hD⟩:=hv.el;rw [cn] at hk;refine fX (hrun _ hp) ?_ hk;rw [eI,dx];exact .k (.e b oo _ row U hGb hU hD)
 ·rename_i id z i off hg;rw [hg] at hv;obtain ⟨b,nn,c,hp,hρ⟩:=hv.ql;rw [cn] at hk;refine fX (hrun _ hp) ?_ hk;rw [eI,dx];exact .k (.q id z i _ b nn c hρ)
 ·exact hk.elim
theorem Um (hC:au E n G ρ t h a w) {t1:TypeId} {x:Operand} {i:Nat} {ox:O} (ho:o.op = .extract x i) (hx:ck P t1 x=some ox) (hk:bz S ow (.ex ox i) t h K KP):YP P G w ρ a o K t h:=by
 have hvx:=bJ hC hx;simp only [bz] at hk;split at hk
 ·rename_i vs hg;rw [hg] at hvx;obtain ⟨cs,hv,hs,hr⟩:=hvx.UY;rw [get?_eq] at hk;split at hk
  ·rename_i v hi;have hil:i<cs.size:=by rw [hs];exact (aA.1 hi).1
   refine fX (v':=cs.getD i undef) (λw=>?_) (.o (hr i v hi)) hk;simp [execOp,ho,Instr.extract,hv,hil]
  ·exact hk.elim
 ·exact hk.elim
theorem Un (hC:au E n G ρ t h a w) {ty:TypeId} {fs:Array Field} {ps:Array (Nat×Operand)} {pl:List (Nat×Nat)} {oq:List (Nat×Nat×O)} {zs:List V} (ho:o.op = .build ty ps) (hu:P.underlying ty=some (.struct fs))
  (hpl:fs.toList.mapM (λf=>(P.info? f.type).map λi=>(f.offset,i.size))=some pl) (hz:rZ P ty=some zs)
  (hq:oq.length=ps.size∧∀(k:Nat) (p:Nat×Operand) (q:Nat×Nat×O),ps[k]? = some p→oq[k]? = some q→pl[p.1]? = some (q.1,q.2.1)∧∃ty',ck P ty' p.2=some q.2.2)
  (hk:bz S ow (.bd zs oq) t h K KP):YP P G w ρ a o K t h:=by
 simp only [bz,bo] at hk;obtain ⟨hall,hk⟩:=hk;obtain ⟨i,z,hi,hz0,hzs,_,hzr⟩:=js (G:=G) (w:=w) (ρ := ρ) hz;have hall':∀q∈oq,(gv t q.2.2).cs.length=q.2.1∧q.1+q.2.1≤zs.length∧(gv t q.2.2).cs.all ev=true:=by
  intro q hq;have:=aT.1 hall q hq;simp only [aP] at this;exact ⟨jf this.1.1,a_ this.1.2,this.2⟩
 obtain ⟨out,o1,o2,o3⟩:=xW (G:=G) (w:=w) (ρ := ρ) (pl.toArray[·]?) (ps.map λ(i,x)=>(i,a.eval x)).toList (oq.map λq=>(q.1,(gv t q.2.2).cs)) z.cells zs (by simp [hq.1])
  (λk p q hp hq'=>by
   simp only [qY,aC,aG] at hp hq';obtain ⟨p0,hp0,rfl⟩:=hp;obtain ⟨q0,hq0,rfl⟩:=hq';obtain ⟨g1,ty',g2⟩:=hq.2 k p0 q0 (by simpa using hp0) hq0;obtain ⟨e1,e2,e3⟩:=hall' q0 (aH hq0);obtain ⟨c1,c2⟩:=jR (bJ hC g2) e3;refine ⟨by simp [g1,e1],by simp only;omega,c1,c2⟩)
  hzs (λj x hx=>.k (hzr j x hx).1)
 rw [foldl_map'] at o3;have hb:P.built ty (ps.map λ(i,x)=>(i,a.eval x)).toList=some out:=by
  simp only [Program.built,hi,hu,hz0,hpl];exact o1
 refine fX (v':=.agg out) (λw2=>?_) (.o (.ag out _ ?_ o3)) hk
 ·simp only [execOp,ho];exact cF (run_build w2 ty _ out hb)
 ·have:∀(l:List (Nat×Nat×O)) (c:List V),(l.foldl (λcs p=>lay cs p.1 (gv t p.2.2).cs) c).length=c.length:=by
   intro l
   induction l with
   |nil=>intro c;rfl
   |cons q l ih=>intro c;simp only [cN];rw [ih,jh]
  rw [this,o2,hzs]
theorem Uj (hC:au E n G ρ t h a w) {t1:TypeId} {x:Operand} {ox:O} (ho:o.op = .nilCheck x) (hx:ck P t1 x=some ox) (hk:bz S ow (.nc ox) t h K KP):YP P G w ρ a o K t h:=by
 have hvx:=bJ hC hx;simp only [bz] at hk;split at hk
 ·rename_i i oo hg;rw [hg] at hvx;obtain ⟨b,hv,_⟩:=hvx.pt;exact fX (v':=a.eval x) (λw=>by simp [execOp,ho,hv]) hvx hk
 ·rename_i r oo hg;rw [hg] at hvx;obtain ⟨b,_,_,hv,_⟩:=hvx.el;exact fX (v':=a.eval x) (λw=>by simp [execOp,ho,hv]) hvx hk
 ·rename_i i z j oo hg;rw [hg] at hvx;obtain ⟨b,_,_,hv,_⟩:=hvx.ql;exact fX (v':=a.eval x) (λw=>by simp [execOp,ho,hv]) hvx hk
 ·rename_i f c hg;rw [hg] at hvx;obtain ⟨cs,hv,_⟩:=hvx.Qo;cases hb:Nat.blt f 2000000<;>rw [hb] at hk
  ·exact hk.elim
  have hlt:f<2000000:=by simpa [dQ] using hb
  have hv':∃g y1 y2,a.eval x = .func (.func g) y1 y2:=by
   by_cases h1:f<1000000
   ·exact ⟨_,_,_,xY hv h1⟩
   ·exact ⟨_,_,_,Bm hv h1 hlt⟩
  obtain ⟨g,y1,y2,hv'⟩:=hv';exact fX (v':=a.eval x) (λw=>by simp [execOp,ho,hv']) hvx hk
 ·rename_i f hg;rw [hg] at hvx;have hv:a.eval x = .func (.func f) #[] #[]:=Bi hvx.ra;exact fX (v':=a.eval x) (λw=>by simp [execOp,ho,hv]) hvx hk
 ·rename_i row off hg;rw [hg] at hvx;have hv:=hvx.ra;generalize hav:a.eval x=av at hv;cases hv with
  |pt b o _ _ U h1 h2 h3=>exact fX (v':=a.eval x) (λw=>by simp [execOp,ho,hav]) (by rw [hav];exact .k (.e b o off row U h1 h2 h3)) hk
 ·exact hk.elim
end
theorem wE {P:Program} {ty:TypeId} {op:Op} {x:X} (hx:fq P ty op=some x) (hs:GO x=true∨y7 x=true∨Rj x=true):(∃y,op = .move y)∨(∃y,op = .assign y)∨(∃y i,op = .extract y i)∨(∃t y,op = .load t y)∨(∃t,op = .alloc t)∨(∃y,op = .nilCheck y)∨(∃t y f,op = .fieldAddr t y f)∨(∃t ps,op = .build t ps)∨(∃t n ps,op = .buildSlice t n ps)∨∃t y lo hi mx,op = .slice t y lo hi mx:=by
 cases op
 case move y=>exact .inl ⟨_,rfl⟩
 case assign y=>exact .inr (.inl ⟨_,rfl⟩)
 case extract y i=>exact .inr (.inr (.inl ⟨_,_,rfl⟩))
 case load t y=>exact .inr (.inr (.inr (.inl ⟨_,_,rfl⟩)))
 case alloc t=>exact .inr (.inr (.inr (.inr (.inl ⟨_,rfl⟩))))
 case nilCheck y=>exact .inr (.inr (.inr (.inr (.inr (.inl ⟨_,rfl⟩)))))
 case fieldAddr t y f=>exact .inr (.inr (.inr (.inr (.inr (.inr (.inl ⟨_,_,_,rfl⟩))))))
 case build t ps=>exact .inr (.inr (.inr (.inr (.inr (.inr (.inr (.inl ⟨_,_,rfl⟩)))))))
 case buildSlice t n ps=>exact .inr (.inr (.inr (.inr (.inr (.inr (.inr (.inr (.inl ⟨_,_,_,rfl⟩))))))))
 case slice t y lo hi mx=>exact .inr (.inr (.inr (.inr (.inr (.inr (.inr (.inr (.inr ⟨_,_,_,_,_,rfl⟩))))))))
 all_goals
  exfalso;simp only [fq,aK] at hx
  repeat' (first
   |contradiction
   |(cases hx;done)
   |(obtain ⟨_,hx⟩:=hx)
   |(split at hx)
   |(simp only [aG,aD,aE,reduceCtorEq] at hx)
   |(rcases hs with hs | hs | hs<;>cases hs;done))
end
section
variable {P:Program} {ops:Array Oper} {Q:Exit→Act→World→Prop} {S:World→Prop} {md:Region.Mode}
theorem Dr {j:Nat} {oi oj:Oper} {v:Value} (hj:ops[j]? = some oj) (hap:oi.apart ops oj=true)
  (hsi:∀cs b,oi.op≠.select cs b) (hsj:∀cs b,oj.op≠.select cs b) (hQ:∀c a w,¬Q (.panic c) a w)
  (hS:(∀w,S w)∨(wV oj∧∀w w',S w→Ext w w'→S w')) {K:Act→World→Prop} {a:Act} {w:World}
  (hw:S w) (hy:YieldsIf P ops S oi v a) (h:wpOp P ops Q j K (a.put oi.dst v) w) :
  wpOp P ops Q j (λa' w'=>S w'∧YieldsIf P ops S oi v a'∧K (a'.put oi.dst v) w') a w:=by
 rcases hS with hS | ⟨hso,hS⟩
 ·exact wpOp_mono (λa' w' h=>⟨hS w',h⟩) (wpOp_putIf hj hap hsi hsj (λc a w h=>(hQ c _ w h).elim) hy h)
 ·have h':=wpOp_putIf hj hap hsi hsj (λc a w h=>(hQ c _ w h).elim) hy h;unfold wpOp at h' ⊢;simp only [hj] at h' ⊢;split
  ·rename_i hwn;rw [ζ hwn] at h';rcases h' with h' | h'
   ·refine .inl ?_;unfold Oper.wp at h' ⊢;cases hr:(execOp a.eval oj).run P w with
    |ok x w'=>
     rw [hr] at h';obtain ⟨he,v',rfl⟩:=GP hso hr;exact ⟨hS w w' hw he,h'⟩
    |halt x w'=>
     rw [hr] at h';cases x<;>exact h'
   ·exact .inr h'
  ·rename_i hwn;rw [η hwn] at h';exact ⟨hw,h'⟩
theorem sr {n m:Nat} {is:List I} {bs:List (List Nat)} (D:UM P n ops is bs m) {i:Nat} {oi:Oper} {v:Value} (hi:ops[i]? = some oi) (hsel:∀(j:Nat) (o:Oper) cs b,ops[j]? = some o→o.op≠.select cs b)
    (hQ:∀c a w,¬Q (.panic c) a w) :
    ∀(fuel:Nat) (listed:Array Bool) (a:Act) (w:World),listed.size=ops.size →
      (∀(j:Nat) (b:List Nat),listed.getD j false=true→bs[j]? = some b→∀k∈b,listed.getD k false=true) →
      (∀j oj,ops[j]? = some oj→j≠i→listed.getD j true=false→(∀b,bs[j]? = some b→i∉b)→oi.apart ops oj=true∧((∀w,S w)∨(wV oj∧∀w w',S w→Ext w w'→S w'))) →
      i∈Region.ready .any ops listed→YieldsIf P ops S oi v a→S w →
      wpAny P .any ops Q fuel (listed.setIfInBounds i true) (a.put oi.dst v) w→wpAny P .any ops Q (fuel+1) listed a w:=by
  intro fuel
  induction fuel with
  |zero=>
    intro listed a w _ _ _ hr hy hS H
    refine ⟨λh=>(by rw [h] at hr;cases hr),λj hj=>?_⟩
    by_cases hji:j=i
    · subst hji;exact hy.wpOp hi hS H
    · have:=ready_mono hj hji
      rw [H.1] at this
      cases this
  |succ fuel ih=>
    intro listed a w hsz ib hfree hr hy hS H
    refine ⟨λh=>(by rw [h] at hr;cases hr),λj hj=>?_⟩
    by_cases hji:j=i
    · subst hji;exact hy.wpOp hi hS H
    · have h1:=H.2 j (ready_mono hj hji)
      obtain ⟨hjun,oj,hoj,hall⟩:=mem_ready.1 hj
      have hnl:¬listed.getD i false=true:=by
        have h0:=(mem_ready.1 hr).1
        have hil:i<listed.size:=by rw [hsz];exact (aN.1 hi).1
        simp [hil] at h0 ⊢
        exact h0
      obtain ⟨b,hb,hb1,hb2⟩:=D.cl j oj hoj
      have hready:∀k∈b,listed.getD k false=true:=λk hk=>by
        rcases hb2 k hk with h1 | ⟨k',h1,b',h2,h3⟩
        · obtain ⟨e,e1,e2,rfl⟩:=gG.1 h1
          exact hall e e1 e2
        · obtain ⟨e,e1,e2,rfl⟩:=gG.1 h1
          exact ib _ b' (hall e e1 e2) h2 k h3
      have hib:∀b',bs[j]? = some b'→i∉b':=λb' hb' hm=>by
        rw [hb] at hb';cases hb'
        exact hnl (hready i hm)
      obtain ⟨f1,f2⟩:=hfree j oj hoj hji hjun hib
      have hst:=Dr hoj f1 (λcs b=>hsel i oi cs b hi) (λcs b=>hsel j oj cs b hoj) hQ f2 hS hy h1
      have hjl:j<listed.size:=by rw [hsz];exact (aN.1 hoj).1
      have hset:∀k,(listed.setIfInBounds j true).getD k false=true↔k=j∨listed.getD k false=true:=λk=>by
        by_cases hkj:k=j
        · subst hkj;simp [hjl]
        · rw [getD_set_ne false (kQ hkj)];simp [hkj]
      have hcl':∀(j':Nat) (b:List Nat),(listed.setIfInBounds j true).getD j' false=true→bs[j']? = some b→∀k∈b,(listed.setIfInBounds j true).getD k false=true:=by
        intro j' b' g1 g2 k hk
        rw [hset] at g1 ⊢
        rcases g1 with g1 | g1
        · rw [g1,hb] at g2;cases g2;exact .inr (hready k hk)
        · exact .inr (ib j' b' g1 g2 k hk)
      have hfree':∀k ok,ops[k]? = some ok→k≠i→(listed.setIfInBounds j true).getD k true=false→(∀b,bs[k]? = some b→i∉b) →
          oi.apart ops ok=true∧((∀w,S w)∨(wV ok∧∀w w',S w→Ext w w'→S w')):=λk ok hk hki hun hno=>by
        refine hfree k ok hk hki ?_ hno
        by_cases hjk:j=k
        · subst hjk;exact hjun
        · rw [getD_set_ne true hjk] at hun;exact hun
      refine wpOp_mono (λa' w' h3=>ih (listed.setIfInBounds j true) a' w' (by simpa using hsz) hcl' hfree' (ready_mono hr (kQ hji)) h3.2.1 h3.1 ?_) hst
      rw [Array.setIfInBounds_comm _ _ hji]
      exact h3.2.2
end
section
variable {P:Program} {E:gR} {n:Nat} {K:Ex→T→H→Prop} {ops:Array Oper} {is:List I} {bs:List (List Nat)} {m:Nat} (ow:Nat→Bool)
theorem LR {x:X} (h:y7 x=true) (g:Rj x=true):False:=by cases x<;>first | (cases g;done) | (cases h;done)
theorem K6 {G:Nat→Prop} {ρ:List Value} {t:T} {h:H} {a:Act} {w:World} {o:Oper} {KK KP:V→T→H→Prop} (hC:au E n G ρ t h a w) {x:X} (hx:fq P o.type o.op=some x∨x = .bad) (hp:y7 x=true∨Rj x=true) (hk:bz (Sat P) ow x t h KK KP) :
  (y7 x=true∧YP P G w ρ a o KK t h)∨(Rj x=true∧YL P G w ρ a o KK t h):=by
 rcases hx with hx | rfl
 case inr=>exact hk.elim
 rcases wE hx (.inr hp) with ⟨y,ho⟩ | ⟨y,ho⟩ | ⟨y,i,ho⟩ | ⟨ty,y,ho⟩ | ⟨ty,ho⟩ | ⟨y,ho⟩ | ⟨ty,y,f,ho⟩ | ⟨ty,ps,ho⟩ | ⟨ty,m,ps,ho⟩ | ⟨ty,y,lo,hi,mx,ho⟩<;>rw [ho] at hx<;>simp only [fq] at hx
 ·split at hx
  ·cases hx;rcases hp with hp | hp<;>cases hp
  ·simp only [aG] at hx;obtain ⟨oy,hy,rfl⟩:=hx;exact .inl ⟨rfl,Rr hC (.inl ho) hy hk⟩
 ·split at hx
  ·cases hx;rcases hp with hp | hp<;>cases hp
  ·simp only [aG] at hx;obtain ⟨oy,hy,rfl⟩:=hx;exact .inl ⟨rfl,Rr hC (.inr ho) hy hk⟩
 ·simp only [aK,aD,aE] at hx;obtain ⟨oy,hy,rfl⟩:=hx;exact .inl ⟨rfl,Um (Sat P) ow hC ho hy hk⟩
 ·have ld:(do some (X.ld (←ck P ty y) (←u_ P ty)))=some x→Rj x=true∧YL P G w ρ a o KK t h:=λhx=>by
   simp only [aK,aD,aE] at hx;obtain ⟨oy,hy,m,hm,rfl⟩:=hx;exact ⟨rfl,Uk (Sat P) ow hC ho hy hm hk⟩
  split at hx
  ·split at hx
   ·split at hx
    ·simp only [aK,aD] at hx;obtain ⟨k,hl,oy,hy,hx⟩:=hx;split at hx
     ·cases hx;rcases hp with hp | hp<;>cases hp
     ·cases hx
    ·cases hx
   ·exact .inr (ld hx)
  ·exact .inr (ld hx)
 ·have al:(rZ P ty).map X.al=some x→False:=λhx=>by
   simp only [aG] at hx;obtain ⟨zs,hz,rfl⟩:=hx;rcases hp with hp | hp<;>cases hp
  exfalso;split at hx
  ·split at hx
   ·simp only [aK,aD] at hx;obtain ⟨zs,hz,hx⟩:=hx;split at hx
    ·split at hx
     ·cases hx;rcases hp with hp | hp<;>cases hp
     ·cases hx
    ·cases hx
   ·exact al hx
  ·exact al hx
 ·simp only [aG] at hx;obtain ⟨oy,hy,rfl⟩:=hx;exact .inl ⟨rfl,Uj (Sat P) ow hC ho hy hk⟩
 ·split at hx
  ·rename_i fs hu;simp only [aK,aD] at hx;obtain ⟨fd,hf,hx⟩:=hx;split at hx
   ·cases hx
   ·rename_i hz;simp only [aD,aE] at hx;obtain ⟨oy,hy,rfl⟩:=hx;exact .inl ⟨rfl,Ul (Sat P) ow hC ho hu hf hz hy hk⟩
  ·cases hx
 ·split at hx
  ·rename_i fs hu;simp only [aK,aD,aE] at hx;obtain ⟨pl,hpl,qs,hqs,zs,hz,rfl⟩:=hx;obtain ⟨g1,g2⟩:=lT hqs;refine .inl ⟨rfl,Un (Sat P) ow hC ho hu hpl hz ⟨by simpa using g1,λk p q hp hq=>?_⟩ hk⟩;have:=g2 k p q (by simpa using hp) hq;simp only [aD,aE] at this;obtain ⟨f,hf,q',hq',oy,hy,rfl⟩:=this;exact ⟨hq',_,hy⟩
  ·cases hx
 ·exfalso;split at hx
  ·simp only [aK,aD] at hx;obtain ⟨qs,hqs,zs,hz,hx⟩:=hx;split at hx
   ·cases hx;rcases hp with hp | hp<;>cases hp
   ·split at hx
    ·cases hx
    ·cases hx;rcases hp with hp | hp<;>cases hp
  ·cases hx
 ·exfalso;split at hx
  ·split at hx
   ·cases hx
   ·simp only [aK,aD,aE] at hx;obtain ⟨_,_,_,_,_,_,_,_,rfl⟩:=hx;rcases hp with hp | hp<;>cases hp
  ·split at hx
   ·simp only [aK,aD,aE] at hx;obtain ⟨_,_,_,_,_,_,rfl⟩:=hx;rcases hp with hp | hp<;>cases hp
   ·cases hx
  ·cases hx
theorem P3 {o:Oper} {x:X} (hx:fq P o.type o.op=some x∨x = .bad) (hs:GO x=true):wV o:=by
 rcases hx with hx | rfl
 case inr=>cases hs
 rcases wE hx (.inl hs) with ⟨y,ho⟩ | ⟨y,ho⟩ | ⟨y,i,ho⟩ | ⟨ty,y,ho⟩ | ⟨ty,ho⟩ | ⟨y,ho⟩ | ⟨ty,y,f,ho⟩ | ⟨ty,ps,ho⟩ | ⟨ty,m,ps,ho⟩ | ⟨ty,y,lo,hi,mx,ho⟩<;>unfold wV<;>rw [ho] at hx ⊢<;>try trivial
 ·simp only [fq,aG] at hx;obtain ⟨oy,hy,rfl⟩:=hx;cases hs
 ·exfalso;simp only [fq] at hx;split at hx
  ·simp only [aK,aD] at hx;obtain ⟨fd,hf,hx⟩:=hx;split at hx
   ·cases hx
   ·simp only [aD,aE] at hx;obtain ⟨oy,hy,rfl⟩:=hx;cases hs
  ·cases hx
theorem Bx {x y:Oper} (h:x.apart ops y=true):y.apart ops x=true:=by
 unfold Oper.apart at *;cases hx:x.dst<;>cases hy:y.dst<;>simp_all;exact λe=>h.1.2 e.symm
theorem RP (h:Uf ops bs m=true):(∀(j:Nat) (o:Oper) cs b,ops[j]? = some o→o.op≠.select cs b)∧∀(i k:Nat) (x y:Oper) (bi bk:List Nat),i<m→k<m→i≠k→ops[i]? = some x→ops[k]? = some y→bs[i]? = some bi→bs[k]? = some bk→i∉bk→k∉bi→x.apart ops y=true:=by
 unfold Uf at h;rw [aP] at h;obtain ⟨h1,h2⟩:=h;refine ⟨λj o cs b hj he=>?_,?_⟩
 ·have:=aT.1 h1 o (ee.2 (hZ hj));unfold N7 at this;rw [he] at this;cases this
 ·have key:∀(i k:Nat) (x y:Oper) (bk:List Nat),i<k→k<m→ops[i]? = some x→ops[k]? = some y→bs[k]? = some bk→i∉bk→x.apart ops y=true:=by
   intro i k x y bk hik hk hx hy hb hn;have h3:=aT.1 (aT.1 h2 k (cV.2 hk)) i (cV.2 hik);rw [hb,hx,hy,bf] at h3;have:has bk i=false:=by
    cases hh:has bk i with
    |false=>rfl
    |true=>exact absurd (cO.1 hh) hn
   rw [this,Bool.false_or] at h3;exact h3
  intro i k x y bi bk hi hk hne hx hy hbi hbk h3 h4;rcases Nat.lt_or_gt_of_ne hne with h | h
  ·exact key i k x y bk h hk hx hy hbk h3
  ·exact Bx (key k i y x bi h hi hy hx hbi h4)
def KS (E:gR) (n:Nat) (K:Ex→T→H→Prop) (q:List (I×List Nat)) (s:List I) (is:List I) (bs:List (List Nat)) (m:Nat) (P:Program) (listed:Array Bool) (a:Act) (w:World):Prop:=
  (∀(j:Nat) (b:List Nat),listed.getD j false=true→bs[j]? = some b→∀k∈b,listed.getD k false=true) ∧
  ((∃ (done : List Nat) (k : Nat) (G : Nat → Prop) (ρ : List Value) (t : T) (h : H), done.Nodup ∧ done.length + k = m ∧ (∀ j, listed.getD j false = true ↔ j ∈ done) ∧ (∀ j ∈ done, j < m) ∧ au E n G ρ t h a w ∧ Ny (Sat P) ow q s k done t h K) ∨
   ∃(k:Nat) (G:Nat→Prop) (ρ:List Value) (t:T) (h:H),m≤k∧(∀j,listed.getD j false=true↔j<k)∧au E n G ρ t h a w∧rx (Sat P) ow (is.drop k) t h K)
theorem My (D:UM P n ops is bs m) (hap:Uf ops bs m=true) (hnp:∀v t h,¬K (.fm v) t h) {q:List (I×List Nat)} (hq:q=(is.zip bs).take m):∀(fuel:Nat) (listed:Array Bool) (a:Act) (w:World),listed.size=ops.size→listed.toList.count false≤fuel →
    KS ow E n K q (is.drop m) is bs m P listed a w→wpAny P .any ops (QK E n K) fuel listed a w:=by
  have hil:=D.il
  have hbl:=D.bl
  have hml:=D.ml
  obtain ⟨hsel,hap⟩:=RP hap
  have hQ:∀c a w,¬QK E n K (.panic c) a w:=λc a w ⟨_,_,_,_,_,_,_,_,_,hk⟩=>hnp _ _ _ hk
  have hqg:∀(j:Nat) (x:I) (b:List Nat),j<m→is[j]? = some x→bs[j]? = some b→q[j]? = some (x,b):=λj x b hj hx hb=>by
    rw [hq,ae,ζ hj,iv]
    exact ⟨hx,hb⟩
  have hql:q.length=m:=by rw [hq];simp;omega
  have turn:∀(listed:Array Bool) (a:Act) (w:World),KS ow E n K q (is.drop m) is bs m P listed a w→(∀j,j<m→listed.getD j false=true) →
      ∃(k:Nat) (G:Nat→Prop) (ρ:List Value) (t:T) (h:H),m≤k∧(∀j,listed.getD j false=true↔j<k)∧au E n G ρ t h a w∧rx (Sat P) ow (is.drop k) t h K:=by
    intro listed a w ⟨_,h3⟩ hall
    rcases h3 with ⟨done,k,G,ρ,t,h,d1,d2,d3,d4,hC,hk⟩ | h3
    · have hk0:k=0:=by
        have h1:(List.range m).length≤done.length:=yl qU λj hj=>(d3 j).1 (hall j (cV.1 hj))
        rw [fh] at h1
        omega
      subst hk0
      exact ⟨m,G,ρ,t,h,aR _,λj=>⟨λhj=>d4 j ((d3 j).1 hj),hall j⟩,hC,hk⟩
    · exact h3
  have fin:∀(listed:Array Bool) (a:Act) (w:World),listed.size=ops.size→KS ow E n K q (is.drop m) is bs m P listed a w→Region.ready .any ops listed = []→QK E n K .normal a w:=by
    intro listed a w hs hI hr
    have hall:=zZ D hr hs
    obtain ⟨k,G,ρ,t',h',k1,k3,hC,hk⟩:=turn listed a w hI (λj hj=>hall j (by omega))
    have hkk:ops.size≤k:=by
      rcases cq k ops.size with h | h
      · have:=(k3 k).1 (hall k h);omega
      · exact h
    rw [fH (by omega)] at hk
    exact ⟨G,ρ,t',h',hC,hk⟩
  intro fuel
  induction fuel with
  |zero=>
    intro listed a w hs hc hI
    have hall:∀j,j<ops.size→listed.getD j false=true:=λj hj=>by
      have hj':j<listed.size:=by omega
      have h0:listed.toList.count false=0:=by omega
      rw [List.count_eq_zero] at h0
      cases hv:listed[j] with
      |true=>simp [hj',hv]
      |false=>exact absurd (by rw [ee,←hv];exact o8 hj') h0
    have hr:Region.ready .any ops listed = []:=by
      rw [lG]
      intro j hj
      obtain ⟨h1,o,h2,_⟩:=mem_ready.1 hj
      have h3:=hall j (aN.1 h2).1
      have hj':=iV h3
      simp [hj'] at h1 h3
      rw [h3] at h1
      cases h1
    exact ⟨hr,fin listed a w hs hI hr⟩
  |succ fuel ih=>
    intro listed a w hs hc hI
    have mem_redy:∀{done:List Nat} {j:Nat},j∈tE q done→j<m∧j∉done∧∃(x:I) (b:List Nat),is[j]? = some x∧bs[j]? = some b∧q[j]? = some (x,b)∧∀k∈b,k∈done:=by
      intro done j hj
      unfold tE at hj
      rw [d_,cV] at hj
      obtain ⟨h1,h2⟩:=hj
      rw [hql] at h1
      have hx:=aB (show j<is.length by omega)
      have hb:=aB (show j<bs.length by omega)
      have hqj:=hqg j _ _ h1 hx hb
      rw [get?_eq,hqj] at h2
      simp only [aP,dL,aT] at h2
      refine ⟨h1,λhd=>?_,_,_,hx,hb,hqj,λk hk=>cO.1 (h2.2 k hk)⟩
      rw [cO.2 hd] at h2
      cases h2.1
    by_cases hfi:∃(done:List Nat) (k:Nat) (G:Nat→Prop) (ρ:List Value) (t:T) (h:H) (j:Nat),done.Nodup∧done.length+(k+1)=m∧(∀j,listed.getD j false=true↔j∈done)∧(∀j∈done,j<m)∧au E n G ρ t h a w∧uM q done=some j ∧
        Ny (Sat P) ow q (is.drop m) (k+1) done t h K
    · obtain ⟨done,k,G,ρ,t,h,j,d1,d2,d3,d4,hC,hfj,hk⟩:=hfi
      have hjr:=List.mem_of_find?_eq_some hfj
      have hjf:=List.find?_some hfj
      obtain ⟨hjm,hjd,x,b,hx,hb,hqj,hbd⟩:=mem_redy hjr
      obtain ⟨o,ho⟩:∃o,ops[j]? = some o:=⟨_,aJ (by omega)⟩
      obtain ⟨x',hx',hci⟩:=D.ci j o ho
      obtain rfl:x'=x:=by rw [hx] at hx';exact (an hx').symm
      obtain ⟨b',hb',hb1,hb2⟩:=D.cl j o ho
      obtain rfl:b'=b:=by rw [hb] at hb';exact (an hb').symm
      rw [zw,hfj] at hk
      simp only [get?_eq,hqj] at hk
      unfold DJ at hjf
      rw [get?_eq,hqj] at hjf
      simp only [aP,b_] at hjf
      obtain ⟨hg,hkind⟩:=hjf
      have hg:x'.g=none:=by
        cases hgg:x'.g with
        |none=>rfl
        |some _=>rw [hgg] at hg;cases hg
      obtain ⟨cx,hd,hlt,hgo⟩:=nX hci
      have hgo:o.guard=none:=by
        cases hgg:o.guard with
        |none=>rfl
        |some p=>
          rw [hgg] at hgo
          obtain ⟨d,_,e⟩:=hgo
          rw [hg] at e
          cases e
      simp only [CV,hg] at hk
      have hwn:Region.wanted o (yielded ops a.tmps)=true:=by simp [Region.wanted,hgo]
      have hready:∀k∈b',listed.getD k false=true:=λk hk=>(d3 k).2 (hbd k hk)
      have hnl:¬listed.getD j false=true:=λhh=>hjd ((d3 j).1 hh)
      have hjl:j<listed.size:=by omega
      have hrdy:j∈Region.ready .any ops listed:=by
        rw [mem_ready]
        refine ⟨by simpa [hjl] using hnl,o,ho,λe he hbd=>?_⟩
        exact hready _ (hb1 _ (gG.2 ⟨e,he,hbd,rfl⟩))
      have hset:∀k,(listed.setIfInBounds j true).getD k false=true↔k=j∨listed.getD k false=true:=λk=>by
        by_cases hkj:k=j
        · subst hkj;simp [hjl]
        · rw [getD_set_ne false (kQ hkj)];simp [hkj]
      have ib:∀(j':Nat) (b:List Nat),(listed.setIfInBounds j true).getD j' false=true→bs[j']? = some b→∀k∈b,(listed.setIfInBounds j true).getD k false=true:=by
        intro j' b' h1 h2 k hk
        rw [hset] at h1 ⊢
        rcases h1 with rfl | h1
        · rw [hb] at h2;cases h2;exact .inr (hready k hk)
        · exact .inr (hI.1 j' b' h1 h2 k hk)
      have hcnt:(listed.setIfInBounds j true).toList.count false≤fuel:=by
        have:=count_set (show listed.getD j true=false by simpa [hjl] using hnl)
        omega
      have hsz:(listed.setIfInBounds j true).size=ops.size:=by simpa using hs
      have next:∀(v':Value) (v:V),bB G w ρ v' v→(uq x'.d v t λt=>Ny (Sat P) ow q (is.drop m) k (j :: done) t h K)→wpAny P .any ops (QK E n K) fuel (listed.setIfInBounds j true) (a.put o.dst v') w:=by
        intro v' v hv hput
        rw [ff,hd] at hput
        refine ih _ _ _ hsz hcnt ⟨ib,.inl ⟨j :: done,k,G,ρ,_,h,cr.2 ⟨hjd,d1⟩,by rw [aV];omega,λx=>by rw [hset,a8,d3],λx hx=>?_,hC.fw o.dst hlt hv,hput⟩⟩
        rcases a8.1 hx with rfl | hx
        · exact hjm
        · exact d4 x hx
      have apart:∀k ok,ops[k]? = some ok→k≠j→listed.getD k true=false→(∀b,bs[k]? = some b→j∉b)→k<m∧o.apart ops ok=true:=by
        intro k ok hok hkj hun hno
        have hkl:k<ops.size:=(aN.1 hok).1
        obtain ⟨bk,hbk⟩:∃bk,bs[k]? = some bk:=⟨_,aB (by omega)⟩
        have hkm:k<m:=by
          rcases cq k m with h | h
          · exact h
          · exact absurd (D.fu k bk h hbk j (by omega)) (hno bk hbk)
        refine ⟨hkm,hap j k o ok _ _ hjm hkm (kQ hkj) ho hok hb hbk (hno bk hbk) λhkb=>?_⟩
        have:=hready k hkb
        have hks:k<listed.size:=by omega
        simp [hks] at this hun
        rw [this] at hun
        cases hun
      rcases K6 ow hC cx (hkind.imp id λh=>h.1) hk with ⟨hpu,v',v,hrun,hv,hput⟩ | ⟨hld,v',v,hrun,hv,hput⟩
      · exact sr (S:=λ_=>True) D ho hsel hQ fuel listed a w hs hI.1 (λk ok hok hkj hun hno=>⟨(apart k ok hok hkj hun hno).2,.inl λ_=>trivial⟩) hrdy (.inl ⟨hwn,λw2 _=>hrun w2⟩) trivial (next v' v hv hput)
      · rcases hkind with hpu | ⟨_,hall⟩
        · exact (LR hpu hld).elim
        · refine sr (S:=Ext w) D ho hsel hQ fuel listed a w hs hI.1 (λk ok hok hkj hun hno=>?_) hrdy (.inl ⟨hwn,hrun⟩) (Ext.refl w) (next v' v hv hput)
          obtain ⟨hkm,hapk⟩:=apart k ok hok hkj hun hno
          refine ⟨hapk,.inr ⟨?_,λw1 w2 h1 h2=>h1.trans h2⟩⟩
          obtain ⟨xk,hxk,hcik⟩:=D.ci k ok hok
          obtain ⟨bk,hbk⟩:∃bk,bs[k]? = some bk:=⟨_,aB (by omega)⟩
          have hqk:=hqg k xk bk hkm hxk hbk
          have h3:=aT.1 hall k (cV.2 (by omega))
          rw [get?_eq,hqk] at h3
          simp only [b_] at h3
          have hks:k<listed.size:=by omega
          rcases h3 with h3 | h3 | h3 | h3
          · have:=(d3 k).2 (cO.1 h3)
            simp [hks] at this hun
            rw [this] at hun
            cases hun
          · exact absurd (jf h3) hkj
          · exact absurd (cO.1 h3) (hno bk hbk)
          · exact P3 (nX hcik).1 h3
    · refine ⟨fin listed a w hs hI, fun j hj => ?_⟩
      obtain ⟨hun,o,ho,hdep⟩:=mem_ready.1 hj
      have hjs:j<ops.size:=(aN.1 ho).1
      have hjl:j<listed.size:=by omega
      have hnl:¬listed.getD j false=true:=by simpa [hjl] using hun
      obtain ⟨b,hb,hb1,hb2⟩:=D.cl j o ho
      obtain ⟨i,hi,hci⟩:=D.ci j o ho
      have hready:∀k∈b,listed.getD k false=true:=λk hk=>by
        rcases hb2 k hk with h1 | ⟨k',h1,b',h2,h3⟩
        · obtain ⟨e,e1,e2,rfl⟩:=gG.1 h1
          exact hdep e e1 e2
        · obtain ⟨e,e1,e2,rfl⟩:=gG.1 h1
          exact hI.1 _ b' (hdep e e1 e2) h2 k h3
      have hset:∀k,(listed.setIfInBounds j true).getD k false=true↔k=j∨listed.getD k false=true:=λk=>by
        by_cases hkj:k=j
        · subst hkj;simp [hjl]
        · rw [getD_set_ne false (kQ hkj)];simp [hkj]
      have ib:∀(j':Nat) (b:List Nat),(listed.setIfInBounds j true).getD j' false=true→bs[j']? = some b→∀k∈b,(listed.setIfInBounds j true).getD k false=true:=by
        intro j' b' h1 h2 k hk
        rw [hset] at h1 ⊢
        rcases h1 with rfl | h1
        · rw [hb] at h2;cases h2;exact .inr (hready k hk)
        · exact .inr (hI.1 j' b' h1 h2 k hk)
      have hcnt:(listed.setIfInBounds j true).toList.count false≤fuel:=by have:=count_set hun;omega
      have hsz:(listed.setIfInBounds j true).size=ops.size:=by simpa using hs
      have go:(if Region.wanted o (yielded ops a.tmps) then o.wp P a w (wpAny P .any ops (QK E n K) fuel (listed.setIfInBounds j true)) (QK E n K) else wpAny P .any ops (QK E n K) fuel (listed.setIfInBounds j true) (a.put o.dst undef) w) →
          wpOp P ops (QK E n K) j (wpAny P .any ops (QK E n K) fuel (listed.setIfInBounds j true)) a w:=by
        intro hg
        unfold wpOp
        simp only [ho]
        split
        · rename_i hw;rw [ζ hw] at hg;exact .inl hg
        · rename_i hw;rw [η hw] at hg;exact hg
      refine go ?_
      by_cases hjm:j<m
      · rcases hI.2 with ⟨done,k,G,ρ,t,h,d1,d2,d3,d4,hC,hk⟩ | ⟨k,G,ρ,t,h,k1,k3,_⟩
        · have hjd:j∉done:=λhd=>hnl ((d3 j).2 hd)
          have hk0:k≠0:=by
            intro e
            have h1:(j :: done).length≤(List.range m).length:=yl (cr.2 ⟨hjd,d1⟩) λx hx=>by
              rw [cV]
              rcases a8.1 hx with rfl | hx
              · exact hjm
              · exact d4 x hx
            rw [fh,aV] at h1
            omega
          obtain ⟨k,rfl⟩:∃k',k=k'+1:=⟨k - 1,by omega⟩
          have hno:uM q done=none:=by
            cases hf:uM q done with
            |none=>rfl
            |some j'=>exact absurd ⟨done,k,G,ρ,t,h,j',d1,d2,d3,d4,hC,hf,hk⟩ hfi
          rw [zw,hno] at hk
          have hqj:=hqg j i b hjm hi hb
          have hmem:j∈tE q done:=by
            unfold tE
            rw [d_,cV]
            refine ⟨by omega,?_⟩
            rw [get?_eq,hqj]
            simp only [aP,dL,aT]
            refine ⟨?_,λx hx=>cO.2 ((d3 x).1 (hready x hx))⟩
            cases hh:has done j with
            |false=>rfl
            |true=>exact absurd (cO.1 hh) hjd
          have hk2:=u6 hk j hmem
          rw [get?_eq,hqj] at hk2
          exact yS ow hC hci hk2 (λa' w' G' ρ' t' h' hC' hk'=>ih _ _ _ hsz hcnt ⟨ib,.inl ⟨j :: done,k,G',ρ',t',h',cr.2 ⟨hjd,d1⟩,by rw [aV];omega,λx=>by rw [hset,a8,d3],λx hx=>by
            rcases a8.1 hx with rfl | hx
            · exact hjm
            · exact d4 x hx,hC',hk'⟩⟩) PQ.qk
        · exact absurd ((k3 j).2 (by omega)) hnl
      · have hall:∀i,i<m→listed.getD i false=true:=λi hi=>hready i (D.fu j b (by omega) hb i (by omega))
        obtain ⟨k,G,ρ,t',h',k1,k3,hC,hk⟩:=turn listed a w hI hall
        have hjk:j=k:=by
          have h1:k≤j:=by
            rcases cq j k with h | h
            · exact absurd ((k3 j).2 h) hnl
            · exact h
          rcases cq k j with h2 | h2
          · have:=(k3 k).1 (hready k (D.fu j b (by omega) hb k h2));omega
          · omega
        subst hjk
        have hdrop:is.drop j=i :: is.drop (j+1):=by
          have hlt:j<is.length:=by omega
          rw [bR hlt]
          rw [aB hlt] at hi
          rw [an hi]
        rw [hdrop] at hk
        exact sE ow hC hci hk (λa' w' G' ρ' t' h' hC' hk'=>ih _ _ _ hsz hcnt ⟨ib,.inr ⟨j+1,G',ρ',t',h',by omega,λk=>by rw [hset,k3];omega,hC',hk'⟩⟩) PQ.qk
end
end Go.Vx
