/- Lemmas. Conditions: none. -/
import Derived.Test.YtjpgfgajkjhonaaGreatDoorQRAI
import Derived.Laws.IdiomStrings
namespace Go.Vx
open Go.MapKept
section
variable {P:Program} {E:gL} {n:Nat} {G:Nat→Prop} {ρ:List Value} {t:T} {h:H} {a:Act} {w:World} {o:Oper} {bV:Act→World→Prop} {Q:Exit→Act→World→Prop} {K KP:V→T→H→Prop}
variable (S:Nat→List V→H→(Out→H→Prop)→Prop) (ow:Nat→Bool)
theorem xB {j k:IntKind} (h:Nat.beq (kn j) (kn k)=true):j=k:=by revert h;cases j<;>cases k<;>simp [kn]
theorem l_ {ks:List Nat} {x:V} (h:lP ks x=true):(∃j k n,ks = [0,j]∧x = .d (.int k n)∧Nat.beq (kn k) j=true)∨(∃b,ks = [1]∧x = .d (.bool b))∨(∃s,ks = [2]∧x = .d (.str s)):=by
 unfold lP at h
 grind
theorem p9 {kt:TypeId} {ks:List Nat} (hks:xh P kt=some ks):(∃k,P.underlying kt=some (.int k)∧ks = [0,kn k])∨(P.underlying kt=some .bool∧ks = [1])∨(P.underlying kt=some .string∧ks = [2])∨ks = [9]:=by
 unfold xh at hks
 grind
theorem xC {kt:TypeId} {ks:List Nat} (hks:xh P kt=some ks) {v:Value} {x:V} (hb:lP ks x=true) (hv:au G w ρ v x):∃d,P.underlying kt=some d∧IsKey d v:=by
 rcases p9 hks with ⟨k,hd,rfl⟩ | ⟨hd,rfl⟩ | ⟨hd,rfl⟩ | rfl
 case inr.inr.inr=>contradiction
 all_goals refine ⟨_,hd,?_⟩
 all_goals rcases l_ hb with ⟨j,k',n,e,rfl,hj⟩ | ⟨b,e,rfl⟩ | ⟨s,e,rfl⟩<;>simp at e<;>try (cases e;done)
 ·subst e;rw [hv.int];exact xB hj
 ·rw [hv.bool];trivial
 ·obtain ⟨sv,rfl,_⟩:=hv.str;trivial
theorem Xf {kt:TypeId} {ks:List Nat} {d:TypeDesc} (hks:xh P kt=some ks) (hd:P.underlying kt=some d) {v u:Value} {x y:V} {b:Bool} (hx:lP ks x=true) (hy:lP ks y=true) (hv:au G w ρ v x) (hu:au G w ρ u y)
  (he:rH (ks.take 1) x.cs y.cs=some b):Instr.sameNow d v u=some b∧(b=true→v=u):=by
 rcases l_ hx with ⟨j,k,m,rfl,rfl,hj⟩ | ⟨b1,rfl,rfl⟩ | ⟨s1,rfl,rfl⟩<;>rcases l_ hy with ⟨j',k',m',e,rfl,hj'⟩ | ⟨b2,e,rfl⟩ | ⟨s2,e,rfl⟩<;>simp at e<;>try (cases e;done)
 ·subst e;rcases p9 hks with ⟨kk,hd',e⟩ | ⟨_,e⟩ | ⟨_,e⟩ | e<;>simp at e
  rw [hd] at hd';cases hd';subst e;obtain rfl:=xB hj;obtain rfl:=xB hj';rw [hv.int,hu.int];have hkk:∀q:IntKind,Nat.beq (kn q) (kn q)=true:=λq=>by simp_all
  simp only [V.cs,dV,nS,rH,JL,hkk,δ,dz,aE] at he;subst he;simp [Instr.sameNow]
 ·rcases p9 hks with ⟨kk,hd',e⟩ | ⟨hd',e⟩ | ⟨_,e⟩ | e<;>simp at e
  rw [hd] at hd';cases hd';rw [hv.bool,hu.bool];simp only [V.cs,dV,nS,rH,JL,dz,aE] at he;subst he;simp [Instr.sameNow]
 ·rcases p9 hks with ⟨kk,hd',e⟩ | ⟨hd',e⟩ | ⟨hd',e⟩ | e<;>simp at e
  rw [hd] at hd';cases hd';obtain ⟨v1,rfl,rfl,_⟩:=hv.str;obtain ⟨u1,rfl,rfl,_⟩:=hu.str;simp only [V.cs,dV,nS,rH,JL,dz,aE] at he;subst he;have e1:(v1==u1)=(v1.data.toList==u1.data.toList):=by
   rw [Bool.eq_iff_iff,bytes_beq,ξ];constructor
   grind
   ·intro h;obtain ⟨⟨l⟩⟩:=v1;simp_all
  refine ⟨by simp only [Instr.sameNow,e1],λh=>?_⟩;rw [←e1,bytes_beq] at h;rw [h]
theorem BQ {kt:TypeId} {ks:List Nat} {d:TypeDesc} (hks:xh P kt=some ks) (hd:P.underlying kt=some d) {k:Value} {kx:V} (hk:au G w ρ k kx) (hkb:lP ks kx=true) :
    ∀(es:List (V×V)) (l:List MapEntry) (i:Nat) (r:Option (Nat×V)),l.length=es.length→(∀(j:Nat) (e:MapEntry) (x:V×V),l[j]? = some e→es[j]? = some x→dM G w ρ e.key x.1∧dM G w ρ e.val x.2)→qI ks kx.cs es i=some r →
      match r with
      |none=>Instr.findNow d k l i=some none
      |some (j,y)=>∃m e x,j=i+m∧l[m]? = some e∧es[m]? = some x∧x.2=y∧e.key=k∧Instr.findNow d k l i=some (some (j,e.val)):=by
  intro es
  induction es with
  |nil=>
    intro l i r hl _ hf
    cases l with
    |cons _ _=>grind
    |nil=>cases hf;rfl
  |cons x es ih=>
    intro l i r hl hr hf
    cases l with
    |nil=>grind
    |cons e l=>
      have h0:=hr 0 e x rfl rfl
      simp only [qI] at hf
      cases hkx:lP ks x.1<;>rw [hkx] at hf
      grind
      simp only [δ] at hf
      split at hf
      · rename_i b hb
        obtain ⟨g1,g2⟩:=Xf hks hd hkb hkx hk (.o h0.1) hb
        cases b
        · simp only [ε] at hf
          have:=ih l (i+1) r (by grind) (λj e' x' he hx=>hr (j+1) e' x' (by grind) (by grind)) hf
          cases r with
          |none=>simp only at this ⊢;simp only [Instr.findNow,g1,this]
          |some p=>
            obtain ⟨p1,p2⟩:=p
            obtain ⟨m,e',x',hp,h1,h2,h3,h4,h5⟩:=this
            exact ⟨m+1,e',x',by omega,by grind,by grind,h3,h4,by simp only [Instr.findNow,g1,h5]⟩
        · simp only [δ,aE] at hf
          subst hf
          exact ⟨0,e,x,rfl,rfl,rfl,rfl,(g2 rfl).symm,by simp only [Instr.findNow,g1]⟩
      grind
theorem tH (hC:ak E n G ρ t h a w) {v:Value} {id:Nat} {es:List (V×V)} (hv:au G w ρ v (.mp id)) (hx:h[id]? = some (.mp es)) :
  ∃r arr clk,v = .map (some r)∧ρ[id]? = some (.map (some r))∧w.heap[r]? = some (.map arr clk)∧arr.size=es.length∧ord arr clk∧∀(i:Nat) (e:MapEntry) (x:V×V),arr[i]? = some e→es[i]? = some x→dM G w ρ e.key x.1∧dM G w ρ e.val x.2:=by
 cases hv with | o hv=>cases hv with | c hv=>cases hv with | k hv=>cases hv with | mp _ r hρ =>
 obtain ⟨r',arr,clk,e,h1,h2,h3,h4⟩:=hC.ok.hr.rep id _ _ hρ hx
 grind
theorem uF (hC:ak E n G ρ t h a w) {v:Value} {id:Nat} {es:List (D×Bool×List D)} (hv:au G w ρ v (.mp id)) (hx:h[id]? = some (.dm es)) :
  ∃r arr clk,v = .map (some r)∧ρ[id]? = some (.map (some r))∧w.heap[r]? = some (.map arr clk)∧arr.size=(fz es).length∧ord arr clk∧∀(i:Nat) (e:MapEntry) (x:V×V),arr[i]? = some e→(fz es)[i]? = some x→dM G w ρ e.key x.1∧dM G w ρ e.val x.2:=by
 cases hv with | o hv=>cases hv with | c hv=>cases hv with | k hv=>cases hv with | mp _ r hρ =>
 obtain ⟨r',arr,clk,e,h1,h2,h3,h4⟩:=hC.ok.hr.rep id _ _ hρ hx
 grind
theorem JW (hC:ak E n G ρ t h a w) {v:Value} {id r:Nat} {l:It} {es:List (D×Bool×List D)} (hv:au G w ρ v (.mp id)) (hx:h[id]? = some (.di es r l)) :
  ∃r arr clk,v = .map (some r)∧ρ[id]? = some (.map (some r))∧w.heap[r]? = some (.map arr clk)∧arr.size=(fz es).length∧ord arr clk∧∀(i:Nat) (e:MapEntry) (x:V×V),arr[i]? = some e→(fz es)[i]? = some x→dM G w ρ e.key x.1∧dM G w ρ e.val x.2:=by
 cases hv with | o hv=>cases hv with | c hv=>cases hv with | k hv=>cases hv with | mp _ r hρ =>
 obtain ⟨⟨r',arr,clk,e,h1,h2,h3,h4⟩,_⟩:=hC.ok.hr.rep id _ _ hρ hx
 grind
theorem CG {v:Value} {x:V} (hv:au G w ρ v x) (hs:De x=true):dM G w ρ v x:=by
 cases hv with
 |o h=>exact h
 |tu=>cases hs
theorem GQ {ks:List Nat} {v:Value} {x:V} (hv:au G w ρ v x) (hs:lP ks x=true):dM G w ρ v x:=by
 rcases l_ hs with ⟨_,_,_,_,rfl,_⟩ | ⟨_,_,rfl⟩ | ⟨_,_,rfl⟩<;>exact .c (.k (.d hv.qu))
theorem MB (k:Nat):eZ (KM k) = []:=by
 match k with
 |0=>rfl
 |1=>rfl
 |_+2=>rfl
theorem G_ (k:Nat):gh (KM k) = []:=by
 match k with
 |0=>rfl
 |1=>rfl
 |_+2=>rfl
theorem C1 (k:Nat) {m:Nat} (hm:w.heap[m]? = some (.map #[] 0)):cY G w ρ (.map (some m)) (KM k):=by
 have h0:mQ G w ρ (.map (some m)) []:=⟨m,#[],0,rfl,hm,rfl,⟨by simp,by simp⟩,by simp⟩
 match k with
 |0=>exact h0
 |1=>exact h0
 |z+2=>exact ⟨⟨m,#[],0,rfl,hm,rfl,⟨by simp,by simp⟩,⟨λi j k k' rs rs' b h=>by grind,by simp [BM]⟩,λi e x h=>by grind,(λi v h=>by cases h),λi v e h=>by simp⟩,trivial⟩
theorem TG (hC:ak E n G ρ t h a w) (hn:iQ E n a o K bV) {ty:TypeId} {pl:Nat} (ho:o.op = .makeMap ty none) (hk:bq S ow (.mm pl) t h K KP):o.wp P a w bV Q:=by
 simp only [bq,bf,cZ] at hk;have hC2:=hC.push (gK.alloc w (.map #[] 0)) (.map (some w.heap.size)) (KM pl) (by intro b hb;simp only [fO,aE] at hb;omega) (C1 pl (heap_alloc_new w _)) (G_ pl);refine dU (v':=.map (some w.heap.size)) ?_ (hn _ _ _ _ _ _ _ hC2 (.k (.mp h.length _ (by rw [←hC.ok.hr.len];simp))) hk);simp only [execOp,ho];rfl
theorem TH (hC:ak E n G ρ t h a w) (hn:iQ E n a o K bV) {ty kt e t1 t2:TypeId} {x k:Operand} {ox ok':O} {ks:List Nat} {zv:V} {ok:Bool} (ho:o.op = .lookup ty x k ok) (hu:P.underlying ty=some (.map kt e)) (hx:cX P t1 x=some ox) (hkk:cX P t2 k=some ok')
  (hks:xh P kt=some ks) (hz:zk P e=some zv) (hk:bq S ow (.ml ox ok' ks zv ok) t h K KP):o.wp P a w bV Q:=by
 have hvx:=bG hC hx;have hvk:=bG hC hkk;obtain ⟨z,hz1,hz2,_⟩:=vu (P:=P) (G:=G) (w:=w) (ρ := ρ) hz;have tup:∀(v:Value) (y:V) (b:Bool),dM G w ρ v y→au G w ρ (if ok then .tuple #[v,.bool b] else v) (bif ok then .tu [y,.d (.bool b)] else y):=by
  intro v y b hv;cases ok
  ·exact .o hv
  ·refine .tu #[v,.bool b] _ rfl (λi x hx=>?_)
   match i,hx with
   |0,hx=>simp_all
   |1,hx=>cases hx;exact .c (.k (.d (.bool b)))
 have key:∀(id:Nat) (es:List (V×V)),(∃r arr clk,a.eval x = .map (some r)∧ρ[id]? = some (.map (some r))∧w.heap[r]? = some (.map arr clk)∧arr.size=es.length∧ord arr clk∧∀(i:Nat) (e:MapEntry) (x:V×V),arr[i]? = some e→es[i]? = some x→dM G w ρ e.key x.1∧dM G w ρ e.val x.2) →
   (lP ks (gv t ok')=true∧∃r,qI ks (gv t ok').cs es 0=some r∧(match r with
    |some (_,v)=>(De v=true)∧K (bif ok then .tu [v,.d (.bool true)] else v) t h
    |none=>K (bif ok then .tu [zv,.d (.bool false)] else zv) t h))→o.wp P a w bV Q:=by
  intro id es hval hk;obtain ⟨hkb,r,hf,hk⟩:=hk;obtain ⟨m,arr,clk,he,hρ,hb,hsz,_,hr⟩:=hval;obtain ⟨d,hd,hik⟩:=xC hks hkb hvk;have hf':=BQ hks hd hvk hkb es arr.toList 0 r (by grind) (λj e x h1 h2=>hr j e x (by grind) h2) hf;cases r with
  |none=>
   refine an hC hn (v':=if ok then .tuple #[z,.bool false] else z) ?_ (tup z zv false hz2) hk;simp only [execOp,ho];refine cT ?_;simp [Instr.lookup,run_underlying hu,he,MapKept.run_getObj_map hb,MapKept.run_checkKey hd hik,MapKept.run_findKey hd hf',hz1]
  |some p=>
   obtain ⟨i,y⟩:=p;obtain ⟨m',e',x',rfl,h1,h2,rfl,h4,h5⟩:=hf';have hv:=(hr m' e' x' (by grind) h2).2;refine an hC hn (v':=if ok then .tuple #[e'.val,.bool true] else e'.val) ?_ (tup e'.val x'.2 true hv) hk.2;simp only [execOp,ho];refine cT ?_;simp [Instr.lookup,run_underlying hu,he,MapKept.run_getObj_map hb,MapKept.run_checkKey hd hik,MapKept.run_findKey hd h5]
 simp only [bq] at hk;split at hk
 ·rename_i id hg;rw [hg] at hvx;rw [get?_eq] at hk;split at hk
  ·rename_i es hes;exact key id es (tH hC hvx hes) hk
  ·rename_i es hes;exact key id _ (uF hC hvx hes) hk
  ·rename_i es r l hes;exact key id _ (JW hC hvx hes) hk
  ·rename_i z es out it hes;exact Gi hC hn ho hu hvx hkk hks hz hk.1 hk.2
  grind
 ·rename_i hg;rw [hg] at hvx;have he:a.eval x = .map none:=Gt hvx.qu;obtain ⟨hkb,hk⟩:=hk;obtain ⟨d,hd,hik⟩:=xC hks hkb hvk;refine an hC hn (v':=if ok then .tuple #[z,.bool false] else z) ?_ (tup z zv false hz2) hk;simp only [execOp,ho];refine cT ?_;simp [Instr.lookup,run_underlying hu,he,MapKept.run_checkKey hd hik,MapKept.run_findKey (l:=[]) (a:=none) hd rfl,hz1]
 grind
theorem ak.PV (hC:ak E n G ρ t h a w) {id r:Nat} {x0 x1:B} {es':List (V×V)} {arr arr':Array MapEntry} {clk clk':Nat} (hρ:ρ[id]? = some (.map (some r))) (hx:h[id]? = some x0) (hn:x0≠.no) (hx1:∀(G:Nat→Prop) (w:World) (ρ:List Value) (hd:Value),mQ G w ρ hd es'→cY G w ρ hd x1) (hb:w.heap[r]? = some (.map arr clk)) (hs:arr'.size=es'.length) (ho:ord arr' clk')
  (hr:∀(i:Nat) (e:MapEntry) (x:V×V),arr'[i]? = some e→es'[i]? = some x→dM G w ρ e.key x.1∧dM G w ρ e.val x.2) (hgx:gh x1 = []:=by rfl) :
  ak E n G ρ t (h.set id x1) a { w with heap:=w.heap.setIfInBounds r (.map arr' clk') }:=by
 have hh:=MapKept.heap_set (o':=.map arr' clk') hb;have hG:∀b,G b→(w.heap.setIfInBounds r (.map arr' clk'))[b]? = w.heap[b]?:=λb hbG=>hh.2 b (λe=>hC.ok.hr.gd b hbG ⟨id,_,_,hρ,hx,hn,by rw [e];exact bR.2 (.inl rfl)⟩);refine hC.F3 (w':={ w with heap:=w.heap.setIfInBounds r (.map arr' clk') }) hρ hx hn (by simp) (λb hbk=>hh.2 b (λe=>hbk (by rw [e];rfl))) rfl rfl rfl ?_ hgx;exact hx1 _ _ _ _ ⟨r,arr',clk',rfl,hh.1,hs,ho,λi e x h1 h2=>⟨(hr i e x h1 h2).1.mono (λ_ h=>h) hG (λ_ _=>rfl),(hr i e x h1 h2).2.mono (λ_ h=>h) hG (λ_ _=>rfl)⟩⟩
theorem CZ {G1:Nat→Prop} {ρ1:List Value} {t1:T} {h1:H} (hC:ak E n G1 ρ1 t1 h1 a w) (hn:iQ E n a o K bV) {ty kt e:TypeId} {x k v:Operand} {ks:List Nat} {kx vx:V} {id:Nat} {es:List (V×V)} {x0 x1:B} (ho:o.op = .mapUpdate ty x k v∨o.op = .insert ty x k v) (hu:P.underlying ty=some (.map kt e))
  (hks:xh P kt=some ks) (hvk:au G1 w ρ1 (a.eval k) kx) (hkb:lP ks kx=true) (hvv1:dM G1 w ρ1 (a.eval v) vx) (hx:h1[id]? = some x0) (hn0:x0≠.no)
  (hval:∃r arr clk,a.eval x = .map (some r)∧ρ1[id]? = some (.map (some r))∧w.heap[r]? = some (.map arr clk)∧arr.size=es.length∧ord arr clk∧∀(i:Nat) (e:MapEntry) (x:V×V),arr[i]? = some e→es[i]? = some x→dM G1 w ρ1 e.key x.1∧dM G1 w ρ1 e.val x.2)
  {r:Option (Nat×V)} (hf:qI ks kx.cs es 0=some r) (hx1:∀(G:Nat→Prop) (w:World) (ρ:List Value) (hd:Value),mQ G w ρ hd (match r with
   |some (i,_)=>es.set i (kx,vx)
   |none=>es ++ [(kx,vx)])→cY G w ρ hd x1) (hk:K .ud t1 (h1.set id x1)) (hgx:gh x1 = []:=by rfl):o.wp P a w bV Q:=by
 have hexec:∀w',(Instr.mapUpdate ty (a.eval x) (a.eval k) (a.eval v)).run P w = .ok () w'→(execOp a.eval o).run P w = .ok .skip w':=by
  intro w' hw;rcases ho with ho | ho<;>simp [execOp,ho,hw]
 obtain ⟨m,arr,clk,he,hρ,hb,hsz,hor,hr⟩:=hval;obtain ⟨d,hd,hik⟩:=xC hks hkb hvk;have hf':=BQ hks hd hvk hkb es arr.toList 0 r (by grind) (λj e x h1 h2=>hr j e x (by grind) h2) hf;have hvk1:=GQ hvk hkb;cases r with
 |none=>
  have hC2:=hC.PV (es':=es ++ [(kx,vx)]) (arr':=arr.push { key:=a.eval k,val:=a.eval v,born:=clk }) (clk':=clk+1) hρ hx hn0 hx1 hb (by grind) (yQ rfl hor) (hgx:=hgx) (λi e' x' h1 h2=>by
   grind)
  refine jZ (hexec _ ?_) (hn _ _ _ _ _ _ _ hC2 (.k .ud) hk);simp [Instr.mapUpdate,run_underlying hu,he,MapKept.run_getObj_map hb,MapKept.run_checkKey hd hik,MapKept.run_findKey hd hf',MapKept.run_setObj_map _ hb]
 |some p=>
  obtain ⟨i,y⟩:=p;obtain ⟨m',e',x',rfl,h1,h2,rfl,h4,h5⟩:=hf';have h1':arr[m']? = some e':=by grind
  have hm':m'<arr.size:=(aQ.1 h1').1;have hC2:=hC.PV (es':=es.set (0+m') (kx,vx)) (arr':=arr.modify (0+m') λe=>{ e with key:=a.eval k,val:=a.eval v }) (clk':=clk) hρ hx hn0 hx1 hb (by grind) (s_ (λ_=>rfl) hor) (hgx:=hgx) (λi e'' x'' h1 h2=>by
   grind)
  refine jZ (hexec _ ?_) (hn _ _ _ _ _ _ _ hC2 (.k .ud) hk);have hae:(arr[0+m']?.map (·.key)).getD (a.eval k)=a.eval k:=by grind
  simp [Instr.mapUpdate,run_underlying hu,he,MapKept.run_getObj_map hb,MapKept.run_checkKey hd hik,MapKept.run_findKey hd h5];simp only [cF] at hae;simp [hae,MapKept.run_keyThatStays hik,MapKept.run_setObj_map _ hb]
theorem qQ {v:Value} {x:V} (h:au G w ρ v x) (h1:fA x=true) (h2:uI x=true):dL G w ρ v x∧v.cells = #[v]:=by
 cases h with
 |o h=>cases h with
  |c h=>cases h with
   |k h=>
    refine ⟨h,?_⟩;cases h with
    |un=>cases h1
    |ud=>rfl
    |d h=>exact h.cells
    |ov id z i v a n c _ h=>subst h;rfl
    |_=>rfl
   |fc=>cases h2
  |ag=>cases h1
 |tu=>cases h1
theorem N8 (hC:ak E n G ρ t h a w) (hn:iQ E n a o K bV) {ty kt e t1 t2 t3:TypeId} {x k v:Operand} {ox ok' ov:O} {ks:List Nat} (ho:o.op = .mapUpdate ty x k v∨o.op = .insert ty x k v) (hu:P.underlying ty=some (.map kt e)) (hx:cX P t1 x=some ox) (hkk:cX P t2 k=some ok') (hv:cX P t3 v=some ov)
    (hks:xh P kt=some ks) (hk:bq S ow (.mu ox ok' ov ks) t h K KP):o.wp P a w bV Q:=by
  have hvx:=bG hC hx
  have hvk:=bG hC hkk
  have hvv:=bG hC hv
  simp only [bq,bf] at hk
  split at hk
  · rename_i id hg
    rw [hg] at hvx
    rw [get?_eq] at hk
    split at hk
    · rename_i es hes
      obtain ⟨⟨hst,hkb⟩,r,hf,hk⟩:=hk
      cases r with
      |none=>exact CZ (x1:=.mp (es ++ [(gv t ok',gv t ov)])) hC hn ho hu hks hvk hkb (CG hvv hst) hes (by simp) (tH hC hvx hes) hf (λ_ _ _ _ h=>h) hk
      |some q=>exact CZ (x1:=.mp (es.set q.1 (gv t ok',gv t ov))) hC hn ho hu hks hvk hkb (CG hvv hst) hes (by simp) (tH hC hvx hes) hf (λ_ _ _ _ h=>h) hk
    · rename_i es0 hes
      split at hk
      · rename_i kd hgk
        obtain ⟨⟨hst,hkb⟩,hk⟩:=hk
        simp only [aP,cI] at hst
        obtain ⟨hst,hsc⟩:=hst
        obtain ⟨c1,c2⟩:=jE hvv hst
        obtain ⟨G',t',h',ds,hC1,hG',hdl,hds,hk⟩:=BO (gv t ov).cs G t h (λi=>(a.eval v).cells.getD i undef) hC c2 hk
        rw [get?_eq] at hk
        split at hk
        · rename_i es hes'
          obtain ⟨r,hf,hk⟩:=hk
          rw [hgk] at hvk
          have hvk':au G' w ρ (a.eval k) (.d kd):=.d (hvk.qu.mono hG' (λ_ _=>rfl))
          have hvx':au G' w ρ (a.eval x) (.mp id):=hvx.mono hG' (λ_ _=>rfl) (λ_ _=>rfl)
          have hvv1:dM G' w ρ (a.eval v) (NM ((gv t ov).oJ,ds)):=by
            cases hag:(gv t ov).oJ with
            |true=>
              cases hgv:gv t ov with
              |ag cs=>
                rw [hgv] at hvv
                obtain ⟨cs',h1,h2,h3⟩:=hvv.R9
                rw [h1] at hds ⊢
                refine .ag cs' _ (by rw [hgv] at hdl;simp [h2,hdl,V.cs]) (λi y hy=>?_)
                rw [aB] at hy
                cases hd:ds[i]? with
                |none=>rw [hd] at hy;cases hy
                |some d=>
                  rw [hd] at hy;cases hy
                  exact .k (.d (hds i d hd))
              |_=>rw [hgv] at hag;cases hag
            |false=>
              have hca:uI (gv t ov)=true:=hsc.resolve_left (by rw [hag];simp)
              have hcs:(gv t ov).cs = [gv t ov]:=by cases hgv:gv t ov<;>rw [hgv] at hag<;>first | rfl | cases hag
              have hs1:fA (gv t ov)=true:=by rw [hcs] at hst;simpa using hst
              obtain ⟨_,hcell⟩:=qQ hvv hs1 hca
              rw [hcs] at hdl
              match ds,hdl with
              |[d],_=>
                have:=hds 0 d rfl
                rw [hcell] at this
                exact .c (.k (.d this))
          cases r with
          |none=>exact CZ (x1:=.dm (es ++ [(kd,(gv t ov).oJ,ds)])) hC1 hn ho hu hks hvk' hkb hvv1 hes' (by simp) (uF hC1 hvx' hes') hf (λG w ρ hd hM=>by
              show mQ G w ρ hd (fz (es ++ [(kd,(gv t ov).oJ,ds)]))
              have e:fz (es ++ [(kd,(gv t ov).oJ,ds)])=fz es ++ [(.d kd,NM ((gv t ov).oJ,ds))]:=by simp [fz]
              rw [e]
              exact hM) hk
          |some q=>exact CZ (x1:=.dm (es.set q.1 (kd,(gv t ov).oJ,ds))) hC1 hn ho hu hks hvk' hkb hvv1 hes' (by simp) (uF hC1 hvx' hes') hf (λG w ρ hd hM=>by
              show mQ G w ρ hd (fz (es.set q.1 (kd,(gv t ov).oJ,ds)))
              have e:fz (es.set q.1 (kd,(gv t ov).oJ,ds))=(fz es).set q.1 (.d kd,NM ((gv t ov).oJ,ds)):=by simp [fz]
              rw [e]
              exact hM) hk
        · exact hk.elim
      · exact hk.elim
    · rename_i z es out it hes
      exact Gh hC hn ho hu hvx hkk hv hks hes hk
    · exact hk.elim
  · exact hk.elim
theorem vg {α β:Type} (f:α→β):∀(l:List α) (i:Nat),(l.eraseIdx i).map f=(l.map f).eraseIdx i
 |[],_=>rfl
 |_ :: _,0=>rfl
 |x :: l,i+1=>by simp [vg f l i]
theorem TJ (hC:ak E n G ρ t h a w) (hn:iQ E n a o K bV) {ty kt e ty2 t1 t2:TypeId} {x k:Operand} {ox ok':O} {ks:List Nat} (ho:o.op = .call { callee:=.builtin .delete,args:= #[x,k],argTypes:= #[ty,ty2] }) (hu:P.underlying ty=some (.map kt e)) (hx:cX P t1 x=some ox) (hkk:cX P t2 k=some ok')
  (hks:xh P kt=some ks) (hk:bq S ow (.md ox ok' ks) t h K KP):o.wp P a w bV Q:=by
 have hvx:=bG hC hx;have hvk:=bG hC hkk;have hexec:∀w',(Builtin.delete_ #[ty,ty2] o.type #[a.eval x,a.eval k]).run P w = .ok (.tuple #[]) w'→(execOp a.eval o).run P w = .ok (.value (.tuple #[])) w':=by
  intro w' hw;simp [execOp,ho,resolve,invoke,builtin,hw]
 have key:∀(id:Nat) (x0:B) (x1:Nat→B) (es:List (V×V)),h[id]? = some x0→x0≠.no→(∀(i:Nat) (G:Nat→Prop) (w:World) (ρ:List Value) (hd:Value),mQ G w ρ hd (es.eraseIdx i)→cY G w ρ hd (x1 i))→(∀i,gh (x1 i) = [])→(∃r arr clk,a.eval x = .map (some r)∧ρ[id]? = some (.map (some r))∧w.heap[r]? = some (.map arr clk)∧arr.size=es.length∧ord arr clk∧∀(i:Nat) (e:MapEntry) (x:V×V),arr[i]? = some e→es[i]? = some x→dM G w ρ e.key x.1∧dM G w ρ e.val x.2) →
   (lP ks (gv t ok')=true∧∃r,qI ks (gv t ok').cs es 0=some r∧(match r with
    |some (i,_)=>K (.tu []) t (h.set id (x1 i))
    |none=>K (.tu []) t h))→o.wp P a w bV Q:=by
  intro id x0 x1 es hes hn0 hx1 hgx hval hk;obtain ⟨hkb,r,hf,hk⟩:=hk;obtain ⟨m,arr,clk,he,hρ,hb,hsz,hor,hr⟩:=hval;obtain ⟨d,hd,hik⟩:=xC hks hkb hvk;have hf':=BQ hks hd hvk hkb es arr.toList 0 r (by grind) (λj e x h1 h2=>hr j e x (by grind) h2) hf;cases r with
  |none=>
   refine an hC hn (v':=.tuple #[]) (hexec _ ?_) (.tu #[] [] rfl (by simp)) hk;have hset:w.heap.setIfInBounds m (.map arr clk)=w.heap:=by
    grind
   simp [Builtin.delete_,run_underlying hu,he,MapKept.run_getObj_map hb,MapKept.run_checkKey hd hik,MapKept.run_findKey hd hf',MapKept.run_setObj_map _ hb,hset]
  |some p=>
   obtain ⟨i,y⟩:=p;obtain ⟨m',e',x',rfl,h1,h2,rfl,h4,h5⟩:=hf';have h1':arr[m']? = some e':=by grind
   have hm':m'<arr.size:=(aQ.1 h1').1;have hC2:=hC.PV (es':=es.eraseIdx (0+m')) (arr':=arr.eraseIdxIfInBounds (0+m')) (clk':=clk) hρ hes hn0 (hx1 _) hb (hgx:=hgx _) (by
     grind) (vP hor) (λi e'' x'' h1 h2=>by
    grind)
   refine dU (hexec _ ?_) (hn _ _ _ _ _ _ _ hC2 (.tu #[] [] rfl (by simp)) hk);simp [Builtin.delete_,run_underlying hu,he,MapKept.run_getObj_map hb,MapKept.run_checkKey hd hik,MapKept.run_findKey hd h5,MapKept.run_setObj_map _ hb]
 simp only [bq,bf] at hk;split at hk
 ·rename_i id hg;rw [hg] at hvx;rw [get?_eq] at hk;split at hk
  ·rename_i es hes;exact key id _ (λi=>.mp (es.eraseIdx i)) es hes (by simp) (λ_ _ _ _ _ h=>h) (λ_=>rfl) (tH hC hvx hes) hk
  ·rename_i es hes;exact key id _ (λi=>.dm (es.eraseIdx i)) _ hes (by simp) (λi G w ρ hd hM=>by
    show mQ G w ρ hd (fz (es.eraseIdx i));have e:fz (es.eraseIdx i)=(fz es).eraseIdx i:=vg _ es i
    grind) (λ_=>rfl) (uF hC hvx hes) hk
  ·rename_i z es hes;exact Gj hC hn ho hu hvx hkk hks hes hk
  grind
 grind
theorem TM (hC:ak E n G ρ t h a w) (hn:iQ E n a o K bV) {ty kt e t1:TypeId} {x:Operand} {ox:O} (ho:o.op = .call { callee:=.builtin .len,args:= #[x],argTypes:= #[ty] }) (hu:P.underlying ty=some (.map kt e)) (hx:cX P t1 x=some ox)
  (hk:bq S ow (.lm ox) t h K KP):o.wp P a w bV Q:=by
 have hvx:=bG hC hx;simp only [bq] at hk;split at hk
 ·rename_i id hg;rw [hg] at hvx;rw [get?_eq] at hk;split at hk
  ·rename_i es hes;obtain ⟨m,arr,clk,he,hρ,hb,hsz,hor,hr⟩:=tH hC hvx hes;refine an hC hn (v':=.int .i64 es.length) ?_ (.d (.int _ _)) hk;simp [execOp,ho,resolve,invoke,builtin,Builtin.len_,run_underlying hu,he,MapKept.run_getObj_map hb,goInt,hsz]
  ·rename_i es hes;obtain ⟨m,arr,clk,he,hρ,hb,hsz,hor,hr⟩:=uF hC hvx hes;have hsz:arr.size=es.length:=by rw [hsz];simp [fz]
   refine an hC hn (v':=.int .i64 es.length) ?_ (.d (.int _ _)) hk;simp [execOp,ho,resolve,invoke,builtin,Builtin.len_,run_underlying hu,he,MapKept.run_getObj_map hb,goInt,hsz]
  ·rename_i es r l hes;obtain ⟨m,arr,clk,he,hρ,hb,hsz,hor,hr⟩:=JW hC hvx hes;have hsz:arr.size=es.length:=by rw [hsz];simp [fz]
   refine an hC hn (v':=.int .i64 es.length) ?_ (.d (.int _ _)) hk;simp [execOp,ho,resolve,invoke,builtin,Builtin.len_,run_underlying hu,he,MapKept.run_getObj_map hb,goInt,hsz]
  ·rename_i z es out it hes;obtain ⟨m,arr,clk,he,hρ,hb,hsz,hor,hr⟩:=wo hC hvx hes;refine an hC hn (v':=.int .i64 es.length) ?_ (.d (.int _ _)) hk;simp [execOp,ho,resolve,invoke,builtin,Builtin.len_,run_underlying hu,he,MapKept.run_getObj_map hb,goInt,hsz]
  grind
 ·rename_i hg;rw [hg] at hvx;have he:a.eval x = .map none:=Gt hvx.qu;refine an hC hn (v':=.int .i64 0) ?_ (.d (.int _ _)) hk;simp [execOp,ho,resolve,invoke,builtin,Builtin.len_,run_underlying hu,he,goInt]
 grind
theorem TQ (hC:ak E n G ρ t h a w) (hn:iQ E n a o K bV) {ty e t1 t2:TypeId} {m:Nat} {x i:Operand} {ox oi:O} (ho:o.op = .indexAddr ty x i) (hu:P.underlying ty=some (.array m e)) (hc0:P.cellsOf e≠0) (hx:cX P t1 x=some ox) (hi:cX P t2 i=some oi)
  (hk:bq S ow (.ja ox oi (P.cellsOf e) m) t h K KP):o.wp P a w bV Q:=by
 have hvx:=bG hC hx;have hvi:=bG hC hi;have hrun:∀(b off:Nat) (k:IntKind) (j:Int),a.eval x = .pointer (some ⟨b,off,none⟩)→a.eval i = .int k j→0≤j→j<m →
   (execOp a.eval o).run P w = .ok (.value (.pointer (some ⟨b,off+j.toNat*P.cellsOf e,none⟩))) w:=by
  intro b off k j h1 h2 h3 h4;unfold Program.cellsOf at hc0 ⊢;cases hie:P.info? e with
  |none=>grind
  |some ie=>
   simp [execOp,ho,h1,h2,Instr.indexAt,asIntOf,run_underlying hu,h3,h4,sizeOf,typeInfo,hie,dx,Instr.sureAddr]
 simp only [bq,cZ] at hk;split at hk
 ·rename_i k j hgi;rw [hgi] at hvi;have hei:=hvi.int;split at hk
  ·rename_i row off hg;rw [hg] at hvx;obtain ⟨b,oo,U,hp,hGb,hU,hD⟩:=hvx.el;obtain ⟨sub,⟨h0,hs,hle⟩,hk⟩:=hk;have hle:=bA hle;have hj:j.toNat<m:=by
    have:=(aC.1 hs).1;rwa [ir] at this
   rw [qe _ _ _ _ hj] at hs;cases hs;refine an hC hn (hrun b (oo+off) k j hp hei h0 (by omega)) ?_ hk;have hget:∀(q:Nat) (y:D),((List.drop (j.toNat*P.cellsOf e) (List.drop off row)).take (P.cellsOf e))[q]? = some y→row[off+j.toNat*P.cellsOf e+q]? = some y:=by
    grind
   have:=dL.e (ρ := ρ) b (oo+off+j.toNat*P.cellsOf e) 0 _ (λq=>U (off+j.toNat*P.cellsOf e+q)) hGb (λq y hq=>by
     grind) (λq y hq=>hD _ _ (hget q y hq))
   exact .k this
  ·rename_i id off hg;rw [hg] at hvx;obtain ⟨b,hp,hρ⟩:=hvx.pt;exact an hC hn (hrun b off k j hp hei hk.1.1 hk.1.2) (.k (.p id _ b hρ)) hk.2
  grind
 grind
end
end Go.Vx
namespace Go.Vx
section
variable {P:Program} {E:gL} {n:Nat} {G:Nat→Prop} {ρ:List Value} {t:T} {h:H} {a:Act} {w:World} {o:Oper} {bV:Act→World→Prop} {Q:Exit→Act→World→Prop} {K KP:V→T→H→Prop}
variable (S:Nat→List V→H→(Out→H→Prop)→Prop) (ow:Nat→Bool)
theorem tB (hC:ak E n G ρ t h a w) (hn:iQ E n a o K bV) {f:PU} {ox:O} {x:Operand} {t1:TypeId} (hx:cX P t1 x=some ox)
  (hrun:∀v,pu f (gv t ox)=some v→∃v',(execOp a.eval o).run P w = .ok (.value v') w∧au G w ρ v' v) (hk:bq S ow (.pu f ox) t h K KP):o.wp P a w bV Q:=by
 have _:=hx;simp only [bq] at hk;split at hk
 ·rename_i v hv;obtain ⟨v',h1,h2⟩:=hrun v hv;exact an hC hn h1 h2 hk
 grind
theorem Sj (hC:ak E n G ρ t h a w) {ty t1:TypeId} {ag:Bool} {x:Operand} {ox:O} (ho:o.op = .makeInterface ty x) (hni:∀ms,P.underlying ty≠some (.interface ms)) {u:TypeDesc} (hu:P.underlying ty=some u) (hty:LT.lt (α :=Nat) ty 1000000) (hx:cX P t1 x=some ox) :
  ∀v,pu (if ag then .Vl (ty+2000000) else .mi (ty+3000000)) (gv t ox)=some v→∃v',(execOp a.eval o).run P w = .ok (.value v') w∧au G w ρ v' v:=by
 intro v hv;have hvx:=bG hC hx;have hrun:(execOp a.eval o).run P w = .ok (.value (.iface ty (a.eval x))) w:=by
  simp only [execOp,ho];refine cT ?_;simp only [Instr.makeInterface,Sem.run_bind,run_underlying hu,Result.andThen_ok];simp_all
 refine ⟨_,hrun,?_⟩;cases ag
 ·simp only [cj,ψ] at hv;simp only [pu] at hv;cases hb:(fA (gv t ox)&&uI (gv t ox)) with
  |false=>grind
  |true=>
   rw [hb] at hv;simp only [δ,aE] at hv;subst hv;simp only [aP] at hb;obtain ⟨h1,h2⟩:=qQ hvx hb.1 hb.2;refine .c (.fc _ _ #[a.eval x] _ (.inr ⟨by simp,.inr (.inr ⟨ty,a.eval x,rfl,hty,rfl,h2,rfl⟩)⟩) rfl (λi y hy=>?_))
   match i,hy with
   |0,hy=>simp_all
 ·simp only [if_true] at hv;cases hg:gv t ox with
  |ag cs=>
   rw [hg] at hv hvx;simp only [pu] at hv;cases hb:(!cs.isEmpty&&(cs.all fA&&cs.all uI)) with
   |false=>grind
   |true=>
    rw [hb] at hv;simp only [δ,aE] at hv;subst hv;simp only [aP,dF,aS] at hb;obtain ⟨cs',h1,h2,h3⟩:=hvx.R9;rw [h1];have hpos:0<cs'.size:=by
     grind
    refine .c (.fc _ _ cs' _ (.inr ⟨hpos,.inr (.inl ⟨ty,rfl,hty,rfl⟩)⟩) h2 (λi y hy=>?_));have hm:=aJ hy;have h4:=h3 i y hy;exact (qQ (.c h4) (hb.2.1 y hm) (hb.2.2 y hm)).1
  |_=>rw [hg] at hv;cases hv
theorem uA {F:Nat} {v:Value} {cs:Array Value} (h:JJ F v cs) (hF:2000000≤F):(F<3000000∧v = .iface (F - 2000000) (.agg cs)∧0<cs.size)∨(3000000≤F∧∃x,v = .iface (F - 3000000) x∧cs = #[x]):=by
 rcases h with ⟨h,_⟩ | ⟨h,⟨f,rfl,hf,_⟩ | ⟨f,rfl,hf,rfl⟩ | ⟨f,x,rfl,hf,rfl,_,rfl⟩⟩
 grind
 grind
 grind
 grind
theorem Si (hC:ak E n G ρ t h a w) {xt ty t1:TypeId} {ag ok:Bool} {zv:V} {x:Operand} {ox:O} (ho:o.op = .typeAssert x xt ty ok) (hni:∀ms,P.underlying ty≠some (.interface ms)) {u:TypeDesc} (hu:P.underlying ty=some u) (hty:LT.lt (α :=Nat) ty 1000000) (hz:zk P ty=some zv)
  (hx:cX P t1 x=some ox):∀v,pu (.ta ty ag zv ok) (gv t ox)=some v→∃v',(execOp a.eval o).run P w = .ok (.value v') w∧au G w ρ v' v:=by
 intro v hv;have hvx:=bG hC hx;obtain ⟨z,hz1,hz2,_⟩:=vu (P:=P) (G:=G) (w:=w) (ρ := ρ) hz;have tup:∀(v:Value) (y:V) (b:Bool),dM G w ρ v y→au G w ρ (.tuple #[v,.bool b]) (.tu [y,.d (.bool b)]):=by
  intro v y b hv;refine .tu #[v,.bool b] _ rfl (λi x hx=>?_)
  match i,hx with
  |0,hx=>simp_all
  |1,hx=>cases hx;exact .c (.k (.d (.bool b)))
 have hold:∀(c:Value),a.eval x = .iface ty c→(execOp a.eval o).run P w = .ok (.value (if ok then .tuple #[c,.bool true] else c)) w:=by
  intro c hc;simp only [execOp,ho];refine cT ?_;cases u with
  |interface ms=>grind
  |_=>simp [Instr.typeAssert,Sem.run_bind,run_underlying hu,hc]
 have fail:ok=true→(a.eval x = .nilIface∨∃t' c,a.eval x = .iface t' c∧t'≠ty)→(execOp a.eval o).run P w = .ok (.value (.tuple #[z,.bool false])) w:=by
  intro hok hc;subst hok;simp only [execOp,ho];refine cT ?_;have hzv:(zeroValue ty).run P w = .ok z w:=hz1;cases u with
  |interface ms=>grind
  |_=>
   rcases hc with hc | ⟨t',c,hc,hne⟩
   ·simp [Instr.typeAssert,Sem.run_bind,run_underlying hu,hc,hzv]
   ·simp [Instr.typeAssert,Sem.run_bind,run_underlying hu,hc,hzv,hne]
 cases hg:gv t ox with
 |fc F caps=>
  rw [hg] at hv hvx;obtain ⟨cs,hfc,hsz,hr⟩:=hvx.Nv;simp only [pu] at hv;cases hF:Nat.beq F (bif ag then ty+2000000 else ty+3000000) with
  |true=>
   rw [hF] at hv;have hFe:=kH hF;simp only [δ] at hv;cases ag with
   |true=>
    simp only [δ] at hFe;simp only [aE] at hv;subst hv;rcases uA hfc (by omega) with ⟨_,hv,_⟩ | ⟨h1,_⟩
    ·rw [show F - 2000000=ty by omega] at hv;refine ⟨_,hold _ hv,?_⟩;have hrep:dM G w ρ (.agg cs) (.ag caps):=.ag cs caps hsz λi y hy=>.k (hr i y hy);cases ok
     ·exact .o hrep
     grind
    grind
   |false=>
    simp only [ε] at hFe;cases caps with
    |nil=>grind
    |cons y ys=>
     simp only [aE] at hv;subst hv;rcases uA hfc (by omega) with ⟨h1,_⟩ | ⟨_,c,hv,rfl⟩
     grind
     ·rw [show F - 3000000=ty by omega] at hv;refine ⟨_,hold _ hv,?_⟩;have hrep:dM G w ρ c y:=.c (.k (hr 0 y rfl));cases ok
      ·exact .o hrep
      grind
  |false=>
   rw [hF] at hv;simp only [ε] at hv;cases hb:(ok&&(Nat.ble 2000000 F&&(!(Nat.beq F (ty+2000000)) && !(Nat.beq F (ty+3000000))))) with
   |false=>grind
   |true=>
    rw [hb] at hv;simp only [δ,aE] at hv;subst hv;simp only [aP,dF] at hb;obtain ⟨h1,h2,h3,h4⟩:=hb;have h2:=bA h2;have h3:F≠ty+2000000:=λe=>by simp_all
    have h4:F≠ty+3000000:=λe=>by simp_all
    refine ⟨_,fail h1 (.inr ?_),tup _ _ false hz2⟩;rcases uA hfc h2 with ⟨h5,hv,_⟩ | ⟨h5,c,hv,_⟩
    grind
    grind
 |d y=>
  rw [hg] at hv hvx;cases y with
  |ni=>
   have hi:a.eval x = .nilIface:=by
    have:=hvx.qu;cases hav:a.eval x<;>rw [hav] at this<;>first | rfl | (cases this;done) | skip
    all_goals (cases this)
   simp only [pu] at hv
   grind
  |_=>cases hv
 |_=>rw [hg] at hv;cases hv
theorem N2 (hC:ak E n G ρ t h a w) {ne:Bool} {ty t1 t2:TypeId} {ms} {x:Operand} {ox:O} (ho:o.op = .binOp (bif ne then .neq else .eql) ty x (.const .nilIface) t2) (hu:P.underlying ty=some (.interface ms)) (hx:cX P t1 x=some ox) :
  ∀v,pu (.iq ne) (gv t ox)=some v→∃v',(execOp a.eval o).run P w = .ok (.value v') w∧au G w ρ v' v:=by
 intro v hv;have hvx:=bG hC hx;have e0:a.eval (.const .nilIface) = .nilIface:=rfl;have key:∀(av:Value) (r:Bool),a.eval x=av→(av = .nilIface∨∃t c,av = .iface t c)→(∀k,(Op.equalIn (k+1) ty av .nilIface).run P w = .ok r w)→(execOp a.eval o).run P w = .ok (.value (.bool (bif ne then !r else r))) w:=by
  intro av r he hav heq;have heq:(Op.equal ty av .nilIface).run P w = .ok r w:=heq 9999;cases ne<;>simp only [δ,ε] at ho ⊢<;>simp only [execOp,ho,he,e0]
  ·refine cT ?_;rcases hav with rfl | ⟨t,c,rfl⟩<;>simp [eqGuard,binOp,heq]
  ·refine cT ?_;rcases hav with rfl | ⟨t,c,rfl⟩<;>simp [eqGuard,binOp,heq]
 cases hg:gv t ox with
 |fc F caps=>
  rw [hg] at hv hvx;obtain ⟨cs,hfc,hsz,hr⟩:=hvx.Nv;simp only [pu] at hv;cases hb:Nat.ble 2000000 F with
  |false=>grind
  |true=>
   rw [hb] at hv;simp only [δ,aE] at hv;subst hv;have:∃t' c,a.eval x = .iface t' c:=by
    rcases uA hfc (bA hb) with ⟨_,hv,_⟩ | ⟨_,c,hv,_⟩
    grind
    grind
   obtain ⟨t',c,hc⟩:=this;refine ⟨_,key _ false hc (.inr ⟨_,_,rfl⟩) (λk=>by simp [Op.equalIn,run_underlying hu]),?_⟩;cases ne<;>exact .d (.bool _)
 |d y=>
  rw [hg] at hv hvx;cases y with
  |ni=>
   have hi:a.eval x = .nilIface:=by
    have:=hvx.qu;cases hav:a.eval x<;>rw [hav] at this<;>first | rfl | (cases this;done) | skip
    all_goals (cases this)
   simp only [pu,aE] at hv;subst hv;refine ⟨_,key _ true hi (.inl rfl) (λk=>by simp [Op.equalIn,run_underlying hu]),?_⟩;cases ne<;>exact .d (.bool _)
  |_=>cases hv
 |_=>rw [hg] at hv;cases hv
theorem N1 (hC:ak E n G ρ t h a w) {ne:Bool} {ty t1 t2 e:TypeId} {x:Operand} {ox:O} (ho:o.op = .binOp (bif ne then .neq else .eql) ty x (.const (.pointer none)) t2) (hu:P.underlying ty=some (.pointer e)) (hx:cX P t1 x=some ox) :
  ∀v,pu (.pq ne) (gv t ox)=some v→∃v',(execOp a.eval o).run P w = .ok (.value v') w∧au G w ρ v' v:=by
 intro v hv;have hvx:=bG hC hx;have e0:a.eval (.const (.pointer none)) = .pointer none:=rfl;have key:∀(q:Option Addr),a.eval x = .pointer q→(execOp a.eval o).run P w = .ok (.value (.bool (bif ne then !q.isNone else q.isNone))) w:=by
  intro q he;have hek:∀k,(Op.equalIn (k+1) ty (.pointer q) (.pointer none)).run P w = .ok q.isNone w:=λk=>by
   cases q<;>simp [Op.equalIn,run_underlying hu]
  have heq:(Op.equal ty (.pointer q) (.pointer none)).run P w = .ok q.isNone w:=hek 9999;cases ne<;>simp only [δ,ε] at ho ⊢<;>simp only [execOp,ho,he,e0]
  ·refine cT ?_;simp [eqGuard,binOp,heq]
  ·refine cT ?_;simp [eqGuard,binOp,heq]
 have fin:∀(q:Option Addr),a.eval x = .pointer q→v = .d (.bool (bif ne then !q.isNone else q.isNone))→∃v',(execOp a.eval o).run P w = .ok (.value v') w∧au G w ρ v' v:=λq h1 h2=>⟨_,key q h1,by rw [h2];exact .d (.bool _)⟩
 generalize a.eval x=av at hvx fin;cases hg:gv t ox with
 |p i o=>
  rw [hg] at hv hvx;cases hvx with | o h=>cases h with | c h=>cases h with | k h=>cases h with | p _ _ b h=>exact fin _ rfl (by cases ne<;>exact (aq hv).symm)
 |e r o=>
  rw [hg] at hv hvx;cases hvx with | o h=>cases h with | c h=>cases h with | k h=>cases h with | e b=>exact fin _ rfl (by cases ne<;>exact (aq hv).symm)
 |q i z j o=>
  rw [hg] at hv hvx;cases hvx with | o h=>cases h with | c h=>cases h with | k h=>cases h with | q=>exact fin _ rfl (by cases ne<;>exact (aq hv).symm)
 |d y=>
  rw [hg] at hv hvx;cases y with
  |np=>
   have:=hvx.qu;cases this;exact fin _ rfl (by cases ne<;>exact (aq hv).symm)
  |_=>cases hv
 |_=>rw [hg] at hv;cases hv
theorem Sk (hC:ak E n G ρ t h a w) {ty t1:TypeId} {fs:Array Field} {f:Nat} {fd:Field} {m:Option Nat} {x:Operand} {ox:O} (ho:o.op = .field ty x f) (hu:P.underlying ty=some (.struct fs)) (hf:fs[f]? = some fd) (hl:uj P fd.type=some m) (hx:cX P t1 x=some ox) :
  ∀v,pu (.fd fd.offset m) (gv t ox)=some v→∃v',(execOp a.eval o).run P w = .ok (.value v') w∧au G w ρ v' v:=by
 intro v hv;have hvx:=bG hC hx;cases hg:gv t ox with
 |ag cs=>
  rw [hg] at hv hvx;obtain ⟨cs',hc,hsz,hr⟩:=hvx.R9;have hl0:=hl;simp only [uj,aI,aD] at hl;obtain ⟨i,hi,b,hb,hm⟩:=hl;cases b with
  |false=>
   simp only [cj,ψ,aE] at hm;subst hm;simp only [pu] at hv;have hlt:fd.offset<cs'.size:=by grind
   refine ⟨cs'.getD fd.offset undef,?_,.c (hr _ _ hv)⟩;simp only [execOp,ho,hc];refine cT ?_;simp [Instr.field,run_underlying hu,hf,asAgg,part,ib hb,hlt]
  |true=>
   simp only [if_true,aE] at hm;subst hm;simp only [pu] at hv;cases hbq:Nat.beq ((cs.drop fd.offset).take i.size).length i.size with
   |false=>grind
   |true=>
    rw [hbq] at hv;simp only [δ,aE] at hv;subst hv;have hlen:=kH hbq;rw [bC,eJ] at hlen;refine ⟨.agg (cs'.extract fd.offset (fd.offset+i.size)),?_,.o (.ag _ _ ?_ (λj y hy=>?_))⟩
    ·simp only [execOp,ho,hc];refine cT ?_;simp [Instr.field,run_underlying hu,hf,asAgg,part,ib hb,sizeOf,typeInfo,hi]
    grind
    ·have hj:j<i.size:=by
      grind
     rw [ao,ζ hj,bF] at hy;have:=hr _ y hy;have hlt:fd.offset+j<cs'.size:=by grind
     rw [aF,aN hlt] at this;rw [aF,Array.getElem?_extract]
     grind
 |_=>rw [hg] at hv;cases m<;>cases hv
theorem S_ (hC:ak E n G ρ t h a w) (hp:SE E n a KP Q) {x:Operand} {ox:O} {t1:TypeId} (ho:o.op = .panic x) (hx:cX P t1 x=some ox) (hk:bq S ow (.pn ox) t h K KP):o.wp P a w bV Q:=by
 have hvx:=bG hC hx;simp only [bq] at hk;split at hk
 ·rename_i F cs hg;rw [hg] at hvx;obtain ⟨cs',hfc,_,_⟩:=hvx.Nv;cases hb:Nat.ble 2000000 F with
  |false=>grind
  |true=>
   rw [hb] at hk;have:∃t' c,a.eval x = .iface t' c:=by
    rcases uA hfc (bA hb) with ⟨_,hv,_⟩ | ⟨_,c,hv,_⟩
    grind
    grind
   obtain ⟨t',c,hc⟩:=this;have hq:=hp _ _ _ _ _ _ _ hC hvx hk;unfold Oper.wp;have hrun:(execOp a.eval o).run P w = .halt (.panic (.iface t' c)) w:=by
    simp only [execOp,ho,hc];rfl
   rw [hrun];rw [hc] at hq;exact hq
 grind
theorem TI (hC:ak E n G ρ t h a w) (hn:iQ E n a o K bV) {ty e t1 t2:TypeId} {zs:List V} {ds:List D} {i:TypeInfo} {l c:Operand} {ol oc:O} (ho:o.op = .makeSlice ty l c) (hu:P.underlying ty=some (.slice e)) (hz:rM P e=some zs) (hd:zs.mapM SB=some ds) (hi:P.info? e=some i)
  (hzl:zs.length=P.cellsOf e) (hl:cX P t1 l=some ol) (hc:cX P t2 c=some oc) (hk:bq S ow (.mk ds (P.cellsOf e) i.bytes ol oc) t h K KP):o.wp P a w bV Q:=by
 have hvl:=bG hC hl;have hvc:=bG hC hc;obtain ⟨i',z,hi',hz1,hzs,_,hzr⟩:=jf (G:=G) (w:=w) (ρ := ρ) hz;rw [hi] at hi';cases hi';simp only [bq,bf,cZ] at hk;split at hk
 ·rename_i kl m kc q hgl hgc;rw [hgl] at hvl;rw [hgc] at hvc;have el:=hvl.int;have ec:=hvc.int;obtain ⟨⟨h0,h1,h2,h3⟩,hk⟩:=hk;have hsz:P.cellsOf e=i.size:=by simp [Program.cellsOf,hi]
  obtain ⟨d1,d2⟩:=vU hd;have hrun:=run_make (P:=P) w ty e i z hu hi hz1 kl kc m q h0 h1 (by grind) h3;have hC2:=hC.push (gK.alloc w (.cells (madeCells z.cells (q.toNat*i.size)) e)) (.slice (some ⟨w.heap.size,0,none⟩) m.toNat q.toNat) (.rows (P.cellsOf e) (List.replicate m.toNat ds)) (by intro b hb;simp only [fO,aE] at hb;omega)
   (.inr ⟨w.heap.size,q.toNat,madeCells z.cells (q.toNat*i.size),e,by simp,heap_alloc_new w _,by grind,by simp only [maxLen];omega,by rw [size_madeCells,hsz],λj row hr=>by
    rw [List.getElem?_replicate] at hr;split at hr
    ·rename_i hj;cases hr;refine ⟨by grind,λk x hx=>?_⟩;have hkl:k<zs.length:=by grind
     have hks:k<i.size:=by grind
     have hzc:z.cells.size=i.size:=by grind
     have hlt:j*i.size+k<q.toNat*i.size:=by
      have:(j+1)*i.size≤q.toNat*i.size:=bB _ (by omega)
      grind
     have hget:(madeCells z.cells (q.toNat*i.size)).getD (j*P.cellsOf e+k) undef=z.cells.getD k undef:=by
      rw [hsz,aF,madeCells,gQ,Array.getElem?_range];rw [ζ hlt,bE,bo,hzc,Nat.mul_comm,Nat.mul_add_mod,dQ hks];simp_all
     rw [hget];have hv:=(hzr k zs[k] (aA hkl)).1;have hdo:=d2 k zs[k] x (aA hkl) hx;have:=JS hv hdo;exact this.mono (λ_ h=>h) (λb hb=>(gK.alloc w _).iE b (hC.ok.hr.gl b hb))
    grind⟩)
  refine dU ?_ (hn _ _ _ _ _ _ _ hC2 (.k (.os h.length (some ⟨w.heap.size,0,none⟩) m.toNat q.toNat (by rw [←hC.ok.hr.len];simp))) hk);simp only [execOp,ho,el,ec];simp_all
 grind
theorem Qm {d:D} {x:V} (h:Uu d x=true):x = .d d:=by
 unfold Uu at h;split at h
 grind
 ·simp only [aP,ξ] at h;rw [xB h.1,h.2]
 grind
theorem T7 (hC:ak E n G ρ t h a w) (hn:iQ E n a o K bV) {ty:TypeId} {zs:List V} {d:D} {m:Nat} (ho:o.op = .alloc ty) (hz:rM P ty=some zs) (hl:zs.length=m) (hm:m≤1000000) (hd:zs.all (Uu d)=true)
  (hk:K (.q h.length 1 0 0) t (h ++ [.rows 1 (List.replicate m [d])])):o.wp P a w bV Q:=by
 obtain ⟨i,z,hi,hz1,hzs,_,hzr⟩:=jf (G:=G) (w:=w) (ρ := ρ) hz;have hC2:=hC.push (gK.alloc w (.cells z.cells ty)) (.slice (some ⟨w.heap.size,0,none⟩) m m) (.rows 1 (List.replicate m [d])) (by intro b hb;simp only [fO,aE] at hb;omega)
  (.inr ⟨w.heap.size,m,z.cells,ty,by simp,heap_alloc_new w _,by simp,by simp only [maxLen];omega,by grind,λj row hr=>by
   rw [List.getElem?_replicate] at hr;split at hr
   ·rename_i hj;cases hr;refine ⟨rfl,λk x hx=>?_⟩;have hk0:k=0:=by
     grind
    subst hk0;simp at hx;subst hx;have hjl:j<zs.length:=by omega
    have hv:=(hzr j zs[j] (aA hjl)).1;rw [Qm (aS.1 hd _ (cP hjl))] at hv;have hv2:bp G w (z.cells.getD j undef) d:=by
     generalize z.cells.getD j undef=u at hv ⊢;cases hv;grind
    rw [Nat.mul_one,eQ];exact hv2.mono (λ_ h=>h) (λb hb=>(gK.alloc w _).iE b (hC.ok.hr.gl b hb))
   grind⟩)
 refine dU (v':=.pointer (some ⟨w.heap.size,0,none⟩)) ?_ (hn _ _ _ _ _ _ _ hC2 (.k (.q h.length 1 0 0 w.heap.size m m (by rw [←hC.ok.hr.len];simp))) hk);simp [execOp,ho,Instr.alloc,zeroValue,typeInfo,hi,hz1,newVar,newRow]
theorem TO (hC:ak E n G ρ t h a w) (hn:iQ E n a o K bV) {ty t1:TypeId} {x:Operand} {ox:O} {m:Nat} (ho:o.op = .load ty x) (hx:cX P t1 x=some ox) (hl:uj P ty=some (some m)) (hk:bq S ow (.la ox m) t h K KP):o.wp P a w bV Q:=by
 have hv:=bG hC hx;simp only [bq] at hk;split at hk
 ·rename_i id z i off hg;rw [hg] at hv;obtain ⟨b,nn,c,hp,hρ⟩:=hv.ql;rw [get?_eq] at hk;split at hk
  ·rename_i z' rs hrs;obtain ⟨hq,ds,⟨rfl,hds⟩,hk⟩:=hk;simp only [aP] at hq;obtain ⟨⟨⟨q1,q2⟩,q3⟩,q4⟩:=hq;obtain rfl:=kH q1;obtain rfl:=kH q2;obtain rfl:=kH q3;obtain rfl:=kH q4;rw [Nat.zero_mul,eQ] at hp;have hrow:∀(j:Nat) (d:D),ds[j]? = some d→∃v,w.cell? ⟨b,0+j,none⟩=some v∧bp G w v d:=λj d hj=>by
    obtain ⟨b',cap,arr,ty',hb,h1,h2,hle,h3⟩:=j9 (hC.ok.hr.rep id _ _ hρ hrs) (i:=j) (row:=[d]) (by grind);simp only [Value.slice.injEq,aE,Addr.mk.injEq,ω] at hb;obtain ⟨rfl,_,_⟩:=hb;have:=h3 0 d rfl
    grind
   refine w_ hC hn ho hp hl (U:=λj=>(w.cell? ⟨b,0+j,none⟩).getD undef) (vs:=ds.map .d) (by grind) (λj y hy=>?_) hk;rw [aB] at hy;cases hd:ds[j]? with
   |none=>grind
   |some d=>
    rw [hd] at hy;cases hy;obtain ⟨v,h1,h2⟩:=hrow j d hd;rw [h1];exact ⟨rfl,.k (.d h2)⟩
  grind
 grind
theorem TP (hC:ak E n G ρ t h a w) (hn:iQ E n a o K bV) {ty e t1 t2:TypeId} {m:Nat} {x i:Operand} {ox oi:O} (ho:o.op = .indexAddr ty x i) (hu:P.underlying ty=some (.array m e)) (hc1:P.cellsOf e=1) (hx:cX P t1 x=some ox) (hi:cX P t2 i=some oi)
  (hk:bq S ow (.jq ox oi m) t h K KP):o.wp P a w bV Q:=by
 have hvx:=bG hC hx;have hvi:=bG hC hi;have hrun:∀(b off:Nat) (k:IntKind) (j:Int),a.eval x = .pointer (some ⟨b,off,none⟩)→a.eval i = .int k j→0≤j→j<m →
   (execOp a.eval o).run P w = .ok (.value (.pointer (some ⟨b,off+j.toNat*P.cellsOf e,none⟩))) w:=by
  intro b off k j h1 h2 h3 h4;unfold Program.cellsOf at hc1 ⊢;cases hie:P.info? e with
  |none=>grind
  |some ie=>
   simp [execOp,ho,h1,h2,Instr.indexAt,asIntOf,run_underlying hu,h3,h4,sizeOf,typeInfo,hie,dx,Instr.sureAddr]
 simp only [bq] at hk;split at hk
 ·rename_i id z j off k q hgx hgi;rw [hgx] at hvx;rw [hgi] at hvi;obtain ⟨b,nn,c,hp,hρ⟩:=hvx.ql;obtain ⟨hq,⟨h0,h1⟩,hk⟩:=hk;simp only [aP] at hq;obtain ⟨⟨q1,q2⟩,q3⟩:=hq;obtain rfl:=kH q1;obtain rfl:=kH q2;obtain rfl:=kH q3;refine an hC hn (hrun b _ k q hp hvi.int h0 h1) ?_ hk;rw [hc1];have:=dL.q (G:=G) (w:=w) id 1 q.toNat 0 b nn c hρ;simp only [Nat.zero_mul,cF,eQ] at this ⊢;exact .k this
 grind
theorem T6 (hC:ak E n G ρ t h a w) (hn:iQ E n a o K bV) {ty e t1 t2:TypeId} {m:Nat} {x i:Operand} {ox oi:O} (ho:o.op = .index ty x i) (hu:P.underlying ty=some (.array m e)) (hag:kO P e=some false) (hc1:P.cellsOf e=1) (hx:cX P t1 x=some ox) (hi:cX P t2 i=some oi)
  (hk:bq S ow (.ai ox oi m) t h K KP):o.wp P a w bV Q:=by
 have hvx:=bG hC hx;have hvi:=bG hC hi;simp only [bq] at hk;split at hk
 ·rename_i cs k q hgx hgi;rw [hgx] at hvx;rw [hgi] at hvi;obtain ⟨cv,e1,jb,hcr⟩:=hvx.R9;have e2:=hvi.int;obtain ⟨v,⟨h0,h1,h2⟩,hk⟩:=hk;have hlt:q.toNat<cv.size:=by grind
  have hr:=hcr _ _ h2;have hv:bp G w (cv.getD q.toNat undef) v:=by
   generalize cv.getD q.toNat undef=u at hr;cases hr with
   |k h=>cases h;grind
  refine an hC hn (v':=cv.getD q.toNat undef) ?_ (.d hv) hk;have hag':(isAgg e).run P w = .ok false w:=by
   unfold kO at hag;cases hue:P.underlying e with
   |none=>grind
   |some u=>
    rw [hue] at hag;simp only [isAgg,Sem.run_bind,run_underlying hue,Result.andThen];cases u<;>simp_all
  unfold Program.cellsOf at hc1;cases hie:P.info? e with
  |none=>grind
  |some ie=>
   rw [hie] at hc1;simp at hc1;simp [execOp,ho,e1,e2,Instr.index,asIntOf,run_underlying hu,h0,h1,sizeOf,typeInfo,hie,hc1,part,hag',hlt]
 grind
theorem Sx (hC:ak E n G ρ t h a w) (hn:iQ E n a o K bV) {s d e t1:TypeId} {x:Operand} {ox:O} (ho:o.op = .convert s d x) (hs:P.underlying s=some (.slice e)) (he:P.underlying e=some (.int .u8)) (hd:P.underlying d=some .string) (hx:cX P t1 x=some ox)
  (hk:bq S ow (.sb ox) t h K KP):o.wp P a w bV Q:=by
 have hvx:=Cr (bG hC hx);have nil:∀(c:Nat),a.eval x = .slice none 0 c→K (.d (.str [])) t h→o.wp P a w bV Q:=by
  intro c hv hk;have hr:=bp.str (G:=G) (w:=w) ByteArray.empty (by simp_all);refine an hC hn (v':=.string ByteArray.empty) ?_ (.d hr) hk;simp only [execOp,ho,hv];exact cT (by rw [run_convert_bytes_string w s d e none 0 c hs he hd];rfl)
 have fin:∀(l:List UInt8) (ad:Addr) (c:Nat),a.eval x = .slice (some ad) l.length c→l.length≤maxLen→(∀j (hj:j<l.length),w.cell? (ad.add j)=some (.int .u8 (l[j].toNat:Int)))→K (.d (.str l)) t h→o.wp P a w bV Q:=by
  intro l ad c hv hm hc hk;have hr:=bp.str (G:=G) (w:=w) ⟨l.toArray⟩ (by assumption);simp only at hr;refine an hC hn (v':=.string ⟨l.toArray⟩) ?_ (.d hr) hk;simp only [execOp,ho,hv];exact cT (run_convert_bytes_back w s d e ad c l hs he hd hc)
 have dat:∀(z:Nat) (l:List UInt8) (v:Value),a.eval x=v→bp G w v (.sl z (l.map λb=>[D.int .u8 b.toNat]))→K (.d (.str l)) t h→o.wp P a w bV Q:=by
  intro z l v hv hD hk;generalize hr:(l.map λb=>[D.int .u8 b.toNat])=r at hD;have hnil:r = []→l = []:=λe=>by simp_all
  cases hD with
  |xg=>grind
  |sle ad=>rw [hnil rfl] at hk hr;exact fin [] ad 0 hv (by grind) (λj hj=>absurd hj (by simp)) (by grind)
  |sl b oo cap _ _ U h1 h2 h3 h4 h5 h6=>
   subst hr;rw [aH] at hv h1;refine fin l ⟨b,oo,none⟩ cap hv (aV h1 h2) (λj hj=>?_) hk;have hg:(l.map λb=>[D.int .u8 b.toNat])[j]? = some [D.int .u8 l[j].toNat]:=by grind
   have hz:=h4 j _ hg;simp only [aX,ah] at hz;have hc:=h5 j _ 0 _ hg rfl;have hu:=h6 j _ 0 _ hg rfl;rw [←hz] at hc;rw [dx,show oo+j=oo+(j*(0+1)+0) by omega,hc];generalize U j 0=u at hu;cases hu;rfl
 simp only [bq] at hk;split at hk
 ·rename_i z r hg;rw [hg] at hvx;obtain ⟨l,rfl,hk⟩:=hk;exact dat z l _ rfl hvx.qu hk
 ·rename_i z r hg;rw [hg] at hvx;obtain ⟨ad,m,hv,hD⟩:=hvx.PA
  grind
 ·rename_i id hg;rw [hg] at hvx;obtain ⟨ad,m,c,hv,hρ⟩:=hvx.QG;rw [get?_eq] at hk;split at hk
  ·rename_i z r hr;obtain ⟨l,rfl,hk⟩:=hk;rcases hC.ok.hr.rep id _ _ hρ hr with ⟨he,hl⟩ | ⟨b,cap,arr,ty',he,h1,hlc,hcm,hsz,hrow⟩
   simp_all
   ·rw [aH] at he hlc;cases he;refine fin l ⟨b,0,none⟩ c hv (aV hlc hcm) (λj hj=>?_) hk;have hg:(l.map λb=>[D.int .u8 b.toNat])[j]? = some [D.int .u8 l[j].toNat]:=by grind
    obtain ⟨hz,hD⟩:=hrow j _ hg;simp only [aX,ah] at hz;have hu:=hD 0 _ rfl;rw [←hz] at hu hsz;have hjl:j<arr.size:=by omega
    rw [dx,dC h1];have e1:arr.getD (j*(0+1)+0) undef=arr[j]:=by
     rw [show j*(0+1)+0=j by omega,aF,aN hjl];rfl
    rw [e1] at hu;rw [cF,aN hjl];generalize arr[j]=u at hu;cases hu;rfl
  grind
 grind
end
end Go.Vx
