/- Lemmas. Conditions: none. -/
import Derived.Test.YtjpgfgajkjhonaaGreatDoorQRAF
import Derived.RangeFuncSeq
namespace Go.Vx
section pL
variable {G:Nat→Prop} {w:World} {ρ ρ':List Value} {f:Nat→Nat}
theorem dL.pL {v:Value} {x:V} (h:dL G w ρ v x) (hf:∀i∈ij x,ρ'[f i]? = ρ[i]?):dL G w ρ' v (wW f x):=by
 cases h with
 |un=>exact .un _
 |ud=>exact .ud
 |d h=>exact .d h
 |p id off b h=>exact .p _ off b ((hf id (by simp [ij])).trans h)
 |e b o off row U h1 h2 h3=>exact .e b o off row U h1 h2 h3
 |os id a n c h=>exact .os _ a n c ((hf id (by simp [ij])).trans h)
 |q id z i off b n c h=>exact .q _ z i off b n c ((hf id (by simp [ij])).trans h)
 |cl a n z rows h=>exact .cl a n z rows h
 |nl z=>exact .nl z
 |mp id r h=>exact .mp _ r ((hf id (by simp [ij])).trans h)
 |ov id z i _ a n c h hv=>exact .ov _ z i _ a n c ((hf id (by simp [ij])).trans h) hv
 |it id r m h=>exact .it _ r m ((hf id (by simp [ij])).trans h)
theorem dI.pL {v:Value} {x:V} (h:dI G w ρ v x) (hf:∀i∈kI x,ρ'[f i]? = ρ[i]?):dI G w ρ' v (sk f x):=by
 cases h with
 |k h=>
  have e1:sk f x=wW f x:=by cases h<;>rfl
  have e2:kI x=ij x:=by cases h<;>rfl
  rw [e1];exact .k (h.pL (by grind))
 |fc g u cs caps h0 h1 h2=>
  refine .fc g _ cs _ h0 (by grind) (λi x hx=>?_);rw [aB] at hx;cases hc:caps[i]? with
  |none=>grind
  |some x0=>
   rw [hc] at hx;cases hx;exact (h2 i x0 hc).pL (λj hj=>hf j (by simp only [kI,aO];grind))
theorem dM.pL {v:Value} {x:V} (h:dM G w ρ v x) (hf:∀i∈jJ x,ρ'[f i]? = ρ[i]?):dM G w ρ' v (pK f x):=by
 cases h with
 |c h=>
  have e1:pK f x=sk f x:=by
   cases h with
   |k h=>cases h<;>rfl
   |fc=>rfl
  have e2:jJ x=kI x:=by
   cases h with
   |k h=>cases h<;>rfl
   |fc=>rfl
  rw [e1];exact .c (h.pL (by grind))
 |ag cs vs h1 h2=>
  refine .ag cs _ (by grind) (λi x hx=>?_);rw [aB] at hx;cases hc:vs[i]? with
  |none=>grind
  |some x0=>
   rw [hc] at hx;cases hx;exact (h2 i x0 hc).pL (λj hj=>hf j (by simp only [jJ,aO];grind))
theorem au.pL {v:Value} {x:V} (h:au G w ρ v x) (hf:∀i∈eT x,ρ'[f i]? = ρ[i]?):au G w ρ' v (gS f x):=by
 cases h with
 |o h=>
  have e1:gS f x=pK f x:=by
   cases h with
   |c h=>cases h with
    |k h=>cases h<;>rfl
    |fc=>rfl
   |ag=>rfl
  have e2:eT x=jJ x:=by
   cases h with
   |c h=>cases h with
    |k h=>cases h<;>rfl
    |fc=>rfl
   |ag=>rfl
  rw [e1];exact .o (h.pL (by grind))
 |tu cs vs h1 h2=>
  refine .tu cs _ (by grind) (λi x hx=>?_);rw [aB] at hx;cases hc:vs[i]? with
  |none=>grind
  |some x0=>
   rw [hc] at hx;cases hx;exact (h2 i x0 hc).pL (λj hj=>hf j (by simp only [eT,aO];grind))
theorem cY.pL {v:Value} {x:B} (h:cY G w ρ v x) (hf:∀i∈eZ x,ρ'[f i]? = ρ[i]?):cY G w ρ' v (eR f x):=by
 cases x with
 |no=>trivial
 |nw=>exact h
 |cells cs=>
  obtain ⟨b,arr,ty,rfl,h1,h2,h3⟩:=h;refine ⟨b,arr,ty,rfl,h1,by grind,λi x hx=>?_⟩;rw [aB] at hx;cases hc:cs[i]? with
  |none=>grind
  |some x0=>
   rw [hc] at hx;cases hx;exact (h3 i x0 hc).pL (λj hj=>hf j (by simp only [eZ,aO];grind))
 |mp es=>
  obtain ⟨r,arr,clk,rfl,h1,h2,h3,h4⟩:=h;refine ⟨r,arr,clk,rfl,h1,by grind,h3,λi e x he hx=>?_⟩;rw [aB] at hx;cases hc:es[i]? with
  |none=>grind
  |some x0=>
   rw [hc] at hx;cases hx;exact ⟨(h4 i e x0 he hc).1.pL (λj hj=>hf j (by simp only [eZ,aO];grind)),
    (h4 i e x0 he hc).2.pL (λj hj=>hf j (by simp only [eZ,aO];grind))⟩
 |dm es=>exact cY.mono (x:=.dm es) h (λ_ h=>h) (λ_ _=>rfl) (λ_ _=>rfl) (λi hi=>by cases hi)
 |di es r l=>exact cY.mono (x:=.di es r l) h (λ_ h=>h) (λ_ _=>rfl) (λ_ _=>rfl) (λi hi=>by cases hi)
 |ms z es out it=>
  have h1:=cY.mono (x:=.ms z es none it) (w':=w) (ρ':= ρ') ⟨j_.drop h.1,h.2⟩ (λ_ h=>h) (λ_ _=>rfl) (λ_ _=>rfl) (λi hi=>by cases hi);exact ⟨h1.1.outs h.1 (λi v u ho hr=>hr.pL (λj hj=>hf j (by subst ho;exact hj))),h.2⟩
 |rows z rs=>exact h
 |rx z rs k r=>
  obtain ⟨b,cap,arr,ty,rfl,h1,h2,h3,h4,h0,h5,h6⟩:=h;refine ⟨b,cap,arr,ty,rfl,h1,h2,h3,h4,by grind,h5,λi x hx=>?_⟩;rw [aB] at hx;cases hc:r[i]? with
  |none=>grind
  |some x0=>
   rw [hc] at hx;cases hx;exact (h6 i x0 hc).pL (λj hj=>hf j (by simp only [eZ,aO];grind))
theorem nH (f:Nat→Nat) (x:B):gh (eR f x)=gh x:=by cases x<;>rfl
theorem ka (f:Nat→Nat) (x:B):eR f x = .no↔x = .no:=by cases x<;>simp [eR]
theorem Po {f:Nat→Nat} {x:V} (h:ij x = []):wW f x=x:=by cases x<;>simp [ij] at h<;>rfl
theorem fC {α:Type} {f:α→α} {l:List α} (h:∀x∈l,f x=x):l.map f=l:=by
 induction l with
 |nil=>rfl
 |cons x l ih=>grind
theorem AZ {f:Nat→Nat} {x:V} (h:kI x = []):sk f x=x:=by
 cases x with
 |fc g c=>
  simp only [kI,br] at h;simp only [sk,fC (λx hx=>Po (h x hx))]
 |p | os | q | mp | ov | it=>simp [kI,ij] at h
 |_=>rfl
theorem GJ {f:Nat→Nat} {x:V} (h:jJ x = []):pK f x=x:=by
 cases x with
 |ag c=>
  simp only [jJ,br] at h;simp only [pK,fC (λx hx=>AZ (h x hx))]
 |fc g c=>exact AZ (x:=.fc g c) h
 |p | os | q | mp | ov | it=>simp [jJ,kI,ij] at h
 |_=>rfl
theorem AY {f:Nat→Nat} {x:V} (h:eT x = []):gS f x=x:=by
 cases x with
 |tu c=>
  simp only [eT,br] at h;simp only [gS,fC (λx hx=>GJ (h x hx))]
 |ag c=>exact GJ (x:=.ag c) h
 |fc g c=>exact AZ (x:=.fc g c) h
 |p | os | q | mp | ov | it=>simp [eT,jJ,kI,ij] at h
 |_=>rfl
end pL
def NG (G:Nat→Prop) (w:World) (ρ:List Value) (e:Ending):Out→Prop
 |.ret r=>∃v,e = .returned v∧au G w ρ v r
 |.fg r=>∃v,e = .panicked [{ v:=v,recovered:=false }]∧au G w ρ v r
def eo (P:Program) (f:Nat):Bool:=
 match P.funcs[f]? with
 | some fn=>fn.name != "runtime.NumGoroutine" && fn.body.isSome
 |none=>false
structure uz (P:Program) (f:Nat) (vs:List V) (h:H) (K:Out→H→Prop):Prop where
  ok:eo P f=true
  run:∀(G:Nat→Prop) (w:World) (ρ as:List Value),HR G w ρ h→as.length=vs.length→(∀(i:Nat) (x:V),vs[i]? = some x→au G w ρ (as.getD i undef) x) →
    Calls P f as.toArray w λe w'=>∃(G':Nat→Prop) (ρ':List Value) (h':H) (out:Out),Ok ⟨w,G,ρ,h,[],[]⟩ G' w' ρ' h'∧NG G' w' ρ' e out∧K out h'
def Fw (r:Option Nat):Fence:={ Fence.wide with round:=r }
def rW:D→Value
 |.int k n=>.int k n
 |.bool b=>.bool b
 |.str s=>.string ⟨s.toArray⟩
 |_=>undef
structure zZ (P:Program) (g:Nat) (caps:List V) (hb:H) (xs:List (List D)):Prop where
  ok:eo P g=true
  run:∀(ρ as:List Value) (l:Nat) (J:Nat→World→Prop) (Jx:World→Prop),as.length=caps.length →
    (∀i W W',J i W→gK W W'→J i W')→(∀W W',Jx W→gK W W'→Jx W') →
    (∀i W,J i W→∃G,HR G W ρ hb∧∀(j:Nat) (x:V),caps[j]? = some x→au G W ρ (as.getD j undef) x) →
    (∀(i:Nat) (r:List D) (W1:World),xs[i]? = some r→J i W1→YieldAt (Fw none) 0 P l (r.map rW).toArray W1 λe W2=>(e = .returned (.bool true)∧J (i+1) W2)∨(e = .returned (.bool false)∧Jx W2)) →
    ∀W,J 0 W→CallsIn (Fw none) 0 P g (#[.func (.yield l) #[] #[]]++as.toArray) W λe W'=>(∃v,e = .returned v)∧(J xs.length W'∨Jx W')
def Sat (P:Program) (f:Nat) (vs:List V) (h:H) (K:Out→H→Prop):Prop:=
 uz P f vs h K∨(5000000≤f∧∃(z:Nat) (xs:List (List D)),zZ P (f - 5000000) vs h xs∧K (.ret (.d (.sl z xs))) [])
theorem uz.mono {P:Program} {f:Nat} {vs:List V} {h:H} {K K':Out→H→Prop} (hs:uz P f vs h K) (hk:∀o h,K o h→K' o h):uz P f vs h K':=
 ⟨hs.1,λG w ρ as h1 h2 h3=>(hs.2 G w ρ as h1 h2 h3).mono λ_ _ ⟨G',ρ',h',out,a,b,c⟩=>⟨G',ρ',h',out,a,b,hk _ _ c⟩⟩
theorem Sat.mono {P:Program} {f:Nat} {vs:List V} {h:H} {K K':Out→H→Prop} (hs:Sat P f vs h K) (hk:∀o h,K o h→K' o h):Sat P f vs h K':=
 hs.imp (λh=>h.mono hk) λ⟨h1,z,xs,h2,h3⟩=>⟨h1,z,xs,h2,hk _ _ h3⟩
theorem Sat.fn {P:Program} {f:Nat} {vs:List V} {h:H} {K:KT} (hs:Sat P f vs h K) (hf:f<5000000):uz P f vs h K:=
 hs.resolve_right λh=>absurd h.1 (by omega)
def bK (P:Program) (f:Nat) (vs:List V) (r:V):Prop:=Sat P f vs [] λout h=>out = .ret r∧h = []
theorem bK.use {P:Program} {f:Nat} {vs:List V} {r:V} {K:KT} (hs:bK P f vs r) (hk:K (.ret r) []):Sat P f vs [] K:=
 hs.mono λo h ⟨e1,e2⟩=>by grind
section back
theorem cK {l:List Nat} {i:Nat}:has l i=true↔i∈l:=by
 simp only [has,dR];simp_all
theorem iH {l:List Nat} (h:lu l=true):l.Nodup:=by
 induction l with
 |nil=>grind
 |cons x l ih=>
  simp only [lu,aP,dF] at h;refine cm.2 ⟨λhm=>?_,ih h.2⟩;have:=cK.2 hm
  grind
theorem sy {ids:List Nat} {i:Nat} (h:i∈ids):pos ids i<ids.length:=
 List.findIdx_lt_length_of_exists ⟨i,h,fV i⟩
theorem iA {ids:List Nat} {i:Nat} (h:i∈ids):ids[pos ids i]? = some i:=by
 have hl:=sy h;rw [aA hl];have:=List.findIdx_getElem (p:=Nat.beq i) (w:=hl);exact κ some (kH this).symm
theorem MK {ids:List Nat} (hn:ids.Nodup) {k i:Nat} (h:ids[k]? = some i):pos ids i=k:=by
 have hi:=aJ h;have h1:=iA hi;have hl:=(aC.1 h).1;exact (List.getElem?_inj (sy hi) hn).1 (h1.trans h.symm)
theorem sE {n k i:Nat} {ids:List Nat} (h:ids[k]? = some i):home n ids k=i:=by simp [home,get?_eq,h]
theorem xE {n k:Nat} {ids:List Nat} (h:ids.length≤k):home n ids k=n+k - ids.length:=by simp [home,get?_eq,gp h]
theorem Jo {ids:List Nat} {g:Nat→Nat} {h h':H}:(back ids g h h').length=h.length+(h'.length - ids.length):=by simp [back]
theorem zQ {ids:List Nat} {g:Nat→Nat} {h h':H} {i:Nat} (hi:i∉ids) (hl:i<h.length):(back ids g h h')[i]? = h[i]?:=by
 have hb:has ids i=false:=by
  cases hb:has ids i;rfl
  ·exact absurd (cK.1 hb) hi
 simp only [back];rw [aT (by simp_all)]
 grind
theorem zS {ids:List Nat} {g:Nat→Nat} {h h':H} {i:Nat} (hi:i∈ids) (hl:i<h.length) (hll:ids.length≤h'.length):(back ids g h h')[i]? = (h'[pos ids i]?).map (eR g):=by
 have hb:=cK.2 hi;have hp:=sy hi;simp only [back];rw [aT (by simp_all)];simp [aA hl,hb,get?_eq,aA (show pos ids i<h'.length by omega)]
theorem zR {ids:List Nat} {g:Nat→Nat} {h h':H} {i:Nat} (hl:h.length≤i):(back ids g h h')[i]? = (h'[ids.length+(i - h.length)]?).map (eR g):=by
 simp only [back];rw [aY (by simp_all)];simp_all
def fF (ids:List Nat) (ρ ρ':List Value):List Value:=
 (ρ.zipIdx.map λp=>bif has ids p.2 then (ρ'[pos ids p.2]?).getD undef else p.1)++ρ'.drop ids.length
theorem uP {ids:List Nat} {ρ ρ':List Value}:(fF ids ρ ρ').length=ρ.length+(ρ'.length - ids.length):=by simp [fF]
theorem uN {ids:List Nat} {ρ ρ':List Value} {i:Nat} (hi:i∉ids) (hl:i<ρ.length):(fF ids ρ ρ')[i]? = ρ[i]?:=by
 have hb:has ids i=false:=by
  cases hb:has ids i;rfl
  ·exact absurd (cK.1 hb) hi
 simp only [fF];rw [aT (by simp_all)]
 grind
theorem pF {ids:List Nat} {ρ ρ':List Value} {i:Nat} (hi:i∈ids) (hl:i<ρ.length) (hll:ids.length≤ρ'.length):(fF ids ρ ρ')[i]? = ρ'[pos ids i]?:=by
 have hb:=cK.2 hi;have hp:=sy hi;simp only [fF];rw [aT (by simp_all)]
 grind
theorem uO {ids:List Nat} {ρ ρ':List Value} {i:Nat} (hl:ρ.length≤i):(fF ids ρ ρ')[i]? = ρ'[ids.length+(i - ρ.length)]?:=by
 simp only [fF];rw [aY (by simp_all)];simp_all
theorem zP {ids:List Nat} (hn:ids.Nodup) {ρ ρ':List Value} (hlt:∀i∈ids,i<ρ.length) (hll:ids.length≤ρ'.length) (k:Nat):(fF ids ρ ρ')[home ρ.length ids k]? = ρ'[k]?:=by
 by_cases hk:k<ids.length
 ·have hg:=aA hk;rw [sE hg,pF (cP hk) (hlt _ (cP hk)) hll,MK hn hg]
 ·rw [xE (by omega),uO (by omega)]
  grind
end back
section
variable {P:Program} {E:gL} {n:Nat} {G:Nat→Prop} {ρ:List Value} {t:T} {h:H} {a:Act} {w:World} {o:Oper} {bV:Act→World→Prop} {Q:Exit→Act→World→Prop} {K KP:V→T→H→Prop}
theorem sD:∀(os:List Nat) (t:T) (K:T→Prop),HX os t K=K (os.foldl (λt i=>ju i t) t)
 |[],_,_=>rfl
 |i :: os,t,K=>by simp [ET,jR,sD os]
theorem Lw (os:List Nat) (t:T) (i:Nat):∃f:V→V,gs (os.foldl (λt i=>ju i t) t) i=f (gs t i) ∧
  ∀(G:Nat→Prop) (w:World) (ρ ρ2:List Value) (v:Value) (x:V),au G w ρ v x→(∀j∈os,∃v0,ρ[j]? = some v0∧kN v0=true)→(∀j,j∉os→ρ2[j]? = ρ[j]?)→ρ2.length=ρ.length→au G w ρ2 v (f x):=by
 induction os generalizing t with
 |nil=>
  refine ⟨id,rfl,λG w ρ ρ2 v x hr _ h2 _=>hr.mono (λ_ h=>h) (λ_ _=>rfl) (λj _=>h2 j (by simp))⟩
 |cons j os ih=>
  obtain ⟨f,hf,hr⟩:=ih (ju j t);refine ⟨λx=>f (Aw j x),?_,λG w ρ ρ2 v x hv h1 h2 hl=>?_⟩
  ·rw [cQ,hf,ju,q6 _ rfl]
  ·obtain ⟨v0,hv0,hs0⟩:=h1 j (by simp);have hjl:j<ρ.length:=(aC.1 hv0).1;have hj2:j<ρ2.length:=by omega
   by_cases hjo:j∈os
   ·refine hr G w ρ ρ2 v _ ?_ (λk hk=>h1 k (by grind)) (λk hk=>h2 k (by
     grind)) hl
    have:=hv.tX (v1:=v0) hv0 hs0;rwa [mh hv0] at this
   ·refine hr G w (ρ.set j ρ2[j]) ρ2 v _ (hv.tX hv0 hs0) (λk hk=>?_) (λk hk=>?_) (by grind)
    grind
    grind
theorem HZ (os:List Nat) (h:H) (i:Nat):∃f:B→B,(mP os h)[i]? = (h[i]?).map f∧(∀x,f x = .no↔x = .no)∧(∀x,gh (f x)=gh x) ∧
  ∀(G:Nat→Prop) (w:World) (ρ ρ2:List Value) (v:Value) (x:B),cY G w ρ v x→(∀j∈os,∃v0,ρ[j]? = some v0∧kN v0=true)→(∀j,j∉os→ρ2[j]? = ρ[j]?)→ρ2.length=ρ.length→cY G w ρ2 v (f x):=by
 induction os generalizing h with
 |nil=>
  refine ⟨id,by simp [mP],λx=>Iff.rfl,λx=>rfl,λG w ρ ρ2 v x hr _ h2 _=>?_⟩
  by_cases hx:x = .no
  ·subst hx;trivial
  ·exact hr.mono (λ_ h=>h) (λ_ _=>rfl) (λ_ _=>rfl) (λj _=>h2 j (by simp))
 |cons j os ih=>
  obtain ⟨f,hf,hno,hgf,hr⟩:=ih (h.map (gV j));refine ⟨λx=>f (gV j x),?_,λx=>(hno _).trans (by cases x<;>simp [gV]),λx=>(hgf _).trans (ny _ _),λG w ρ ρ2 v x hv h1 h2 hl=>?_⟩
  ·rw [mP,hf,aB,Option.map_map];rfl
  ·obtain ⟨v0,hv0,hs0⟩:=h1 j (by simp);have hjl:j<ρ.length:=(aC.1 hv0).1;have hj2:j<ρ2.length:=by omega
   by_cases hjo:j∈os
   ·refine hr G w ρ ρ2 v _ ?_ (λk hk=>h1 k (by grind)) (λk hk=>h2 k (by
     grind)) hl
    have:=hv.tX (v1:=v0) hv0 hs0;rwa [mh hv0] at this
   ·refine hr G w (ρ.set j ρ2[j]) ρ2 v _ (hv.tX hv0 hs0) (λk hk=>?_) (λk hk=>?_) (by grind)
    grind
    grind
theorem lO (os:List Nat) (h:H):(mP os h).length=h.length:=by
 induction os generalizing h with
 |nil=>rfl
 |cons j os ih=>rw [mP,ih];simp
theorem HR.part (hr:HR G w ρ h) {ids:List Nat} (hn:ids.Nodup) (hlt:∀i∈ids,i<h.length) (jb:∀i∈ids,∀x,h[i]? = some x→∀j∈eZ x,j∈ids) :
  HR G w (ids.map λi=>(ρ[i]?).getD undef) (ids.map λi=>eR (pos ids) ((get? h i).getD .no)) ∧
  (∀b,own (ids.map λi=>(ρ[i]?).getD undef) (ids.map λi=>eR (pos ids) ((get? h i).getD .no)) b→∃i v x,i∈ids∧ρ[i]? = some v∧h[i]? = some x∧x≠.no∧b∈eU v x):=by
 have hρl:=hr.len;have get:∀(k:Nat) (v:Value) (y:B),(ids.map λi=>(ρ[i]?).getD undef)[k]? = some v→(ids.map λi=>eR (pos ids) ((get? h i).getD .no))[k]? = some y →
   ∃i x,ids[k]? = some i∧i∈ids∧ρ[i]? = some v∧h[i]? = some x∧y=eR (pos ids) x:=by
  intro k v y h1 h2;simp only [aB,aG] at h1 h2;obtain ⟨i,hi,rfl⟩:=h1;obtain ⟨i',hi',rfl⟩:=h2;rw [hi] at hi';cases hi';have hm:=aJ hi;have hl:=hlt i hm;refine ⟨i,h[i],hi,hm,?_,aA hl,?_⟩
  grind
  ·rw [get?_eq,aA hl];rfl
 have hown:∀b,own (ids.map λi=>(ρ[i]?).getD undef) (ids.map λi=>eR (pos ids) ((get? h i).getD .no)) b→∃i v x,i∈ids∧ρ[i]? = some v∧h[i]? = some x∧x≠.no∧b∈eU v x:=by
  rintro b ⟨k,v,y,h1,h2,h3,h4⟩
  obtain ⟨i,x,_,hm,g1,g2,rfl⟩:=get k v y h1 h2;exact ⟨i,v,x,hm,g1,g2,λe=>h3 ((ka _ _).2 e),by rw [eU,nH] at h4;exact h4⟩
 refine ⟨⟨by simp,λk v y h1 h2=>?_,λk k' v v' y y' b h1 h2 h3 h4 h5 h6 h7 h8=>?_,hr.gl,λb hb ho=>?_,hr.sF⟩,hown⟩
 ·obtain ⟨i,x,_,hm,g1,g2,rfl⟩:=get k v y h1 h2;refine (hr.rep i v x g1 g2).pL (λj hj=>?_);have hjm:=jb i hm x g2 j hj;rw [aB,iA hjm]
  grind
 ·obtain ⟨i,x,e1,hm,g1,g2,rfl⟩:=get k v y h1 h2;obtain ⟨i',x',e2,hm',g1',g2',rfl⟩:=get k' v' y' h4 h5;rw [eU,nH] at h7 h8;have:=hr.oB i i' v v' x x' b g1 g2 (λe=>h3 ((ka _ _).2 e)) g1' g2' (λe=>h6 ((ka _ _).2 e)) h7 h8;subst this;exact (List.getElem?_inj (aC.1 e1).1 hn).1 (e1.trans e2.symm)
 ·obtain ⟨i,v,x,_,g1,g2,g3,g4⟩:=hown b ho;exact hr.gd b hb ⟨i,v,x,g1,g2,g3,g4⟩
theorem ak.back (hC:ak E n G ρ t h a w) {ids:List Nat} (hn:ids.Nodup) (hlt:∀i∈ids,i<h.length) (hnn:∀i∈ids,h[i]?≠some B.no) (jb:∀i∈ids,∀x,h[i]? = some x→∀j∈eZ x,j∈ids)
    {G':Nat→Prop} {w':World} {ρ':List Value} {h':H} (hO:Ok ⟨w,G,ids.map λi=>(ρ[i]?).getD undef,ids.map λi=>eR (pos ids) ((get? h i).getD .no),[],[]⟩ G' w' ρ' h') :
    ak E n G' (fF ids ρ ρ') ((rowsOf h ids).foldl (λt i=>ju i t) t) (Vx.back ids (home h.length ids) (mP (rowsOf h ids) h) h') a w' ∧
      ∀(v:Value) (x:V),au G' w' ρ' v x→au G' w' (fF ids ρ ρ') v (gS (home h.length ids) x):=by
  obtain ⟨hP,hown⟩:=hC.ok.hr.part hn hlt jb
  have hr:=hC.ok.hr
  have hρl:=hr.len
  have hll:ids.length≤h'.length:=by simpa using hO.hl
  have hl':=hO.hr.len
  have hltρ:∀i∈ids,i<ρ.length:=λi hi=>by grind
  have hb2:=λk=>zP (ρ := ρ) (ρ':= ρ') hn hltρ (by omega) k
  rw [hρl] at hb2
  generalize hρc:(ids.map λi=>(ρ[i]?).getD undef)=ρc at *
  generalize hhc:(ids.map λi=>eR (pos ids) ((get? h i).getD .no))=hc at *
  have hoc:∀b,own ρc hc b→own ρ h b:=λb hb=>by
    obtain ⟨i,v,x,_,g1,g2,g3,g4⟩:=hown b hb
    exact ⟨i,v,x,g1,g2,g3,g4⟩
  have hold:∀b,b<w.heap.size→¬own ρc hc b→w'.heap[b]? = w.heap[b]?:=hO.frame
  have hGb:∀b,G b→w'.heap[b]? = w.heap[b]?:=λb hb=>hold b (hr.gl b hb) (λho=>hr.gd b hb (hoc b ho))
  have hGG:∀b,G b→G' b:=hO.gm
  have hsz:w.heap.size≤w'.heap.size:=hO.size
  have hoth:∀(i:Nat) (v:Value) (x:B) (b:Nat),i∉ids→ρ[i]? = some v→h[i]? = some x→x≠.no→b∈eU v x→b<w.heap.size∧(¬own ρc hc b)∧¬G' b∧¬own ρ' h' b:=by
    intro i v x b hi g1 g2 g3 g4
    have hb:=hr.lt g1 g2 g3 g4
    have hno:¬own ρc hc b:=λho=>by
      obtain ⟨i',v',x',hm,k1,k2,k3,k4⟩:=hown b ho
      exact hi (by rw [hr.oB i i' v v' x x' b g1 g2 g3 k1 k2 k3 g4 k4];grind)
    refine ⟨hb,hno,λhg=>?_,λho=>?_⟩
    · rcases hO.go b hg with h1 | ⟨_,h1 | h1⟩
      · exact hr.gd b h1 ⟨i,v,x,g1,g2,g3,g4⟩
      grind
      grind
    · rcases hO.oo b ho with h1 | h1
      grind
      grind
  have hos1:∀j∈rowsOf h ids,∃v0,ρ[j]? = some v0∧kN v0=true:=by
    intro j hj
    simp only [rowsOf,dh,get?_eq] at hj
    obtain ⟨hjm,hjr⟩:=hj
    have hjl:=hlt j hjm
    have hx:=aA hjl
    rw [hx] at hjr
    have hv:=aA (hltρ j hjm)
    refine ⟨_,hv,?_⟩
    have hrep:=hr.rep j _ _ hv hx
    simp only [bo] at hjr
    generalize (h:List B)[j]=x at *
    cases x<;>simp [BC] at hjr
    · rcases hrep with ⟨he,_⟩ | ⟨_,_,_,_,he,_⟩<;>rw [he]<;>rfl
    · obtain ⟨_,_,_,_,he,_⟩:=hrep;rw [he];rfl
  have hmid:∀j,j∉rowsOf h ids→((fF ids ρ ρ').take ρ.length)[j]? = ρ[j]?:=by
    intro j hjr
    rw [ao]
    by_cases hjl:j<ρ.length
    · rw [ζ hjl]
      by_cases hj:j∈ids
      · rw [pF hj hjl (by omega)]
        have hv:=aA hjl
        have hx:=aA (hlt j hj)
        have hns:kN ρ[j]=false:=by
          have hrep:=hr.rep j _ _ hv hx
          have hxn:=hnn j hj
          rw [hx] at hxn
          have hrw:j∈rowsOf h ids↔BC ((h:List B)[j]'(hlt j hj))=true:=by
            simp only [rowsOf,dh,get?_eq,hx,bo]
            grind
          generalize (h:List B)[j]'(hlt j hj)=x at *
          cases x with
          |no=>grind
          |nw=>
            have hu:_=undef:=hrep
            rw [hu];rfl
          |cells cs=>obtain ⟨b,arr,ty,he,_⟩:=hrep;rw [he];rfl
          |mp es=>obtain ⟨b,arr,clk,he,_⟩:=hrep;rw [he];rfl
          |dm es=>obtain ⟨b,arr,clk,he,_⟩:=hrep;rw [he];rfl
          |di es r l=>obtain ⟨⟨b,arr,clk,he,_⟩,_⟩:=hrep;rw [he];rfl
          |ms z es out it=>obtain ⟨⟨b,arr,clk,he,_⟩,_⟩:=hrep;rw [he];rfl
          |rows z rs=>exact absurd (hrw.2 rfl) hjr
          |rx z rs k r=>exact absurd (hrw.2 rfl) hjr
        rw [hv]
        refine hO.hand (pos ids j) _ ?_ hns
        show ρc[pos ids j]? = _
        rw [←hρc]
        simp only [aB,iA hj,bE,hv,bo]
      · exact uN hj hjl
    grind
  have htl:((fF ids ρ ρ').take ρ.length).length=ρ.length:=by rw [bC,uP];omega
  have hext:∀i,i<ρ.length→(fF ids ρ ρ')[i]? = ((fF ids ρ ρ').take ρ.length)[i]?:=λi hi=>by grind
  have hren:∀(v:Value) (x:V),au G' w' ρ' v x→au G' w' (fF ids ρ ρ') v (gS (home h.length ids) x):=λv x hv=>hv.pL (λi _=>hb2 i)
  have hbl:(Vx.back ids (home h.length ids) (mP (rowsOf h ids) h) h').length=h.length+(h'.length - ids.length):=by rw [Jo,lO]
  have get:∀(i:Nat) (v:Value) (y:B),(fF ids ρ ρ')[i]? = some v→(Vx.back ids (home h.length ids) (mP (rowsOf h ids) h) h')[i]? = some y →
      (i∉ids∧ρ[i]? = some v∧∃(x:B) (f:B→B),h[i]? = some x∧y=f x∧(f x = .no↔x = .no)∧gh (f x)=gh x∧(cY G' w' ρ v x→cY G' w' (fF ids ρ ρ') v y)) ∨
      (∃k x,home h.length ids k=i∧ρ'[k]? = some v∧h'[k]? = some x∧y=eR (home h.length ids) x):=by
    intro i v y h1 h2
    by_cases hil:i<h.length
    · by_cases hi:i∈ids
      · rw [pF hi (by omega) (by omega)] at h1
        rw [zS hi (by rw [lO];grind) hll] at h2
        simp only [aG] at h2
        obtain ⟨x,hx,rfl⟩:=h2
        exact .inr ⟨pos ids i,x,sE (iA hi),h1,hx,rfl⟩
      · rw [uN hi (by omega)] at h1
        rw [zQ hi (by rw [lO];grind)] at h2
        obtain ⟨f,hf,hno,hgf,hrf⟩:=HZ (rowsOf h ids) h i
        rw [hf] at h2
        simp only [aG] at h2
        obtain ⟨x,hx,rfl⟩:=h2
        refine .inl ⟨hi,h1,x,f,hx,rfl,hno x,hgf x,λhrep=>?_⟩
        have h3:=hrf G' w' ρ _ v x hrep hos1 hmid htl
        by_cases hfx:f x = .no
        · rw [hfx];trivial
        · exact h3.mono (λ_ h=>h) (λ_ _=>rfl) (λ_ _=>rfl) (λj hj=>hext j (by have:=h3.lt j hj;omega))
    · rw [uO (by omega)] at h1
      rw [zR (by rw [lO];omega),lO] at h2
      simp only [aG] at h2
      obtain ⟨x,hx,rfl⟩:=h2
      rw [hρl] at h1
      exact .inr ⟨_,x,by rw [xE (by omega)];omega,h1,hx,rfl⟩
  have hOk:Ok E G' w' (fF ids ρ ρ') (Vx.back ids (home h.length ids) (mP (rowsOf h ids) h) h'):=by
    have hownb:∀b,own (fF ids ρ ρ') (Vx.back ids (home h.length ids) (mP (rowsOf h ids) h) h') b→(own ρ h b∨w.heap.size≤b)∧¬G' b:=by
      rintro b ⟨i,v,y,h1,h2,h3,h4⟩
      rcases get i v y h1 h2 with ⟨hi,g1,x,f,g2,rfl,g4,g6,_⟩ | ⟨k,x,_,g1,g2,rfl⟩
      · rw [eU,g6] at h4
        have hxn:x≠.no:=λe=>h3 (g4.2 e)
        exact ⟨.inl ⟨i,v,x,g1,g2,hxn,h4⟩,(hoth i v x b hi g1 g2 hxn h4).2.2.1⟩
      · rw [eU,nH] at h4
        have hxn:x≠.no:=λe=>h3 ((ka _ _).2 e)
        have ho:own ρ' h' b:=⟨k,v,x,g1,g2,hxn,h4⟩
        refine ⟨?_,λhg=>hO.hr.gd b hg ho⟩
        rcases hO.oo b ho with h5 | h5
        grind
        grind
    refine ⟨⟨by rw [uP,hbl];omega,λi v y h1 h2=>?_,λi i' v v' y y' b h1 h2 h3 h4 h5 h6 h7 h8=>?_,hO.hr.gl,λb hb ho=>(hownb b ho).2 hb,hO.hr.sF⟩,λb hb=>hGG b (hC.ok.gm b hb),λb hb=>?_,λb hb=>?_,
      λb hb hnb=>?_,aV hC.ok.size hsz,hO.os.trans hC.ok.os,hO.tape.trans hC.ok.tape,hO.out.trans hC.ok.out,λi v hv hs=>?_,by rw [hbl];have:=hC.ok.hl;omega,λr hr'=>?_⟩
    · rcases get i v y h1 h2 with ⟨hi,g1,x,f,g2,rfl,g4,_,g5⟩ | ⟨k,x,_,g1,g2,rfl⟩
      · by_cases hxn:x = .no
        · rw [g4.2 hxn];trivial
        · exact g5 ((hr.rep i v x g1 g2).mono hGG hGb (λb hb=>by
            grind) (λ_ _=>rfl))
      · exact (hO.hr.rep k v x g1 g2).pL (λj _=>hb2 j)
    · rcases get i v y h1 h2 with ⟨hi,g1,x,f,g2,rfl,g4,g6,_⟩ | ⟨k,x,e1,g1,g2,rfl⟩<;>rcases get i' v' y' h4 h5 with ⟨hi',k1,x',f',k2,rfl,k4,k6,_⟩ | ⟨k',x',e2,k1,k2,rfl⟩
      · rw [eU,g6] at h7
        rw [eU,k6] at h8
        exact hr.oB i i' v v' x x' b g1 g2 (λe=>h3 (g4.2 e)) k1 k2 (λe=>h6 (k4.2 e)) h7 h8
      · rw [eU,g6] at h7
        rw [eU,nH] at h8
        exact absurd ⟨k',v',x',k1,k2,λe=>h6 ((ka _ _).2 e),h8⟩ (hoth i v x b hi g1 g2 (λe=>h3 (g4.2 e)) h7).2.2.2
      · rw [eU,nH] at h7
        rw [eU,k6] at h8
        exact absurd ⟨k,v,x,g1,g2,λe=>h3 ((ka _ _).2 e),h7⟩ (hoth i' v' x' b hi' k1 k2 (λe=>h6 (k4.2 e)) h8).2.2.2
      · rw [eU,nH] at h7 h8
        have:=hO.hr.oB k k' v v' x x' b g1 g2 (λe=>h3 ((ka _ _).2 e)) k1 k2 (λe=>h6 ((ka _ _).2 e)) h7 h8
        grind
    · rcases hO.go b hb with h1 | ⟨hc,h1 | h1⟩
      · exact (hC.ok.go b h1).imp (λh=>h) λh2=>⟨h2.1.same (hGb b h1),h2.2⟩
      · exact .inr ⟨hc,.inl (aV hC.ok.size h1)⟩
      · exact .inr ⟨hc,hC.ok.oo b (hoc b h1)⟩
    · rcases (hownb b hb).1 with h1 | h1
      · exact hC.ok.oo b h1
      · exact .inl (aV hC.ok.size h1)
    · have hbw:b<w.heap.size:=b9 hb hC.ok.size
      rw [hold b hbw (λho=>?_)]
      · exact hC.ok.frame b hb hnb
      · rcases hC.ok.oo b (hoc b ho) with h1 | h1
        grind
        grind
    · have h0:=hC.ok.hand i v hv hs
      grind
    · obtain ⟨h1,h2,h3⟩:=hC.ok.sC r hr'
      have hlt:=(aQ.1 h1).1
      refine ⟨(hold r hlt λho=>h3 (hoc r ho)).trans h1,λh4=>?_,λh4=>?_⟩
      · rcases hO.go r h4 with h5 | ⟨_,h5 | h5⟩
        grind
        grind
        grind
      grind
  refine ⟨⟨hOk,hC.df,hC.sz,λi=>?_⟩,hren⟩
  obtain ⟨f,hf,hrf⟩:=Lw (rowsOf h ids) t i
  rw [hf]
  have h3:=hrf G' w' ρ _ _ _ ((hC.tm i).mono hGG hGb (λ_ _=>rfl)) hos1 hmid htl
  exact h3.mono (λ_ h=>h) (λ_ _=>rfl) (λj hj=>hext j (by have:=h3.lt j hj;omega))
end
section
variable {P:Program} {E:gL} {n:Nat} {G:Nat→Prop} {ρ:List Value} {t:T} {h:H} {a:Act} {w:World} {o:Oper} {bV:Act→World→Prop} {Q:Exit→Act→World→Prop} {K KP:V→T→H→Prop}
def SE (E:gL) (n:Nat) (a:Act) (KP:V→T→H→Prop) (Q:Exit→Act→World→Prop):Prop:=
 ∀(v':Value) (w':World) (G':Nat→Prop) (ρ':List Value) (t':T) (h':H) (v:V),ak E n G' ρ' t' h' a w'→au G' w' ρ' v' v→KP v t' h'→Q (.panic [{ v:=v',recovered:=false }]) a w'
theorem Mm {v:Value} {x:V} (hv:dL G w ρ v x):dL G w ρ v (clean x):=by
 cases hv with
 |cl a n z rows h=>exact .d h
 |nl z=>exact .d (.xg z)
 |un=>exact .un _
 |ud=>exact .ud
 |d h=>exact .d h
 |p id off b h=>exact .p id off b h
 |e b o off row U h1 h2 h3=>exact .e b o off row U h1 h2 h3
 |os id a n c h=>exact .os id a n c h
 |q id z i off b n c h=>exact .q id z i off b n c h
 |mp id r h=>exact .mp id r h
 |ov id z i _ a n c h hv=>exact .ov id z i _ a n c h hv
 |it id r m h=>exact .it id r m h
theorem xP {v:Value} {x:V} (hv:dI G w ρ v x):dI G w ρ v (clean x):=by
 cases hv with
 |k h=>exact .k (Mm h)
 |fc f u cs caps h0 h1 h2=>
  cases caps with
  |nil=>
   rw [xL h0 (by grind)];exact .k (.d (.fn f))
  |cons c r=>exact .fc f _ cs _ h0 h1 h2
theorem qd {v:Value} {x:V} (hv:au G w ρ v x):au G w ρ v (cH x):=by
 cases hv with
 |o h=>cases h with
  |c h=>
   have:cH x=clean x:=by
    cases h with
    |k h=>cases h<;>rfl
    |fc=>rfl
   rw [this];exact .o (.c (xP h))
  |ag cs vs h1 h2=>
   refine .o (.ag cs _ (by grind) (λi x hx=>?_));rw [aB] at hx;cases hc:vs[i]? with
   |none=>grind
   |some x0=>rw [hc] at hx;cases hx;exact xP (h2 i x0 hc)
 |tu cs vs h1 h2=>exact .tu cs vs h1 h2
theorem sG {K:T→H→List V→Prop}:∀(ids:List Nat) (G:Nat→Prop) (t:T) (h:H) (vs:List V) (U:Nat→Value),ak E n G ρ t h a w→(∀(i:Nat) (x:V),vs[i]? = some x→au G w ρ (U i) x)→tq ids t h vs K →
  ∃(G':Nat→Prop) (t':T) (h':H) (vs':List V),ak E n G' ρ t' h' a w∧vs'.length=vs.length∧(∀(i:Nat) (x:V),vs'[i]? = some x→au G' w ρ (U i) x)∧K t' h' vs':=by
 intro ids
 induction ids with
 |nil=>intro G t h vs U hC hU hk;exact ⟨G,t,h,vs,hC,rfl,hU,hk⟩
 |cons id ids ih=>
  intro G t h vs U hC hU hk;simp only [ve,Ch,get?_eq] at hk;split at hk
  ·rename_i z rs hx;simp only [pC,jR,f_] at hk;obtain ⟨v0,hv0,hd,hC'⟩:=hC.free hx;obtain ⟨G',t',h',vs',g1,g2,g3,g4⟩:=ih _ _ _ _ U hC' (λi x hi=>by
    rw [aB] at hi;cases hc:vs[i]? with
    |none=>grind
    |some x0=>rw [hc] at hi;cases hi;exact (hU i x0 hc).sub hv0 (λb hb=>.inl hb) hd) hk
   grind
  ·rename_i cs hx;split at hk
   ·rename_i ds hD;simp only [pC,jR,f_] at hk;obtain ⟨v0,hv0,hd,hC'⟩:=hC.UG hx hD;obtain ⟨G',t',h',vs',g1,g2,g3,g4⟩:=ih _ _ _ _ U hC' (λi x hi=>by
     rw [aB] at hi;cases hc:vs[i]? with
     |none=>grind
     |some x0=>rw [hc] at hi;cases hi;exact (hU i x0 hc).sub hv0 (λb hb=>.inl hb) hd) hk
    grind
   grind
  grind
theorem xS (hC:ak E n G ρ t h a w) (hn:iQ E n a o K bV) (hp:SE E n a KP Q) {f:Nat} (hlt:f<5000000) {as:Array Value} {vs:List V} (hrun:eo P f=true→(execOp a.eval o).run P w = .ok (.enter f as) w) (hl:as.size=vs.length)
  (hv:∀(i:Nat) (x:V),vs[i]? = some x→au G w ρ (as.getD i undef) x) (hk:qA (Sat P) f vs t h K KP):o.wp P a w bV Q:=by
 have upon:∀{R:Ending→World→Prop},eo P f=true→Calls P f as w R→(∀e w',R e w'→match e with
   |.returned v=>bV (a.put o.dst v) w'
   |.panicked chain=>Q (.panic chain) a w'
   |.outgrown=>False)→o.wp P a w bV Q:=by
  intro R hok hc hR;unfold Oper.wp;rw [hrun hok,Oper.upon_enter];refine hc.mono λe w' hr=>?_
  grind
 have hget:∀i,as.toList.getD i undef=as.getD i undef:=by
  simp_all
 simp only [qA] at hk;split at hk
 ·skip
  rename_i hids;simp only [br] at hids;obtain ⟨hok,hS⟩:=hk.fn hlt;have hC0:=hC.ok.hr;have hr0:HR G w [] []:=⟨rfl,by simp,by simp,hC0.gl,(λb _ ho=>by obtain ⟨_,_,_,h1,_⟩:=ho;grind),hC0.sF⟩
  have hc:=hS G w [] as.toList hr0 (by grind) (λi x hx=>by
   rw [hget];exact (hv i x hx).mono (λ_ h=>h) (λ_ _=>rfl) (λj hj=>by grind))
  rw [cr] at hc;refine upon hok hc ?_
  rintro e w' ⟨G',ρ',h',out,hO,hR,hk⟩
  have hO':Ok ⟨w,G,([]:List Nat).map λi=>(ρ[i]?).getD undef,([]:List Nat).map λi=>eR (pos []) ((get? h i).getD .no),[],[]⟩ G' w' ρ' h':=hO;obtain ⟨hC',hren⟩:=hC.back (ids:=[]) List.nodup_nil (by simp) (by simp) (by simp) hO';have hrows:rowsOf h [] = []:=rfl;rw [hrows] at hC';simp only [List.foldl_nil,mP] at hC';have hbk:Vx.back [] (home h.length []) h h'=h++h'.map (eR (home h.length [])):=by
   simp only [Vx.back,ah,List.drop_zero];congr 1;apply cR;intro i;simp only [aB,lW];cases h[i]?<;>rfl
  have hhome:home h.length []=λi=>h.length+i:=by rfl
  rw [hbk,hhome] at hC';rw [hhome] at hren;cases h' with
  |nil=>
   have hρ':ρ' = []:=bP hO.hr.len;subst hρ';simp only [kC,cV] at hC';have hidr:∀(v:Value) (r:V),au G' w' [] v r→gS (λi=>h.length+i) r=r:=λv r hr=>AY (by
    cases hh:eT r with
    |nil=>rfl
    |cons i l=>have:=hr.lt i (by grind);grind)
   cases out with
   |ret r=>
    obtain ⟨v,rfl,hr⟩:=hR;have:=hren v r hr;rw [hidr v r hr] at this;exact hn v w' G' _ t h r hC' this hk
   |fg r=>
    obtain ⟨v,rfl,hr⟩:=hR;have:=hren v r hr;rw [hidr v r hr] at this;exact hp v w' G' _ t h r hC' this hk
  |cons b h'=>
   simp only [f_] at hk;cases out with
   |ret r=>
    obtain ⟨v,rfl,hr⟩:=hR;exact hn v w' G' _ t _ _ hC' (hren v r hr) hk
   |fg r=>
    obtain ⟨v,rfl,hr⟩:=hR;exact hp v w' G' _ t _ _ hC' (hren v r hr) hk
 ·skip
  rename_i i is hids;simp only [bf,f_,BV] at hk;generalize reach h 100 (i :: is) []=ids at hk;obtain ⟨hchk,hkS⟩:=hk;obtain ⟨hok,hS⟩:=hkS.fn hlt;simp only [FQ,aP] at hchk;obtain ⟨⟨h1,h2⟩,h3⟩:=hchk;have hnd:=iH h1;have hall:∀i∈ids,i<h.length∧h[i]?≠some B.no∧∀x,h[i]? = some x→∀j∈eZ x,j∈ids:=by
   intro i hi;have:=aS.1 h2 i hi;simp only [aP] at this;obtain ⟨⟨g1,g2⟩,g3⟩:=this;have hlt:i<h.length:=by
    simp_all
   have hx:=aA hlt;rw [get?_eq,hx] at g2 g3;simp only [bo] at g2 g3;refine ⟨hlt,?_,?_⟩
   ·rw [hx];intro e;rw [aq e] at g2;cases g2
   ·intro x hx' j hj;rw [hx] at hx';cases hx';exact cK.1 (aS.1 g3 j hj)
  have hvid:∀x∈vs,∀j∈eT x,j∈ids:=λx hx j hj=>by
   have hm:j∈i :: is:=by grind
   exact cK.1 (aS.1 h3 j hm)
  obtain ⟨hP,_⟩:=hC.ok.hr.part hnd (λi hi=>(hall i hi).1) (λi hi=>(hall i hi).2.2);have hρl:=hC.ok.hr.len;have hc:=hS G w _ as.toList hP (by grind) (λk x hx=>by
   rw [aB] at hx;cases hx0:vs[k]? with
   |none=>grind
   |some x0=>
    rw [hx0] at hx;cases hx;rw [hget];refine (hv k x0 hx0).pL (λj hj=>?_);have hjm:=hvid x0 (aJ hx0) j hj;have hjl:=(hall j hjm).1;rw [aB,iA hjm,bE,aA (by omega)];rfl)
  rw [cr] at hc;refine upon hok hc ?_
  rintro e w' ⟨G',ρ',h',out,hO,hR,hk⟩
  simp only [sD] at hk;obtain ⟨hC',hren⟩:=hC.back hnd (λi hi=>(hall i hi).1) (λi hi=>(hall i hi).2.1) (λi hi=>(hall i hi).2.2) hO;cases out with
  |ret r=>
   obtain ⟨v,rfl,hr⟩:=hR;exact hn v w' G' _ _ _ _ hC' (hren v r hr) hk
  |fg r=>
   obtain ⟨v,rfl,hr⟩:=hR;exact hp v w' G' _ _ _ _ hC' (hren v r hr) hk
theorem oG (hC:ak E n G ρ t h a w):∀(xs:List Operand) (ts:List TypeId) (os:List O),args P xs ts=some os→os.length=xs.length∧∀(i:Nat) (x:O),os[i]? = some x→au G w ρ ((xs.map a.eval).getD i undef) (gv t x)
 |[],ts,os,h=>by cases ts<;>(simp only [args] at h;cases h;simp)
 |x :: xs,[],os,h=>by
  simp only [args,aI,aD] at h;obtain ⟨y,hy,ys,hys,he⟩:=h;cases he;obtain ⟨g1,g2⟩:=oG hC xs [] ys hys;refine ⟨by grind,λi z hz=>?_⟩;cases i with
  |zero=>simp at hz;subst hz;simpa using bG hC hy
  |succ i=>grind
 |x :: xs,ty :: ts,os,h=>by
  simp only [args,aI,aD] at h;obtain ⟨y,hy,ys,hys,he⟩:=h;cases he;obtain ⟨g1,g2⟩:=oG hC xs ts ys hys;refine ⟨by grind,λi z hz=>?_⟩;cases i with
  |zero=>simp at hz;subst hz;simpa using bG hC hy
  |succ i=>grind
theorem gC {f:Nat} {as:Array Value} (h:eo P f=true):(callFunc f as).run P w = .ok (.enter f as) w:=by
 unfold eo at h;unfold callFunc;cases hf:P.funcs[f]? with
 |none=>grind
 |some fn=>
  rw [hf] at h;simp only [aP,bne_iff_ne,ne_eq] at h;have hb:¬fn.body=none:=λe=>by grind
  simp_all
def all (w:World) (b:Nat):Prop:=b<w.heap.size
theorem Ms {v:Value} {x:V} {d:D} (hv:dI G w ρ v x) (hd:Mt x=some d):bp G w v d:=by
 cases hv with
 |k hv=>
  cases hv<;>simp only [Mt,reduceCtorEq,aE] at hd
  grind
  grind
  ·subst hd;exact .xg _
 |fc f u cs caps h0 h1 h2=>
  cases caps with
  |cons=>contradiction
  |nil=>
   simp only [Mt,aE] at hd;subst hd;rw [xL h0 (by grind)];exact .fn f
theorem EK {α β:Type} {f:α→Option β}:∀{l:List α} {r:List β},l.mapM f=some r→r.length=l.length∧∀(k:Nat) (y:β),r[k]? = some y→∃x,l[k]? = some x∧f x=some y:=by
 intro l
 induction l with
 |nil=>grind
 |cons x l ih=>
  intro r h;simp only [iU,aI,aD,jK,aE] at h
  grind
theorem DI (hr:HR G w ρ h) {v:Value} {x:V} (hv:dL G w ρ v x):dL (all w) w [] v (uv h x):=by
 have hG:∀b,G b→all w b:=hr.gl;cases hv with
 |un=>exact .un _
 |ud=>exact .ud
 |d h=>exact .d (h.mono hG (λ_ _=>rfl))
 |e b o off row U h1 h2 h3=>exact .e b o off row U (hG b h1) h2 λj x hx=>(h3 j x hx).mono hG (λ_ _=>rfl)
 |cl a n z rows h=>exact .cl a n z rows (h.mono hG (λ_ _=>rfl))
 |nl z=>exact .nl z
 |q=>exact .un _
 |mp=>exact .un _
 |ov=>exact .un _
 |it=>exact .un _
 |os id a n c hρ =>
  simp only [uv,get?_eq];split
  ·rename_i z rs hx;have hB:=hr.rep id _ _ hρ hx;refine .d (hB.data.mono (λb hb=>?_) (λ_ _=>rfl));rcases hb with hb | hb
   grind
   ·exact hr.lt hρ hx (by simp) (bR.2 (.inl hb))
  ·exact .un _
 |p id off b hρ =>
  simp only [uv,get?_eq];split
  ·rename_i cs hx;split
   ·rename_i ds hds;obtain ⟨b',arr,ty,hb,h1,h2,h3⟩:=hr.rep id _ _ hρ hx;simp only [Value.pointer.injEq,aE,Addr.mk.injEq,ω] at hb;obtain ⟨rfl,_⟩:=hb;obtain ⟨m1,m2⟩:=EK hds;have:=dL.e (G:=all w) (w:=w) (ρ :=[]) b 0 off ds (λj=>arr.getD j undef) (aQ.1 h1).1 (λj x hj=>by
     have hl:j<arr.size:=by grind
     rw [dC h1,cF,aF,aN hl];rfl) (λj x hj=>by
     obtain ⟨y,hy,hd⟩:=m2 j x hj;exact (Ms (h3 j y hy) hd).mono hG (λ_ _=>rfl))
    grind
   ·exact .un _
  ·exact .un _
theorem DL (hr:HR G w ρ h) {v:Value} {x:V} (hv:dI G w ρ v x):dI (all w) w [] v (uw h x):=by
 cases hv with
 |k hv=>
  have e:uw h x=uv h x:=by cases hv<;>rfl
  rw [e];exact .k (DI hr hv)
 |fc f u cs caps h0 h1 h2=>
  refine .fc f _ cs _ h0 (by grind) (λi x hx=>?_);rw [aB] at hx;cases hc:caps[i]? with
  |none=>grind
  |some x0=>rw [hc] at hx;cases hx;exact DI hr (h2 i x0 hc)
theorem DK (hr:HR G w ρ h) {v:Value} {x:V} (hv:au G w ρ v x):au (all w) w [] v (rY h x):=by
 cases hv with
 |tu=>exact .k (.un _)
 |o hv=>cases hv with
  |c hv=>
   have e:rY h x=uw h x:=by
    cases hv with
    |k hv=>cases hv<;>rfl
    |fc=>rfl
   rw [e];exact .c (DL hr hv)
  |ag cs vs h1 h2=>
   refine .o (.ag cs _ (by grind) (λi x hx=>?_));rw [aB] at hx;cases hc:vs[i]? with
   |none=>grind
   |some x0=>rw [hc] at hx;cases hx;exact DL hr (h2 i x0 hc)
theorem wO {G':Nat→Prop} {w':World} {v:Value} {d:D} (hv:bp G w v d) (hs:KI d=true):bp G' w' v d:=by
 cases hv<;>simp only [KI,cj] at hs
 ·exact .int _ _
 ·exact .bool _
 ·exact .str _ ‹_›
 ·exact .np
 ·exact .nf
 ·exact .ni
 ·exact .nm
 ·exact .fn _
theorem AT {G':Nat→Prop} {ρ':List Value} {v:Value} {x:V} (hv:au G w ρ v x) (hs:Ph x=true):dM G' w ρ' v x:=by
 cases x<;>simp only [Ph,cj] at hs;exact .c (.k (.d (wO hv.qu hs)))
theorem LD {G':Nat→Prop} {ρ':List Value} {v:Value} {x:V} (hv:au G w ρ v x) (hs:Pg x=true):au G' w ρ' v x:=by
 by_cases hx:∃c,x = .tu c
 ·obtain ⟨c,rfl⟩:=hx;obtain ⟨cs,rfl,h1,h2⟩:=hv.Uh;exact .tu cs c h1 λi x hi=>AT (.o (h2 i x hi)) (aS.1 hs x (aJ hi))
 ·have:Pg x=Ph x:=by cases x<;>first | rfl | exact absurd ⟨_,rfl⟩ hx
  exact .o (AT hv (this ▸ hs))
end
end Go.Vx
