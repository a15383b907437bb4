/- Lemmas. Conditions: none. -/
import Derived.Test.YtjpgfgajkjhonaaGreatDoorQHAG
namespace Go.Vx
section
variable {P:Program} {E:gR} {n:Nat} {G:Nat→Prop} {ρ:List Value} {t:T} {h:H} {a:Act} {w:World} {o:Oper} {b7:Act→World→Prop} {Q:Exit→Act→World→Prop} {K KP:V→T→H→Prop}
def Rn (E:gR) (n:Nat) (a:Act) (KP:V→T→H→Prop) (Q:Exit→Act→World→Prop):Prop:=
 ∀(v':Value) (w':World) (G':Nat→Prop) (ρ':List Value) (t':T) (h':H) (v:V),au E n G' ρ' t' h' a w'→bB G' w' ρ' v' v→KP v t' h'→Q (.panic [{ v:=v',recovered:=false }]) a w'
theorem Mj {v:Value} {x:V} (hv:dV G w ρ v x):dV G w ρ v (clean x):=by
 cases hv with
 |cl a n z rows h=>exact .d h
 |nl z=>exact .d (.yA z)
 |un=>exact .un _
 |ud=>exact .ud
 |d h=>exact .d h
 |p id off b h=>exact .p id off b h
 |e b o off row U h1 h2 h3=>exact .e b o off row U h1 h2 h3
 |os id a n c h=>exact .os id a n c h
 |q id z i off b n c h=>exact .q id z i off b n c h
 |mp id r h=>exact .mp id r h
 |ov id z i _ a n c h hv=>exact .ov id z i _ a n c h hv
 |it id r m h=>exact .it id r m h
theorem x6 {v:Value} {x:V} (hv:dP G w ρ v x):dP G w ρ v (clean x):=by
 cases hv with
 |k h=>exact .k (Mj h)
 |fc f u cs caps h0 h1 h2=>
  cases caps with
  |nil=>
   rw [xX h0 (by simpa using h1)];exact .k (.d (.fn f))
  |cons c r=>exact .fc f _ cs _ h0 h1 h2
theorem qz {v:Value} {x:V} (hv:bB G w ρ v x):bB G w ρ v (cM x):=by
 cases hv with
 |o h=>cases h with
  |c h=>
   have:cM x=clean x:=by
    cases h with
    |k h=>cases h<;>rfl
    |fc=>rfl
   rw [this];exact .o (.c (x6 h))
  |ag cs vs h1 h2=>
   refine .o (.ag cs _ (by simpa using h1) (λi x hx=>?_));rw [aC] at hx;cases hc:vs[i]? with
   |none=>rw [hc] at hx;cases hx
   |some x0=>rw [hc] at hx;cases hx;exact x6 (h2 i x0 hc)
 |tu cs vs h1 h2=>exact .tu cs vs h1 h2
theorem sS {K:T→H→List V→Prop}:∀(ids:List Nat) (G:Nat→Prop) (t:T) (h:H) (vs:List V) (U:Nat→Value),au E n G ρ t h a w→(∀(i:Nat) (x:V),vs[i]? = some x→bB G w ρ (U i) x)→uI ids t h vs K →
  ∃(G':Nat→Prop) (t':T) (h':H) (vs':List V),au E n G' ρ t' h' a w∧vs'.length=vs.length∧(∀(i:Nat) (x:V),vs'[i]? = some x→bB G' w ρ (U i) x)∧K t' h' vs':=by
 intro ids
 induction ids with
 |nil=>intro G t h vs U hC hU hk;exact ⟨G,t,h,vs,hC,rfl,hU,hk⟩
 |cons id ids ih=>
  intro G t h vs U hC hU hk;simp only [vu,DF,get?_eq] at hk;split at hk
  ·rename_i z rs hx;simp only [pK,j2,gE] at hk;obtain ⟨v0,hv0,hd,hC'⟩:=hC.free hx;obtain ⟨G',t',h',vs',g1,g2,g3,g4⟩:=ih _ _ _ _ U hC' (λi x hi=>by
    rw [aC] at hi;cases hc:vs[i]? with
    |none=>rw [hc] at hi;cases hi
    |some x0=>rw [hc] at hi;cases hi;exact (hU i x0 hc).sub hv0 (λb hb=>.inl hb) hd) hk
   exact ⟨G',t',h',vs',g1,by simpa using g2,g3,g4⟩
  ·rename_i cs hx;split at hk
   ·rename_i ds hD;simp only [pK,j2,gE] at hk;obtain ⟨v0,hv0,hd,hC'⟩:=hC.Tl hx hD;obtain ⟨G',t',h',vs',g1,g2,g3,g4⟩:=ih _ _ _ _ U hC' (λi x hi=>by
     rw [aC] at hi;cases hc:vs[i]? with
     |none=>rw [hc] at hi;cases hi
     |some x0=>rw [hc] at hi;cases hi;exact (hU i x0 hc).sub hv0 (λb hb=>.inl hb) hd) hk
    exact ⟨G',t',h',vs',g1,by simpa using g2,g3,g4⟩
   ·exact hk.elim
  ·exact hk.elim
theorem x9 (hC:au E n G ρ t h a w) (hn:iX E n a o K b7) (hp:Rn E n a KP Q) {f:Nat} (hlt:f<5000000) {as:Array Value} {vs:List V} (hrun:fF P f=true→(execOp a.eval o).run P w = .ok (.enter f as) w) (hl:as.size=vs.length)
  (hv:∀(i:Nat) (x:V),vs[i]? = some x→bB G w ρ (as.getD i undef) x) (hk:qO (Sat P) f vs t h K KP):o.wp P a w b7 Q:=by
 have upon:∀{R:Ending→World→Prop},fF P f=true→Calls P f as w R→(∀e w',R e w'→match e with
   |.returned v=>b7 (a.put o.dst v) w'
   |.panicked chain=>Q (.panic chain) a w'
   |.outgrown=>False)→o.wp P a w b7 Q:=by
  intro R hok hc hR;unfold Oper.wp;rw [hrun hok,Oper.upon_enter];refine hc.mono λe w' hr=>?_;have:=hR e w' hr;cases e<;>first | exact this | exact this.elim
 have hget:∀i,as.toList.getD i undef=as.getD i undef:=by
  intro i;rw [aW,bQ,aF]
 simp only [qO] at hk;split at hk
 ·skip
  rename_i hids;simp only [cA] at hids;obtain ⟨hok,hS⟩:=hk.fn hlt;have hC0:=hC.ok.hr;have hr0:HR G w [] []:=⟨rfl,by simp,by simp,hC0.gl,(λb _ ho=>by obtain ⟨_,_,_,h1,_⟩:=ho;simp at h1),hC0.uH⟩
  have hc:=hS G w [] as.toList hr0 (by simpa using hl) (λi x hx=>by
   rw [hget];exact (hv i x hx).mono (λ_ h=>h) (λ_ _=>rfl) (λj hj=>by rw [hids x (aH hx)] at hj;cases hj))
  rw [dC] at hc;refine upon hok hc ?_
  rintro e w' ⟨G',ρ',h',out,hO,hR,hk⟩
  have hO':Ok ⟨w,G,([]:List Nat).map λi=>(ρ[i]?).getD undef,([]:List Nat).map λi=>eb (pos []) ((get? h i).getD .no),[],[]⟩ G' w' ρ' h':=hO;obtain ⟨hC',hren⟩:=hC.back (ids:=[]) n6 (by simp) (by simp) (by simp) hO';have hrows:rowsOf h [] = []:=rfl;rw [hrows] at hC';simp only [List.foldl_nil,mW] at hC';have hbk:Vx.back [] (home h.length []) h h'=h++h'.map (eb (home h.length [])):=by
   simp only [Vx.back,ak,List.drop_zero];congr 1;apply cj;intro i;simp only [aC,ed];cases h[i]?<;>rfl
  have hhome:home h.length []=λi=>h.length+i:=by funext i;simp [home,get?_eq]
  rw [hbk,hhome] at hC';rw [hhome] at hren;cases h' with
  |nil=>
   have hρ':ρ' = []:=br hO.hr.len;subst hρ';simp only [kS,cU] at hC';have hidr:∀(v:Value) (r:V),bB G' w' [] v r→gb (λi=>h.length+i) r=r:=λv r hr=>Ak (by
    cases hh:eR r with
    |nil=>rfl
    |cons i l=>have:=hr.lt i (by rw [hh];simp);simp at this)
   cases out with
   |ret r=>
    obtain ⟨v,rfl,hr⟩:=hR;have:=hren v r hr;rw [hidr v r hr] at this;exact hn v w' G' _ t h r hC' this hk
   |fm r=>
    obtain ⟨v,rfl,hr⟩:=hR;have:=hren v r hr;rw [hidr v r hr] at this;exact hp v w' G' _ t h r hC' this hk
  |cons b h'=>
   simp only [gE] at hk;cases out with
   |ret r=>
    obtain ⟨v,rfl,hr⟩:=hR;exact hn v w' G' _ t _ _ hC' (hren v r hr) hk
   |fm r=>
    obtain ⟨v,rfl,hr⟩:=hR;exact hp v w' G' _ t _ _ hC' (hren v r hr) hk
 ·skip
  rename_i i is hids;simp only [bo,gE,Bk] at hk;generalize reach h 100 (i :: is) []=ids at hk;obtain ⟨hchk,hkS⟩:=hk;obtain ⟨hok,hS⟩:=hkS.fn hlt;simp only [Fg,aP] at hchk;obtain ⟨⟨h1,h2⟩,h3⟩:=hchk;have hnd:=iQ h1;have hall:∀i∈ids,i<h.length∧h[i]?≠some B.no∧∀x,h[i]? = some x→∀j∈et x,j∈ids:=by
   intro i hi;have:=aT.1 h2 i hi;simp only [aP] at this;obtain ⟨⟨g1,g2⟩,g3⟩:=this;have hlt:i<h.length:=by
    exact a_ g1
   have hx:=aB hlt;rw [get?_eq,hx] at g2 g3;simp only [bf] at g2 g3;refine ⟨hlt,?_,?_⟩
   ·rw [hx];intro e;rw [an e] at g2;cases g2
   ·intro x hx' j hj;rw [hx] at hx';cases hx';exact cO.1 (aT.1 g3 j hj)
  have hvid:∀x∈vs,∀j∈eR x,j∈ids:=λx hx j hj=>by
   have hm:j∈i :: is:=by rw [←hids];exact aQ.2 ⟨x,hx,hj⟩
   exact cO.1 (aT.1 h3 j hm)
  obtain ⟨hP,_⟩:=hC.ok.hr.part hnd (λi hi=>(hall i hi).1) (λi hi=>(hall i hi).2.2);have hρl:=hC.ok.hr.len;have hc:=hS G w _ as.toList hP (by simpa using hl) (λk x hx=>by
   rw [aC] at hx;cases hx0:vs[k]? with
   |none=>rw [hx0] at hx;cases hx
   |some x0=>
    rw [hx0] at hx;cases hx;rw [hget];refine (hv k x0 hx0).pT (λj hj=>?_);have hjm:=hvid x0 (aH hx0) j hj;have hjl:=(hall j hjm).1;rw [aC,iO hjm,bA,aB (by omega)];rfl)
  rw [dC] at hc;refine upon hok hc ?_
  rintro e w' ⟨G',ρ',h',out,hO,hR,hk⟩
  simp only [sQ] at hk;obtain ⟨hC',hren⟩:=hC.back hnd (λi hi=>(hall i hi).1) (λi hi=>(hall i hi).2.1) (λi hi=>(hall i hi).2.2) hO;cases out with
  |ret r=>
   obtain ⟨v,rfl,hr⟩:=hR;exact hn v w' G' _ _ _ _ hC' (hren v r hr) hk
  |fm r=>
   obtain ⟨v,rfl,hr⟩:=hR;exact hp v w' G' _ _ _ _ hC' (hren v r hr) hk
theorem oN (hC:au E n G ρ t h a w):∀(xs:List Operand) (ts:List TypeId) (os:List O),args P xs ts=some os→os.length=xs.length∧∀(i:Nat) (x:O),os[i]? = some x→bB G w ρ ((xs.map a.eval).getD i undef) (gv t x)
 |[],ts,os,h=>by cases ts<;>(simp only [args] at h;cases h;simp)
 |x :: xs,[],os,h=>by
  simp only [args,aK,aD] at h;obtain ⟨y,hy,ys,hys,he⟩:=h;cases he;obtain ⟨g1,g2⟩:=oN hC xs [] ys hys;refine ⟨by simp [g1],λi z hz=>?_⟩;cases i with
  |zero=>simp at hz;subst hz;simpa using bJ hC hy
  |succ i=>simpa using g2 i z (by simpa using hz)
 |x :: xs,ty :: ts,os,h=>by
  simp only [args,aK,aD] at h;obtain ⟨y,hy,ys,hys,he⟩:=h;cases he;obtain ⟨g1,g2⟩:=oN hC xs ts ys hys;refine ⟨by simp [g1],λi z hz=>?_⟩;cases i with
  |zero=>simp at hz;subst hz;simpa using bJ hC hy
  |succ i=>simpa using g2 i z (by simpa using hz)
theorem gI {f:Nat} {as:Array Value} (h:fF P f=true):(callFunc f as).run P w = .ok (.enter f as) w:=by
 unfold fF at h;unfold callFunc;cases hf:P.funcs[f]? with
 |none=>rw [hf] at h;cases h
 |some fn=>
  rw [hf] at h;simp only [aP,bne_iff_ne,ne_eq] at h;have hb:¬fn.body=none:=λe=>by rw [e] at h;cases h.2
  simp [hf,h.1,hb]
def all (w:World) (b:Nat):Prop:=b<w.heap.size
theorem Mp {v:Value} {x:V} {d:D} (hv:dP G w ρ v x) (hd:KD x=some d):bw G w v d:=by
 cases hv with
 |k hv=>
  cases hv<;>simp only [KD,reduceCtorEq,aE] at hd
  ·subst hd;assumption
  ·subst hd;assumption
  ·subst hd;exact .yA _
 |fc f u cs caps h0 h1 h2=>
  cases caps with
  |cons=>simp [KD] at hd
  |nil=>
   simp only [KD,aE] at hd;subst hd;rw [xX h0 (by simpa using h1)];exact .fn f
theorem E7 {α β:Type} {f:α→Option β}:∀{l:List α} {r:List β},l.mapM f=some r→r.length=l.length∧∀(k:Nat) (y:β),r[k]? = some y→∃x,l[k]? = some x∧f x=some y:=by
 intro l
 induction l with
 |nil=>intro r h;simp at h;subst h;simp
 |cons x l ih=>
  intro r h;simp only [gJ,aK,aD,jW,aE] at h;obtain ⟨y,hy,ys,hys,rfl⟩:=h;obtain ⟨h1,h2⟩:=ih hys;refine ⟨by simp [h1],λk y' hy'=>?_⟩;cases k with
  |zero=>simp at hy';subst hy';exact ⟨x,rfl,hy⟩
  |succ k=>simpa using h2 k y' (by simpa using hy')
theorem D3 (hr:HR G w ρ h) {v:Value} {x:V} (hv:dV G w ρ v x):dV (all w) w [] v (vF h x):=by
 have hG:∀b,G b→all w b:=hr.gl;cases hv with
 |un=>exact .un _
 |ud=>exact .ud
 |d h=>exact .d (h.mono hG (λ_ _=>rfl))
 |e b o off row U h1 h2 h3=>exact .e b o off row U (hG b h1) h2 λj x hx=>(h3 j x hx).mono hG (λ_ _=>rfl)
 |cl a n z rows h=>exact .cl a n z rows (h.mono hG (λ_ _=>rfl))
 |nl z=>exact .nl z
 |q=>exact .un _
 |mp=>exact .un _
 |ov=>exact .un _
 |it=>exact .un _
 |os id a n c hρ =>
  simp only [vF,get?_eq];split
  ·rename_i z rs hx;have hB:=hr.rep id _ _ hρ hx;refine .d (hB.data.mono (λb hb=>?_) (λ_ _=>rfl));rcases hb with hb | hb
   ·exact hG b hb
   ·exact hr.lt hρ hx (by simp) (bT.2 (.inl hb))
  ·exact .un _
 |p id off b hρ =>
  simp only [vF,get?_eq];split
  ·rename_i cs hx;split
   ·rename_i ds hds;obtain ⟨b',arr,ty,hb,h1,h2,h3⟩:=hr.rep id _ _ hρ hx;simp only [Value.pointer.injEq,aE,Addr.mk.injEq,ω] at hb;obtain ⟨rfl,_⟩:=hb;obtain ⟨m1,m2⟩:=E7 hds;have:=dV.e (G:=all w) (w:=w) (ρ :=[]) b 0 off ds (λj=>arr.getD j undef) (aN.1 h1).1 (λj x hj=>by
     have hl:j<arr.size:=by rw [h2,←m1];exact (aA.1 hj).1
     rw [dO h1,bh,aF,aJ hl];rfl) (λj x hj=>by
     obtain ⟨y,hy,hd⟩:=m2 j x hj;exact (Mp (h3 j y hy) hd).mono hG (λ_ _=>rfl))
    simpa using this
   ·exact .un _
  ·exact .un _
theorem D6 (hr:HR G w ρ h) {v:Value} {x:V} (hv:dP G w ρ v x):dP (all w) w [] v (vG h x):=by
 cases hv with
 |k hv=>
  have e:vG h x=vF h x:=by cases hv<;>rfl
  rw [e];exact .k (D3 hr hv)
 |fc f u cs caps h0 h1 h2=>
  refine .fc f _ cs _ h0 (by simpa using h1) (λi x hx=>?_);rw [aC] at hx;cases hc:caps[i]? with
  |none=>rw [hc] at hx;cases hx
  |some x0=>rw [hc] at hx;cases hx;exact D3 hr (h2 i x0 hc)
theorem D5 (hr:HR G w ρ h) {v:Value} {x:V} (hv:bB G w ρ v x):bB (all w) w [] v (rv h x):=by
 cases hv with
 |tu=>exact .k (.un _)
 |o hv=>cases hv with
  |c hv=>
   have e:rv h x=vG h x:=by
    cases hv with
    |k hv=>cases hv<;>rfl
    |fc=>rfl
   rw [e];exact .c (D6 hr hv)
  |ag cs vs h1 h2=>
   refine .o (.ag cs _ (by simpa using h1) (λi x hx=>?_));rw [aC] at hx;cases hc:vs[i]? with
   |none=>rw [hc] at hx;cases hx
   |some x0=>rw [hc] at hx;cases hx;exact D6 hr (h2 i x0 hc)
theorem wg {G':Nat→Prop} {w':World} {v:Value} {d:D} (hv:bw G w v d) (hs:KX d=true):bw G' w' v d:=by
 cases hv<;>simp only [KX,cp] at hs
 ·exact .int _ _
 ·exact .bool _
 ·exact .str _ ‹_›
 ·exact .np
 ·exact .nf
 ·exact .ni
 ·exact .nm
 ·exact .fn _
theorem Ag {G':Nat→Prop} {ρ':List Value} {v:Value} {x:V} (hv:bB G w ρ v x) (hs:P9 x=true):dW G' w ρ' v x:=by
 cases x<;>simp only [P9,cp] at hs;exact .c (.k (.d (wg hv.ra hs)))
theorem LG {G':Nat→Prop} {ρ':List Value} {v:Value} {x:V} (hv:bB G w ρ v x) (hs:P8 x=true):bB G' w ρ' v x:=by
 by_cases hx:∃c,x = .tu c
 ·obtain ⟨c,rfl⟩:=hx;obtain ⟨cs,rfl,h1,h2⟩:=hv.UY;exact .tu cs c h1 λi x hi=>Ag (.o (h2 i x hi)) (aT.1 hs x (aH hi))
 ·have:P8 x=P9 x:=by cases x<;>first | rfl | exact absurd ⟨_,rfl⟩ hx
  exact .o (Ag hv (this ▸ hs))
end
section
variable {P:Program} {E:gR} {n:Nat} {G:Nat→Prop} {ρ:List Value} {t:T} {h:H} {a:Act} {w w':World} {o:Oper} {b7:Act→World→Prop} {Q:Exit→Act→World→Prop} {K KP:V→T→H→Prop}
theorem LF {G':Nat→Prop} {ρ':List Value} {v:Value} {x:B} (hv:cm G w ρ v x) (hs:yW x=true):cm G' w ρ' v x:=by
 cases x<;>simp only [yW,cp] at hs;rename_i z rs;simp only [aT] at hs;rcases hv with hv | ⟨b,cap,arr,ty,h0,h1,h2,h3,h4,h5⟩
 ·exact .inl hv
 ·exact .inr ⟨b,cap,arr,ty,h0,h1,h2,h3,h4,λi row hr=>⟨(h5 i row hr).1,λj x hx=>wg ((h5 i row hr).2 j x hx) (hs row (aH hr) x (aH hx))⟩⟩
theorem LD {G':Nat→Prop} {ρ':List Value} {f:Nat→Nat} {v:Value} {x:V} (hv:bB G w ρ v x) (hs:ED x=true) (hf:∀i∈eR x,ρ'[f i]? = ρ[i]?):bB G' w ρ' v (gb f x):=by
 have one:∀{v:Value} {x:V},dW G w ρ v x→GW x=true→(∀i∈jC x,ρ'[f i]? = ρ[i]?)→dW G' w ρ' v (pS f x):=by
  intro v x hv hs hf;cases x<;>simp only [GW,P9,cp] at hs
  ·exact Ag (.o hv) hs
  ·cases hv with
   |c hv=>cases hv with
    |k hv=>cases hv with
     |os id a n c h=>exact .c (.k (.os _ a n c ((hf _ (aM.2 rfl)).trans h)))
 by_cases hx:∃c,x = .tu c
 ·obtain ⟨c,rfl⟩:=hx;obtain ⟨cs,rfl,h1,h2⟩:=hv.UY;refine .tu cs _ (by simpa using h1) λi x hi=>?_;rw [aC,aG] at hi;obtain ⟨x0,hi,rfl⟩:=hi;exact one (h2 i x0 hi) (aT.1 hs x0 (aH hi)) λj hj=>hf j (by simp only [eR,aQ];exact ⟨x0,aH hi,hj⟩)
 ·have e1:ED x=GW x:=by cases x<;>first | rfl | exact absurd ⟨_,rfl⟩ hx
  have e2:gb f x=pS f x:=by cases x<;>first | rfl | exact absurd ⟨_,rfl⟩ hx
  have e3:eR x=jC x:=by cases x<;>first | rfl | exact absurd ⟨_,rfl⟩ hx
  rw [e2];cases hv with
  |o hv=>exact .o (one hv (e1 ▸ hs) (e3 ▸ hf))
  |tu=>exact absurd ⟨_,rfl⟩ hx
theorem au.SW (hC:au E n G ρ t h a w) (hg:gY w w') {ρ1:List Value} {ns:List B} (hl:ρ1.length=ns.length) (rep:∀(k:Nat) (v:Value) (x:B),ρ1[k]? = some v→ns[k]? = some x→cm G w' (ρ++ρ1) v x)
  (fresh:∀b,own ρ1 ns b→w.heap.size≤b) (nW:∀(i j:Nat) (v u:Value) (x y:B) (b:Nat),ρ1[i]? = some v→ns[i]? = some x→x≠.no→ρ1[j]? = some u→ns[j]? = some y→y≠.no→b∈e9 v x→b∈e9 u y→i=j) :
  au E n G (ρ++ρ1) t (h++ns) a w':=by
 have hO:=hC.ok;have hr:=hO.hr;have hpre:∀i,i<ρ.length→(ρ++ρ1)[i]? = ρ[i]?:=λi hi=>aO hi;have hw:∀b,G b→w'.heap[b]? = w.heap[b]?:=λb hb=>hg.h_ b (hr.gl b hb);have get:∀(i:Nat) (v:Value) (y:B),(ρ++ρ1)[i]? = some v→(h++ns)[i]? = some y→(ρ[i]? = some v∧h[i]? = some y)∨∃k,i=h.length+k∧ρ1[k]? = some v∧ns[k]? = some y:=by
  intro i v y h1 h2
  by_cases hi:i<h.length
  ·rw [hpre i (by rw [hr.len];exact hi)] at h1;rw [aO hi] at h2;exact .inl ⟨h1,h2⟩
  ·rw [aY (by rw [hr.len];omega),hr.len] at h1;rw [aY (by omega)] at h2;exact .inr ⟨i - h.length,by omega,h1,h2⟩
 have hown:∀b,own (ρ++ρ1) (h++ns) b→own ρ h b∨w.heap.size≤b:=by
  rintro b ⟨i,v,y,h1,h2,h3,h4⟩
  rcases get i v y h1 h2 with ⟨g1,g2⟩ | ⟨k,_,g1,g2⟩
  ·exact .inl ⟨i,v,y,g1,g2,h3,h4⟩
  ·exact .inr (fresh b ⟨k,v,y,g1,g2,h3,h4⟩)
 refine ⟨⟨⟨by simp [hr.len,hl],λi v y h1 h2=>?_,λi j v u x y b h1 h2 h3 h4 h5 h6 h7 h8=>?_,λb hb=>bt (hr.gl b hb) hg.size,λb hb ho=>?_,hr.uH.mono (λ_ h=>h) hw⟩,hO.gm,λb hb=>(hO.go b hb).imp (λh=>h) λh2=>⟨h2.1.same (hw b hb),h2.2⟩,λb hb=>?_,
  λb hb hn=>(hg.h_ b (bt hb hO.size)).trans (hO.frame b hb hn),aZ hO.size hg.size,hg.os.trans hO.os,hg.tape.trans hO.tape,hg.out.trans hO.out,λid v hv hs=>?_,by have:=hO.hl;simp;omega,λr hr'=>?_⟩,hC.df,hC.sz,
  λi=>(hC.tm i).mono (λ_ h=>h) hw (λj hj=>hpre j ((hC.tm i).lt j hj))⟩
 ·rcases get i v y h1 h2 with ⟨g1,g2⟩ | ⟨k,_,g1,g2⟩
  ·have hrep:=hr.rep i v y g1 g2
   by_cases hy:y = .no
   ·subst hy;trivial
   ·exact hrep.mono (λ_ h=>h) hw (λb hb=>hg.h_ b (hr.lt g1 g2 hy hb)) (λj hj=>hpre j (hrep.lt j hj))
  ·exact rep k v y g1 g2
 ·rcases get i v x h1 h2 with ⟨g1,g2⟩ | ⟨k,rfl,g1,g2⟩<;>rcases get j u y h4 h5 with ⟨k1,k2⟩ | ⟨k',rfl,k1,k2⟩
  ·exact hr.nW i j v u x y b g1 g2 h3 k1 k2 h6 h7 h8
  ·have:=hr.lt g1 g2 h3 h7;have:=fresh b ⟨k',u,y,k1,k2,h6,h8⟩;omega
  ·have:=hr.lt k1 k2 h6 h8;have:=fresh b ⟨k,v,x,g1,g2,h3,h7⟩;omega
  ·rw [nW k k' v u x y b g1 g2 h3 k1 k2 h6 h7 h8]
 ·rcases hown b ho with h1 | h1
  ·exact hr.gd b hb h1
  ·have:=hr.gl b hb;omega
 ·rcases hown b hb with h1 | h1
  ·exact hO.oo b h1
  ·exact .inl (aZ hO.size h1)
 ·have:=hO.hand id v hv hs;rw [hpre id (aA.1 this).1];exact this
 ·obtain ⟨h1,h2,h3⟩:=hO.sN r hr';have hlt:=(aN.1 h1).1;refine ⟨(hg.h_ r hlt).trans h1,h2,λh4=>?_⟩;rcases hown r h4 with h5 | h5
  ·exact h3 h5
  ·omega
theorem zN (as:Array Value) (i:Nat):as.toList.getD i undef=as.getD i undef:=by
 rw [aW,bQ,aF]
theorem Ea (hC:au E n G ρ t h a w) {f:Nat} (hlt:f<5000000) {as:Array Value} {vs:List V} (hrun:fF P f=true→(execOp a.eval o).run P w = .ok (.enter f as) w) (hl:as.size=vs.length)
  (hv:∀(i:Nat) (x:V),vs[i]? = some x→bB G w ρ (as.getD i undef) x) {r:V} {ns:List B} (hS:Sat P f (vs.map (rv h)) [] λout h'=>out = .ret r∧h'=ns) (hns:ns.all yW=true) (hr:ED r=true)
  (hnx:∀(v:Value) (w':World) (ρ':List Value),au E n G ρ' t (h++ns) a w'→bB G w' ρ' v (gb (λk=>h.length+k) r)→b7 (a.put o.dst v) w'):o.wp P a w b7 Q:=by
 obtain ⟨hok,hS⟩:=hS.fn hlt;have hr0:HR (all w) w [] []:=⟨rfl,by simp,by simp,λ_ h=>h,(λb _ ho=>by obtain ⟨_,_,_,h1,_⟩:=ho;simp at h1),hC.ok.hr.uH.mono (λb hb=>hC.ok.hr.gl b hb) (λ_ _=>rfl)⟩
 have hc:=hS (all w) w [] as.toList hr0 (by simpa using hl) (λi x hx=>by
  rw [zN];rw [aC] at hx;cases hc:vs[i]? with
  |none=>rw [hc] at hx;cases hx
  |some x0=>rw [hc] at hx;cases hx;exact D5 hC.ok.hr (hv i x0 hc))
 rw [dC] at hc;unfold Oper.wp;rw [hrun hok,Oper.upon_enter];refine hc.mono λe w' hr'=>?_;obtain ⟨G',ρ1,h',out,hO,hR,rfl,rfl⟩:=hr';obtain ⟨v,rfl,hv'⟩:=hR;have hno:∀b,¬own ([]:List Value) ([]:H) b:=λb ho=>by obtain ⟨_,_,_,h1,_⟩:=ho;simp at h1
 have hg:gY w w':=⟨hO.size,λb hb=>hO.frame b hb (hno b),hO.os,hO.tape,hO.out⟩
 have hC':=hC.SW hg (ρ1:= ρ1) hO.hr.len (λk v x g1 g2=>LF (hO.hr.rep k v x g1 g2) (aT.1 hns x (aH g2))) (λb hb=>(hO.oo b hb).resolve_right (hno b)) hO.hr.nW;refine hnx v w' _ hC' (LD hv' hr λi hi=>?_);rw [aY (by rw [hC.ok.hr.len];omega),hC.ok.hr.len];congr 1;omega
def gone (ids:List Nat) (h:H):H:=h.zipIdx.map λp=>bif has ids p.2 then .no else p.1
theorem lZ (ids:List Nat) (h:H):(gone ids h).length=h.length:=by simp [gone]
theorem nQ {ids:List Nat} {h:H} {i:Nat}:(gone ids h)[i]? = if i∈ids then (h[i]?).map λ_=>.no else h[i]?:=by
 simp only [gone,aC,ed];cases h[i]? with
 |none=>simp
 |some x=>
  simp only [bA,bh];split
  ·rename_i hi;rw [cO.2 hi];rfl
  ·rename_i hi;have:has ids i=false:=by
    rw [o7];exact λh=>hi (cO.1 h)
   rw [this];rfl
theorem Du (hC:au E n G ρ t h a w) {f:Nat} (hlt:f<5000000) {as:Array Value} {vs:List V} (hrun:fF P f=true→(execOp a.eval o).run P w = .ok (.enter f as) w) (hl:as.size=vs.length)
  (hv:∀(i:Nat) (x:V),vs[i]? = some x→bB G w ρ (as.getD i undef) x) {ids:List Nat} (hids:∀x∈vs,∀j∈eR x,j∈ids) (hnd:ids.Nodup) (hrw:∀i∈ids,∃z rs,h[i]? = some (.rows z rs)) {r:V} {ns:List B}
  (hS:Sat P f (vs.map (gb (pos ids))) (ids.map λi=>eb (pos ids) ((get? h i).getD .no)) λout h'=>out = .ret r∧h'=List.replicate ids.length .no++ns)
  (hns:∀b∈ns,∀k∈et b,ids.length≤k) (hr:∀k∈eR r,ids.length≤k)
  (hnx:∀(v:Value) (w':World) (G':Nat→Prop) (ρ':List Value),au E n G' ρ' t (gone ids h++ns.map (eb λk=>h.length+k - ids.length)) a w'→bB G' w' ρ' v (gb (λk=>h.length+k - ids.length) r)→b7 (a.put o.dst v) w'):o.wp P a w b7 Q:=by
 obtain ⟨hok,hS⟩:=hS.fn hlt;have hlts:∀i∈ids,i<h.length:=λi hi=>by obtain ⟨z,rs,e⟩:=hrw i hi;exact (aA.1 e).1
 have ib:∀i∈ids,∀x,h[i]? = some x→∀j∈et x,j∈ids:=λi hi x hx j hj=>by
  obtain ⟨z,rs,e⟩:=hrw i hi;rw [e] at hx;cases hx;cases hj
 obtain ⟨hP,hown⟩:=hC.ok.hr.part hnd hlts ib;have hr0:=hC.ok.hr;have hρl:=hr0.len;have hc:=hS G w _ as.toList hP (by simpa using hl) (λk x hx=>by
  rw [aC] at hx;cases hx0:vs[k]? with
  |none=>rw [hx0] at hx;cases hx
  |some x0=>
   rw [hx0] at hx;cases hx;rw [zN];refine (hv k x0 hx0).pT (λj hj=>?_);have hjm:=hids x0 (aH hx0) j hj;have hjl:=hlts j hjm;rw [aC,iO hjm,bA,aB (by omega)];rfl)
 rw [dC] at hc;unfold Oper.wp;rw [hrun hok,Oper.upon_enter];refine hc.mono λe w' hr'=>?_;obtain ⟨G',ρ',h',out,hO,hR,rfl,rfl⟩:=hr';obtain ⟨v,rfl,hv'⟩:=hR;generalize (ids.map λi=>(ρ[i]?).getD undef)=ρc at *;generalize (ids.map λi=>eb (pos ids) ((get? h i).getD .no))=hB at *;have hoc:∀b,own ρc hB b→own ρ h b:=λb hb=>by
  obtain ⟨i,v,x,_,g1,g2,g3,g4⟩:=hown b hb;exact ⟨i,v,x,g1,g2,g3,g4⟩
 have hold:∀b,b<w.heap.size→¬own ρc hB b→w'.heap[b]? = w.heap[b]?:=hO.frame;have hGb:∀b,G b→w'.heap[b]? = w.heap[b]?:=λb hb=>hold b (hr0.gl b hb) (λho=>hr0.gd b hb (hoc b ho));have hsz:w.heap.size≤w'.heap.size:=hO.size;have hoth:∀(i:Nat) (v:Value) (x:B) (b:Nat),i∉ids→ρ[i]? = some v→h[i]? = some x→x≠.no→b∈e9 v x→b<w.heap.size∧(¬own ρc hB b)∧¬G' b∧¬own ρ' (List.replicate ids.length .no++ns) b:=by
  intro i v x b hi g1 g2 g3 g4;have hb:=hr0.lt g1 g2 g3 g4;have hno:¬own ρc hB b:=λho=>by
   obtain ⟨i',v',x',hm,k1,k2,k3,k4⟩:=hown b ho;exact hi (by rw [hr0.nW i i' v v' x x' b g1 g2 g3 k1 k2 k3 g4 k4];exact hm)
  refine ⟨hb,hno,λhg=>?_,λho=>?_⟩
  ·rcases hO.go b hg with h1 | ⟨_,h1 | h1⟩
   ·exact hr0.gd b h1 ⟨i,v,x,g1,g2,g3,g4⟩
   ·exact absurd h1 (by show ¬w.heap.size≤b;omega)
   ·exact hno h1
  ·rcases hO.oo b ho with h1 | h1
   ·exact absurd h1 (by show ¬w.heap.size≤b;omega)
   ·exact hno h1
 have hlen:=hO.hr.len;rw [aL,List.length_replicate] at hlen;have hpre:∀i,i<ρ.length→(ρ++ρ'.drop ids.length)[i]? = ρ[i]?:=λi hi=>aO hi;have hren:∀k,ids.length≤k→(ρ++ρ'.drop ids.length)[h.length+k - ids.length]? = ρ'[k]?:=λk hk=>by
  rw [aY (by omega),aw];congr 1;omega
 have get:∀(i:Nat) (v:Value) (y:B),(ρ++ρ'.drop ids.length)[i]? = some v→(gone ids h++ns.map (eb λk=>h.length+k - ids.length))[i]? = some y→y≠.no →
   (i∉ids∧ρ[i]? = some v∧h[i]? = some y)∨∃k x,i=h.length+k∧ρ'[ids.length+k]? = some v∧ns[k]? = some x∧(List.replicate ids.length B.no++ns)[ids.length+k]? = some x∧y=eb (λk=>h.length+k - ids.length) x:=by
  intro i v y h1 h2 h3
  by_cases hi:i<h.length
  ·rw [hpre i (by rw [hρl];exact hi)] at h1;rw [aO (by rw [lZ];exact hi),nQ] at h2;split at h2
   ·rw [aG] at h2;obtain ⟨_,_,rfl⟩:=h2;exact absurd rfl h3
   ·exact .inl ⟨‹_›,h1,h2⟩
  ·rw [aY (by omega),aw,hρl] at h1;rw [aY (by rw [lZ];omega),lZ,aC,aG] at h2;obtain ⟨x,hx,rfl⟩:=h2;refine .inr ⟨i - h.length,x,by omega,h1,hx,?_,rfl⟩;rw [aY (by simp),List.length_replicate,j9];exact hx
 have hnb:∀(k:Nat) (x:B) {v:Value} {b:Nat},eb (λk=>h.length+k - ids.length) x≠.no→b∈e9 v (eb (λk=>h.length+k - ids.length) x)→x≠.no∧b∈e9 v x:=λk x v b h1 h2=>⟨λe=>h1 ((k_ _ _).2 e),by rw [e9,nR] at h2;exact h2⟩
 have hownb:∀b,own (ρ++ρ'.drop ids.length) (gone ids h++ns.map (eb λk=>h.length+k - ids.length)) b→(own ρ h b∨w.heap.size≤b)∧¬G' b:=by
  rintro b ⟨i,v,y,h1,h2,h3,h4⟩
  rcases get i v y h1 h2 h3 with ⟨g0,g1,g2⟩ | ⟨k,x,rfl,g1,_,g2,rfl⟩
  ·exact ⟨.inl ⟨i,v,y,g1,g2,h3,h4⟩,(hoth i v y b g0 g1 g2 h3 h4).2.2.1⟩
  ·obtain ⟨x1,x2⟩:=hnb k x h3 h4;have ho:own ρ' (List.replicate ids.length .no++ns) b:=⟨_,v,x,g1,g2,x1,x2⟩
   refine ⟨?_,λhg=>hO.hr.gd b hg ho⟩;rcases hO.oo b ho with h5 | h5
   ·exact .inr h5
   ·exact .inl (hoc b h5)
 have hO2:=hC.ok;refine hnx v w' G' _ ⟨⟨⟨by rw [aL,aL,lZ,aI,cE];omega,λi v y h1 h2=>?_,λi j v u x y b h1 h2 h3 h4 h5 h6 h7 h8=>?_,hO.hr.gl,λb hb ho=>(hownb b ho).2 hb,hO.hr.uH⟩,λb hb=>hO.gm b (hO2.gm b hb),λb hb=>?_,λb hb=>?_,
   λb hb hnb=>?_,aZ hO2.size hsz,hO.os.trans hO2.os,hO.tape.trans hO2.tape,hO.out.trans hO2.out,λi v hv hs=>?_,by rw [aL,lZ];have:=hO2.hl;omega,λq hq=>?_⟩,hC.df,hC.sz,λi=>?_⟩ ?_
 ·by_cases hy:y = .no
  ·subst hy;trivial
  ·rcases get i v y h1 h2 hy with ⟨g0,g1,g2⟩ | ⟨k,x,rfl,g1,g3,g2,rfl⟩
   ·have hrep:=hr0.rep i v y g1 g2;exact hrep.mono hO.gm hGb (λb hb=>by
    obtain ⟨e1,e2,_⟩:=hoth i v y b g0 g1 g2 hy hb;exact hold b e1 e2) (λj hj=>hpre j (hrep.lt j hj))
   ·exact (hO.hr.rep _ v x g1 g2).pT λj hj=>hren j (hns x (aH g3) j hj)
 ·rcases get i v x h1 h2 h3 with ⟨g0,g1,g2⟩ | ⟨k,x',rfl,g1,_,g2,rfl⟩<;>rcases get j u y h4 h5 h6 with ⟨k0,k1,k2⟩ | ⟨k',y',rfl,k1,_,k2,rfl⟩
  ·exact hr0.nW i j v u x y b g1 g2 h3 k1 k2 h6 h7 h8
  ·obtain ⟨y1,y2⟩:=hnb k' y' h6 h8;exact absurd ⟨_,u,y',k1,k2,y1,y2⟩ (hoth i v x b g0 g1 g2 h3 h7).2.2.2
  ·obtain ⟨x1,x2⟩:=hnb k x' h3 h7;exact absurd ⟨_,v,x',g1,g2,x1,x2⟩ (hoth j u y b k0 k1 k2 h6 h8).2.2.2
  ·obtain ⟨x1,x2⟩:=hnb k x' h3 h7;obtain ⟨y1,y2⟩:=hnb k' y' h6 h8;have:=hO.hr.nW _ _ v u x' y' b g1 g2 x1 k1 k2 y1 x2 y2;omega
 ·rcases hO.go b hb with h1 | ⟨hc,h1 | h1⟩
  ·exact (hO2.go b h1).imp (λh=>h) λh2=>⟨h2.1.same (hGb b h1),h2.2⟩
  ·exact .inr ⟨hc,.inl (aZ hO2.size h1)⟩
  ·exact .inr ⟨hc,hO2.oo b (hoc b h1)⟩
 ·rcases (hownb b hb).1 with h1 | h1
  ·exact hO2.oo b h1
  ·exact .inl (aZ hO2.size h1)
 ·rw [hold b (bt hb hO2.size) (λho=>?_)]
  ·exact hO2.frame b hb hnb
  ·rcases hO2.oo b (hoc b ho) with h1 | h1
   ·omega
   ·exact hnb h1
 ·have h0:=hO2.hand i v hv hs;rw [hpre i (aA.1 h0).1];exact h0
 ·obtain ⟨h1,h2,h3⟩:=hO2.sN q hq;have hlt:=(aN.1 h1).1;refine ⟨(hold q hlt λho=>h3 (hoc q ho)).trans h1,λh4=>?_,λh4=>?_⟩
  ·rcases hO.go q h4 with h5 | ⟨_,h5 | h5⟩
   ·exact h2 h5
   ·exact absurd h5 (by show ¬w.heap.size≤q;omega)
   ·exact h3 (hoc q h5)
  ·rcases (hownb q h4).1 with h5 | h5
   ·exact h3 h5
   ·omega
 ·exact (hC.tm i).mono hO.gm hGb (λj hj=>hpre j ((hC.tm i).lt j hj))
 ·exact hv'.pT λj hj=>hren j (hr j hj)
theorem qG (hC:au E n G ρ t h a w) (hn:iX E n a o K b7) (hp:Rn E n a KP Q) {f:Nat} (hlt:f<5000000) {as:Array Value} {vs:List V} (hrun:fF P f=true→(execOp a.eval o).run P w = .ok (.enter f as) w) (hl:as.size=vs.length)
  (hv:∀(i:Nat) (x:V),vs[i]? = some x→bB G w ρ (as.getD i undef) x) (hk:qH (Sat P) f vs t h K KP):o.wp P a w b7 Q:=by
 unfold qH at hk;split at hk
 ·exact x9 hC hn hp hlt hrun hl hv hk
 ·rcases hk with ⟨r,hkS,hs,hk⟩ | hk
  ·obtain ⟨hok,hS⟩:=hkS.fn hlt;have hr0:HR (all w) w [] []:=⟨rfl,by simp,by simp,λ_ h=>h,(λb _ ho=>by obtain ⟨_,_,_,h1,_⟩:=ho;simp at h1),hC.ok.hr.uH.mono (λb hb=>hC.ok.hr.gl b hb) (λ_ _=>rfl)⟩
   have hget:∀i,as.toList.getD i undef=as.getD i undef:=by
    intro i;rw [aW,bQ,aF]
   have hc:=hS (all w) w [] as.toList hr0 (by simpa using hl) (λi x hx=>by
    rw [hget];rw [aC] at hx;cases hc:vs[i]? with
    |none=>rw [hc] at hx;cases hx
    |some x0=>rw [hc] at hx;cases hx;exact D5 hC.ok.hr (hv i x0 hc))
   rw [dC] at hc;unfold Oper.wp;rw [hrun hok,Oper.upon_enter];refine hc.mono λe w' hr=>?_;obtain ⟨G',ρ',h',out,hO,hR,rfl,rfl⟩:=hr;obtain ⟨v,rfl,hv'⟩:=hR;have hg:gY w w':=⟨hO.size,λb hb=>hO.frame b hb (λho=>by obtain ⟨_,_,_,h1,_⟩:=ho;simp at h1),hO.os,hO.tape,hO.out⟩
   exact hn v w' G ρ t h r (hC.grow hg (λ_ h=>h) (λ_ h=>.inl h)) (LG hv' hs) hk
  ·rcases Q7 hk with hk | ⟨r,ns,hS,hc,hk⟩
   ·rw [bo] at hk;obtain ⟨G',t',h',vs',k1,k2,k3,k4⟩:=sS _ G t h _ (λi=>as.getD i undef) hC hv hk;exact x9 k1 hn hp hlt hrun (by rw [k2];exact hl) k3 k4
   ·rw [bo] at hk;simp only [aP] at hc;exact Ea hC hlt hrun hl hv hS hc.1 hc.2 λv w' ρ' hC' hr=>hn v w' G ρ' t _ _ hC' hr hk
variable (ow:Nat→Bool)
theorem TG (hC:au E n G ρ t h a w) (hn:iX E n a o K b7) (hp:Rn E n a KP Q) {f:Nat} (hlt:f<5000000) {c:Call} {oa:List O} (ho:o.op = .call c) (hcf:c.callee = .value (.func f)) (ha:args P c.args.toList c.argTypes.toList=some oa)
  (hk:bz (Sat P) ow (.cf f oa) t h K KP):o.wp P a w b7 Q:=by
 obtain ⟨g1,g2⟩:=oN hC _ _ _ ha;have hrun:fF P f=true→(execOp a.eval o).run P w = .ok (.enter f (c.args.map a.eval)) w:=λhok=>by
  have:=gI (P:=P) (w:=w) (as:=c.args.map a.eval) hok;simp [execOp,ho,resolve,hcf,Act.eval,Deferred.ofValue,invoke,this]
 have hU:∀(i:Nat) (x:V),(oa.map λx=>cM (gv t x))[i]? = some x→bB G w ρ ((c.args.map a.eval).getD i undef) x:=by
  intro i x hx;rw [aC] at hx;cases hc:oa[i]? with
  |none=>rw [hc] at hx;cases hx
  |some y=>
   rw [hc] at hx;cases hx;have:=g2 i y hc;rw [aW,aC,bQ] at this;rw [aF,eT];exact qz this
 simp only [bz,bo] at hk;cases how:ow f<;>rw [how] at hk
 ·simp only [ε] at hk;exact qG hC hn hp hlt hrun (by simp [g1]) hU hk
 ·simp only [δ] at hk;exact x9 hC hn hp hlt hrun (by simp [g1]) hU hk
theorem Py {x:D} {v:Value} (h:bw G w v x):dV G w ρ v (S3 x):=by
 cases h with
 |pt b o off row U h1 h2 h3=>exact .e b o off row U h1 h2 h3
 |int k n=>exact .d (.int k n)
 |bool b=>exact .d (.bool b)
 |str s hs=>exact .d (.str s hs)
 |yA z=>exact .d (.yA z)
 |sle a z=>exact .d (.sle a z)
 |sl b o cap z rows U h1 h2 h3 h4 h5 h6=>exact .d (.sl b o cap z rows U h1 h2 h3 h4 h5 h6)
 |np=>exact .d .np
 |nf=>exact .d .nf
 |ni=>exact .d .ni
 |nm=>exact .d .nm
 |fn f=>exact .d (.fn f)
 |fc F _ cs caps h1 h2 h3=>exact .d (.fc F _ cs caps h1 h2 h3)
theorem Qp {x:V} {v:Value} (h:bB G w ρ v x):bB G w ρ v (V7 x):=by
 unfold V7;split
 ·rename_i f caps;cases h.ra with
  |fc F _ cs _ h1 h2 h3=>
   refine .o (.c (.fc _ _ cs _ h1 (by simpa using h2) λi x hx=>?_));rw [aC,aG] at hx;obtain ⟨y,hy,rfl⟩:=hx;exact Py (h3 i y hy)
 ·exact h
theorem TH (hC:au E n G ρ t h a w) (hn:iX E n a o K b7) (hp:Rn E n a KP Q) {c:Call} {x:Operand} {ox:O} {oa:List O} {t1:TypeId} (ho:o.op = .call c) (hcf:c.callee = .value x) (hx:ck P t1 x=some ox) (ha:args P c.args.toList c.argTypes.toList=some oa)
  (hk:bz (Sat P) ow (.cc ox oa) t h K KP):o.wp P a w b7 Q:=by
 obtain ⟨g1,g2⟩:=oN hC _ _ _ ha;have hvx:=Qp (bJ hC hx);have hA:∀(i:Nat) (x:V),(oa.map λx=>cM (gv t x))[i]? = some x→bB G w ρ ((c.args.map a.eval).getD i undef) x:=by
  intro i x hx;rw [aC] at hx;cases hc:oa[i]? with
  |none=>rw [hc] at hx;cases hx
  |some y=>
   rw [hc] at hx;cases hx;have:=g2 i y hc;rw [aW,aC,bQ] at this;rw [aF,eT];exact qz this
 simp only [bz,bo] at hk;split at hk
 ·rename_i f caps hg;rw [hg] at hvx;obtain ⟨cs,hv0,ib,hcr⟩:=hvx.Qo;cases hb:Nat.blt f 1000000<;>rw [hb] at hk
  ·simp only [ε] at hk;cases hb2:Nat.blt f 2000000<;>rw [hb2] at hk
   ·exact hk.elim
   simp only [δ] at hk;have hv:=Bm hv0 (λhl=>by rw [←dQ,hb] at hl;cases hl) (by simpa [dQ] using hb2);have hrun:fF P (f - 1000000)=true→(execOp a.eval o).run P w = .ok (.enter (f - 1000000) (cs++c.args.map a.eval)) w:=λhok=>by
    have:=gI (P:=P) (w:=w) (as:=cs++c.args.map a.eval) hok;simp [execOp,ho,resolve,hcf,hv,Deferred.ofValue,invoke,this]
   have hU:∀(i:Nat) (x:V),(caps++(oa.map λx=>cM (gv t x)))[i]? = some x→bB G w ρ ((cs++c.args.map a.eval).getD i undef) x:=by
    intro i x hx
    by_cases hi:i<caps.length
    ·rw [aO hi] at hx;have:=hcr i x hx;rw [aF] at this ⊢;rw [cW (by omega)];exact .k this
    ·rw [aY (by omega)] at hx;have:=hA _ x hx;rw [aF] at this ⊢;rw [Array.getElem?_append_right (by omega),ib];exact this
   exact qG hC hn hp (by have:=hb2;simp [] at this;omega) hrun (by simp [g1,ib]) hU hk
  simp only [δ] at hk;have hv:=xY hv0 (by simpa [dQ] using hb);have hrun:fF P f=true→(execOp a.eval o).run P w = .ok (.enter f (c.args.map a.eval++cs)) w:=λhok=>by
   have:=gI (P:=P) (w:=w) (as:=c.args.map a.eval++cs) hok;simp [execOp,ho,resolve,hcf,hv,Deferred.ofValue,invoke,this]
  have hU:∀(i:Nat) (x:V),((oa.map λx=>cM (gv t x))++caps)[i]? = some x→bB G w ρ ((c.args.map a.eval++cs).getD i undef) x:=by
   intro i x hx;have hsz:(c.args.map a.eval).size=(oa.map λx=>cM (gv t x)).length:=by simp [g1]
   by_cases hi:i<(oa.map λx=>cM (gv t x)).length
   ·rw [aO hi] at hx;have:=hA i x hx;rw [aF] at this ⊢;rw [cW (by omega)];exact this
   ·rw [aY (by omega)] at hx;have:=hcr _ x hx;rw [aF] at this ⊢;rw [Array.getElem?_append_right (by omega),hsz];exact .k this
  exact qG hC hn hp (by have:=hb;simp [] at this;omega) hrun (by simp [g1,ib]) hU hk
 ·rename_i f hg;rw [hg] at hvx;have hv:=Bi hvx.ra;have hrun:fF P f=true→(execOp a.eval o).run P w = .ok (.enter f (c.args.map a.eval)) w:=λhok=>by
   have:=gI (P:=P) (w:=w) (as:=c.args.map a.eval) hok;simp [execOp,ho,resolve,hcf,hv,Deferred.ofValue,invoke,this]
  cases hb:Nat.blt f 5000000<;>rw [hb] at hk
  ·exact hk.elim
  ·rw [δ] at hk;exact qG hC hn hp (by simpa [dQ] using hb) hrun (by simp [g1]) hA hk
 ·exact hk.elim
end
section
variable {P:Program} {E:gR} {n:Nat} {G:Nat→Prop} {ρ:List Value} {t:T} {h:H} {a:Act} {w:World} {o:Oper} {b7:Act→World→Prop} {Q:Exit→Act→World→Prop} {K KP:V→T→H→Prop}
variable (S:Nat→List V→H→(Out→H→Prop)→Prop) (ow:Nat→Bool)
theorem N0 (hC:au E n G ρ t h a w) (hn:iX E n a o K b7) {ne:Bool} {ty e t1 t2:TypeId} {x:Operand} {ox:O} (ho:o.op = .binOp (bif ne then .neq else .eql) ty x (.const (.slice none 0 0)) t2) (hu:P.underlying ty=some (.slice e)) (hx:ck P t1 x=some ox)
  (hk:bz S ow (.nq ne ox) t h K KP):o.wp P a w b7 Q:=by
 have hv:=bJ hC hx;have run:∀(ad:Option Addr) (m c:Nat),a.eval x = .slice ad m c→(execOp a.eval o).run P w = .ok (.value (.bool (bif ne then !ad.isNone else ad.isNone))) w:=by
  intro ad m c he;have e0:a.eval (.const (.slice none 0 0)) = .slice none 0 0:=rfl;have heq:∀k,(Op.equalIn (k+1) ty (.slice ad m c) (.slice none 0 0)).run P w = .ok ad.isNone w:=λk=>by
   cases ad<;>simp [Op.equalIn,run_underlying hu]
  have heq:(Op.equal ty (.slice ad m c) (.slice none 0 0)).run P w = .ok ad.isNone w:=heq 9999;cases ne<;>simp only [δ,ε] at ho ⊢<;>simp only [execOp,ho,he,e0]
  ·refine cF ?_;simp [eqGuard,binOp,heq]
  ·refine cF ?_;simp [eqGuard,binOp,heq]
 have both:∀(ad:Option Addr) (m c:Nat),a.eval x = .slice ad m c→K (.d (.bool true)) t h∧K (.d (.bool false)) t h→o.wp P a w b7 Q:=by
  intro ad m c he hk;refine az hC hn (v:=.d (.bool (bif ne then !ad.isNone else ad.isNone))) (run ad m c he) (.d (.bool _)) ?_;cases (bif ne then !ad.isNone else ad.isNone)
  ·exact hk.2
  ·exact hk.1
 have one:∀(ad:Addr) (m c:Nat),a.eval x = .slice (some ad) m c→K (.d (.bool ne)) t h→o.wp P a w b7 Q:=by
  intro ad m c he hk;have:=run (some ad) m c he;exact az hC hn this (.d (.bool _)) (by cases ne<;>exact hk)
 have data:∀(z:Nat) (r:List (List D)),bw G w (a.eval x) (.sl z r)→(match r with | []=>K (.d (.bool true)) t h∧K (.d (.bool false)) t h | _ :: _=>K (.d (.bool ne)) t h)→o.wp P a w b7 Q:=by
  intro z r hD hk;cases r with
  |nil=>
   obtain ⟨ad,c,he,_⟩:=hD.len;exact both ad _ c he hk
  |cons r0 rs=>
   rcases hD.R9 with ⟨_,h2⟩ | ⟨b,o,cap,U,he,_⟩
   ·cases h2
   ·exact one _ _ cap he hk
 simp only [bz] at hk;split at hk
 ·rename_i z r hg;rw [hg] at hv;exact data z r hv.ra hk
 ·rename_i z r hg;rw [hg] at hv;obtain ⟨ad,m,he,hD⟩:=hv.Nu;exact data z r (he ▸ hD) hk
 ·rename_i id hg;rw [hg] at hv;rw [get?_eq] at hk;split at hk
  ·rename_i z r hcs;obtain ⟨ad,c,he,_,hρ⟩:=wy hC hv hcs;cases r with
   |nil=>exact both ad _ c he hk
   |cons r0 rs=>
    rcases hC.ok.hr.rep id _ _ hρ hcs with ⟨_,h2⟩ | ⟨b,cap,arr,ty',hb,_⟩
    ·cases h2
    ·rw [hb] at he;exact one _ _ cap he hk
  ·exact hk.elim
 ·exact hk.elim
theorem Sk (hC:au E n G ρ t h a w) (hn:iX E n a o K b7) {ty e:TypeId} {zs:List V} (ho:o.op = .buildSlice ty 0 #[]) (hu:P.underlying ty=some (.slice e)) (hz:rZ P e=some zs) (hk:bz S ow (.ns (P.cellsOf e)) t h K KP):o.wp P a w b7 Q:=by
 obtain ⟨i,z,hi,_⟩:=js (G:=G) (w:=w) (ρ := ρ) hz;simp only [bz,bo,cn] at hk;have hC2:=hC.push (gY.alloc w (.cells #[] e)) (.slice (some ⟨w.heap.size,0,none⟩) 0 0) (.rows (P.cellsOf e) []) (by intro b hb;simp only [f_,aE] at hb;omega)
  (.inr ⟨w.heap.size,0,#[],e,rfl,heap_alloc_new w _,aR _,by simp,by simp,by simp⟩)
 refine dh (v':=.slice (some ⟨w.heap.size,0,none⟩) 0 0) ?_ (hn _ _ _ _ _ _ _ hC2 (.k (.os h.length _ 0 0 (by rw [←hC.ok.hr.len];simp))) hk);have hrun:(Instr.buildSlice ty 0 #[]).run P w = .ok (.slice (some ⟨w.heap.size,0,none⟩) 0 0) (w.alloc (.cells #[] e)):=by
  simp [Instr.buildSlice,Instr.fill,run_underlying hu,sizeOf,typeInfo,hi,newRow];congr 2;exact eU (by simp)
 simp only [execOp,ho];exact cF (by simpa using hrun)
theorem S_ (hC:au E n G ρ t h a w) (hn:iX E n a o K b7) {ty t1 t2:TypeId} {x i:Operand} {ox oi:O} (ho:o.op = .index ty x i) (hu:P.underlying ty=some .string) (hx:ck P t1 x=some ox) (hi:ck P t2 i=some oi)
  (hk:bz S ow (.ix ox oi) t h K KP):o.wp P a w b7 Q:=by
 have hvx:=bJ hC hx;have hvi:=bJ hC hi;simp only [bz] at hk;split at hk
 ·rename_i s k m hgx hgi;rw [hgx] at hvx;rw [hgi] at hvi;obtain ⟨sv,e1,rfl,_⟩:=hvx.str;have e2:=hvi.int;obtain ⟨b,⟨h1,h2⟩,hk⟩:=hk;have hb:sv[m.toNat]? = some b:=by
   rw [bQ] at h2;exact h2
  refine az hC hn (v':=.int .u8 b.toNat) ?_ (.d (.int _ _)) hk;simp [execOp,ho,e1,e2,Instr.index,asIntOf,run_underlying hu,h1,hb]
 ·exact hk.elim
theorem bB.Wv {v:Value} {id z i:Nat} (h:bB G w ρ v (.ov id z i)):∃a n c,ρ[id]? = some (.slice a n c)∧v=sliced a i n c z:=by
 cases h with | o h=>cases h with | c h=>cases h with | k h=>cases h with | ov _ _ _ _ a n c h1 h2=>exact ⟨a,n,c,h1,h2⟩
theorem vf {α β:Type} {f:α→Option β}:∀{l:List α} {r:List β},l.mapM f=some r→r.length=l.length∧∀(k:Nat) (x:α) (y:β),l[k]? = some x→r[k]? = some y→f x=some y:=by
 intro l
 induction l with
 |nil=>intro r h;simp at h;subst h;simp
 |cons x l ih=>
  intro r h;simp only [gJ,aK,aD,jW,aE] at h;obtain ⟨y,hy,ys,hys,rfl⟩:=h;obtain ⟨h1,h2⟩:=ih hys;refine ⟨by simp [h1],λk x' y' hx hy'=>?_⟩;cases k with
  |zero=>simp at hx hy';subst hx hy';exact hy
  |succ k=>exact h2 k x' y' (by simpa using hx) (by simpa using hy')
theorem Jb {v:Value} {x:V} {d:D} (hv:dV G w ρ v x) (hd:Rl x=some d):bw G w v d:=by
 cases hv<;>simp only [Rl,reduceCtorEq,aE] at hd
 ·subst hd;assumption
 ·subst hd;exact .yA _
theorem QF (hC : au E n G ρ t h a w) (hn : iX E n a o K b7) {ty e t1 : TypeId} {zs : List V} {ds : List D} {x : Operand} {ox : O} (ho : o.op = .call { callee := .builtin .clear, args := #[x], argTypes := #[ty] }) (hu : P.underlying ty = some (.slice e)) (hz : rZ P e = some zs)
    (hd:zs.mapM Rl=some ds) (hzl:zs.length=P.cellsOf e) (hz0:P.cellsOf e≠0) (hx:ck P t1 x=some ox) (hk:bz S ow (.gH ox ds (P.cellsOf e)) t h K KP):o.wp P a w b7 Q:=by
  have hv:=bJ hC hx
  obtain ⟨it,z,hi,hz1,hzs,hst,hzr⟩:=js (G:=G) (w:=w) (ρ := ρ) hz
  obtain ⟨hdl,hdg⟩:=vf hd
  have hci:P.cellsOf e=it.size:=by simp [Program.cellsOf,hi]
  generalize hzz:P.cellsOf e=zz at *
  simp only [bz] at hk
  split at hk
  · rename_i id z' i hg
    rw [hg] at hv
    rw [get?_eq] at hk
    split at hk
    · rename_i z'' r hcs
      obtain ⟨⟨k1,k2,k3⟩,hk⟩:=hk
      obtain rfl:=jf k1
      obtain rfl:=jf k2
      have k3:=a_ k3
      rw [bo] at hk
      obtain ⟨ad,m,c,hρ,hval⟩:=hv.Wv
      have hrep:=hC.ok.hr.rep id _ _ hρ hcs
      have hlc:m=r.length∧m≤c:=by
        rcases hrep with ⟨he,rfl⟩ | ⟨b,cap,arr,ty,he,h1,h2,_⟩
        · simp only [Value.slice.injEq] at he
          obtain ⟨rfl,rfl,rfl⟩:=he
          simp
        · simp only [Value.slice.injEq] at he
          obtain ⟨rfl,rfl,rfl⟩:=he
          exact ⟨rfl,h2⟩
      obtain ⟨rfl,hmc⟩:=hlc
      have runs:∀(v:Value) (w':World),a.eval x=v→(Builtin.clear_ #[ty] o.type #[v]).run P w = .ok (.tuple #[]) w'→(execOp a.eval o).run P w = .ok (.value (.tuple #[])) w':=by
        intro v w' he hr
        simp [execOp,ho,resolve,invoke,builtin,he,hr]
      by_cases hil:i=r.length
      · have hsame:h.set id (.rows z'' (r.take i++List.replicate (r.length - i) ds))=h:=by
          rw [hil,cu,rF,List.replicate_zero,cU]
          exact nE hcs
        rw [hsame] at hk
        refine dh (runs _ w hval ?_) (hn _ _ _ _ _ _ _ hC (.tu #[] [] rfl (by simp)) hk)
        subst hil
        simp only [sliced,rF]
        cases (if c=r.length then ad else ad.map (·.add (r.length*z'')))<;>simp [Builtin.clear_,run_underlying hu]
      · have hil:i<r.length:=by omega
        rcases hrep with ⟨_,rfl⟩ | ⟨b,cap,arr,ty',he,h1,h2,h3,h4,h5⟩
        · simp at hil
        simp only [Value.slice.injEq] at he
        obtain ⟨rfl,_,rfl⟩:=he
        have hv2:a.eval x = .slice (some ⟨b,i*z'',none⟩) (r.length - i) (c - i):=by
          rw [hval]
          simp [sliced,show ¬c=i by omega,eI]
        have hz'':it.size=z'':=hci.symm
        have hzc:z.cells.size=z'':=by rw [hzs,hzl]
        have hzpos:0<z'':=by omega
        have hmul:(r.length - i)*z''+i*z''=r.length*z'':=by rw [←bq];congr 1;omega
        have hle:r.length*z''≤c*z'':=bC _ h2
        have hnl:(Builtin.zeroCells z.cells (r.length - i)).toList.length=(r.length - i)*z'':=by simp [Builtin.zeroCells,hzc]
        have hng:∀k,k<(r.length - i)*z''→(Builtin.zeroCells z.cells (r.length - i)).toList[k]? = some (z.cells.getD (k % z'') undef):=by
          intro k hk
          have hml:k % z''<z.cells.size:=by rw [hzc];exact Nat.mod_lt _ hzpos
          simp only [Builtin.zeroCells,bQ,eT,hzc,Array.getElem?_range,hk,if_true,bA,aE]
          rw [getElem!_pos z.cells _ hml,aF,aJ hml]
          rfl
        have hzj:∀j,j<z''→∃x,zs[j]? = some x∧dV G w ρ (z.cells.getD j undef) x:=λj hj=>by
          have hjl:j<zs.length:=by rw [hzl];exact hj
          exact ⟨zs[j],aB hjl,(hzr j _ (aB hjl)).1⟩
        have hone:∀u∈(Builtin.zeroCells z.cells (r.length - i)).toList,u.oneCell'=true:=by
          intro u hu
          obtain ⟨k,hk⟩:=aq.1 hu
          have hkl:k<(r.length - i)*z'':=by rw [←hnl];exact (aA.1 hk).1
          rw [hng k hkl] at hk
          cases hk
          obtain ⟨y,hy,hr⟩:=hzj (k % z'') (Nat.mod_lt _ hzpos)
          exact Ax (.k hr) (aT.1 hst y (aH hy))
        have hrun:=run_storeCells_at (P:=P) b (i*z'') ty' (Builtin.zeroCells z.cells (r.length - i)).toList 0 arr w h1 (by rw [hnl];omega) hone
        rw [dz,hnl] at hrun
        have hC':=hC.Fu (w':=w.setRow b (arr.toList.take (i*z'')++(Builtin.zeroCells z.cells (r.length - i)).toList++arr.toList.drop (i*z''+(r.length - i)*z'')).toArray) (x1:=.rows z'' (r.take i++List.replicate (r.length - i) ds)) hρ hcs (by simp) (by simp)
          (λc hc=>setRow_other w b c _ (by simp only [f_,ne_eq,aE] at hc;omega)) rfl rfl rfl
          (.inr ⟨b,c,_,ty',by simp;omega,setRow_heap w b arr _ ty' _ h1,by simp;omega,h3,by
            simp only [dA,aL,af,cE,bn,hnl];omega,λi' row hi'=>by
            have hs':∀c,G c→(w.setRow b (arr.toList.take (i*z'')++(Builtin.zeroCells z.cells (r.length - i)).toList++arr.toList.drop (i*z''+(r.length - i)*z'')).toArray).heap[c]? = w.heap[c]?:=λc hc=>setRow_other w b c _ (λe=>by
              subst e;exact hC.ok.hr.gd c hc ⟨id,_,_,hρ,hcs,by simp,bT.2 (.inl rfl)⟩)
            have hgetr:=λk=>nz (arr:=arr) (off:=i*z'') hnl (by omega) k
            by_cases hii:i'<i
            · rw [aO (by simp;omega),ae,ζ hii] at hi'
              obtain ⟨g1,g2⟩:=h5 i' row hi'
              refine ⟨g1,λj x hj=>?_⟩
              have hjl:j<z'':=by rw [←g1];exact (aA.1 hj).1
              have:i'*z''+z''≤i*z'':=by
                have:=bC z'' (show i'+1≤i by omega)
                rwa [bq,Nat.one_mul] at this
              rw [hgetr,η (by omega)]
              exact (g2 j x hj).mono (λ_ h=>h) hs'
            · rw [aY (by simp; omega)] at hi'
              have hmin:(r.take i).length=i:=by simp;omega
              rw [hmin,List.getElem?_replicate] at hi'
              split at hi'
              · rename_i hlt
                cases hi'
                refine ⟨by rw [hdl,hzl],λj x hj=>?_⟩
                have hjl:j<z'':=by rw [←hzl,←hdl];exact (aA.1 hj).1
                have hi1:i'*z''=i*z''+(i' - i)*z'':=by rw [←bq];congr 1;omega
                have hi2:(i' - i)*z''+z''≤(r.length - i)*z'':=by
                  have:=bC z'' (show (i' - i)+1≤r.length - i by omega)
                  rwa [bq,Nat.one_mul] at this
                rw [hgetr,ζ ⟨by omega,by omega⟩]
                have hk:i'*z''+j - i*z''=j+(i' - i)*z'':=by omega
                rw [hk,aW,hng _ (by omega),Nat.add_mul_mod_self_right,cX hjl]
                obtain ⟨y,hy,hr⟩:=hzj j hjl
                exact (Jb hr (hdg j y x hy hj)).mono (λ_ h=>h) hs'
              · cases hi'⟩)
        refine dh (runs _ _ hv2 ?_) (hn _ _ _ _ _ _ _ hC' (.tu #[] [] rfl (by simp)) hk)
        have hn0:¬(r.length - i=0):=by omega
        obtain ⟨k,hk⟩:=Nat.exists_eq_succ_of_ne_zero hn0
        rw [hk] at hrun ⊢
        simp [Builtin.clear_,run_underlying hu,zeroValue,typeInfo,hi,hz1,hrun]
    · exact hk.elim
  · exact hk.elim
end
end Go.Vx
