/- Lemmas. Conditions: none. -/
import Derived.Test.YtjpgfgajkjhonaaGreatDoorQRAK
namespace Go.Vx
section
variable {P:Program} {E:gL} {n:Nat} {G:Nat→Prop} {ρ:List Value} {t:T} {h:H} {a:Act} {w:World} {o:Oper} {bV:Act→World→Prop} {Q:Exit→Act→World→Prop}
theorem Jb {P:Program} {ty:TypeId} {op:Op} {cs:List V} (h:fj P ty op=some (.al cs)):∃t,op = .alloc t∧rM P t=some cs:=by
  cases op
  case alloc t=>
    have al:(rM P t).map X.al=some (.al cs)→∃t',Op.alloc t = .alloc t'∧rM P t'=some cs:=λh=>by
      simp only [aG,X.al.injEq] at h
      obtain ⟨x,hx,rfl⟩:=h
      exact ⟨t,rfl,hx⟩
    simp only [fj] at h
    split at h
    · split at h
      · simp only [aI,aD] at h
        obtain ⟨zs,hz,h⟩:=h
        repeat' split at h
        all_goals cases h
      · exact al h
    · exact al h
  all_goals
    exfalso
    simp only [fj] at h
    repeat' split at h
    all_goals
      first
        |contradiction
        |(simp [aD] at h;done)
        | (simp [aD] at h
           obtain ⟨_,_,_,_,h⟩:=h
           (repeat' split at h)<;>simp at h)
        | (simp [aD] at h
           obtain ⟨_,_,_,_,_,h⟩:=h
           (repeat' split at h)<;>simp at h)
        | (simp [aD] at h
           obtain ⟨_,_,h⟩:=h
           (repeat' split at h)<;>simp at h)
theorem Ja {P:Program} {ty:TypeId} {op:Op} {f:Nat} {oa:List O} (h:fj P ty op=some (.cf f oa)):∃c,op = .call c∧c.callee = .value (.func f)∧f<5000000∧args P c.args.toList c.argTypes.toList=some oa:=by
  cases op
  case call c=>
    obtain ⟨callee,as,ts⟩:=c
    cases callee with
    |value x=>
      cases x<;>simp only [fj] at h
      case func g=>
        split at h
        · rename_i hlt
          simp only [aG,X.cf.injEq] at h
          obtain ⟨oa,ha,rfl,rfl⟩:=h
          exact ⟨_,rfl,rfl,hlt,ha⟩
        · cases h
      all_goals
        simp [aD] at h
    |invoke r m=>cases h
    |builtin b=>
      exfalso
      cases b<;>simp only [fj] at h<;>(repeat' split at h)<;>first
        |contradiction
        |(simp [aD] at h;done)
        | (simp [aD] at h
           obtain ⟨_,_,h⟩:=h
           (repeat' split at h)<;>simp at h)
        | (simp [aD] at h
           obtain ⟨_,_,_,_,h⟩:=h
           (repeat' split at h)<;>simp at h)
  all_goals
    exfalso
    simp only [fj] at h
    repeat' split at h
    all_goals
      first
        |contradiction
        |(simp [aD] at h;done)
        | (simp [aD] at h
           obtain ⟨_,_,_,_,h⟩:=h
           (repeat' split at h)<;>simp at h)
        | (simp [aD] at h
           obtain ⟨_,_,_,_,_,h⟩:=h
           (repeat' split at h)<;>simp at h)
        | (simp [aD] at h
           obtain ⟨_,_,h⟩:=h
           (repeat' split at h)<;>simp at h)
theorem J9 {P:Program} {ty:TypeId} {op:Op} {pl:Nat} (h:fj P ty op=some (.mm pl)):∃t,op = .makeMap t none:=by
  cases op
  case makeMap t r=>
    cases r with
    |none=>exact ⟨t,rfl⟩
    |some r=>simp only [fj] at h;cases h
  all_goals
    exfalso
    simp only [fj] at h
    repeat' split at h
    all_goals
      first
        |contradiction
        |(simp [aD] at h;done)
        | (simp [aD] at h
           obtain ⟨_,_,_,_,h⟩:=h
           (repeat' split at h)<;>simp at h)
        | (simp [aD] at h
           obtain ⟨_,_,_,_,_,h⟩:=h
           (repeat' split at h)<;>simp at h)
        | (simp [aD] at h
           obtain ⟨_,_,h⟩:=h
           (repeat' split at h)<;>simp at h)
def x6 (ρ:List Value) (i:Nat):Prop:=∃v,ρ[i]? = some v∧v≠undef
theorem dL.ref {v:Value} {x:V} (h:dL G w ρ v x):∀i∈ij x,x6 ρ i:=by
 cases h<;>simp only [ij,cU,false_imp_iff,implies_true,aL,forall_eq]<;>(try exact ⟨_,‹_›,by simp [undef]⟩)
theorem dI.ref {v:Value} {x:V} (h:dI G w ρ v x):∀i∈kI x,x6 ρ i:=by
 cases h with
 |k h=>intro i hi;exact h.ref i (by cases h<;>simpa [kI] using hi)
 |fc f u cs caps h0 h1 h2=>
  intro i hi;simp only [kI,aO] at hi;obtain ⟨x,hx,hi⟩:=hi;obtain ⟨j,hxj⟩:=aj.1 hx;exact (h2 j x hxj).ref i hi
theorem dM.ref {v:Value} {x:V} (h:dM G w ρ v x):∀i∈jJ x,x6 ρ i:=by
 cases h with
 |c h=>
  intro i hi;refine h.ref i ?_;cases h with
  |k h=>cases h<;>simpa [jJ] using hi
  |fc=>simpa [jJ] using hi
 |ag cs vs h1 h2=>
  intro i hi;simp only [jJ,aO] at hi;obtain ⟨x,hx,hi⟩:=hi;obtain ⟨j,hxj⟩:=aj.1 hx;exact (h2 j x hxj).ref i hi
theorem au.ref {v:Value} {x:V} (h:au G w ρ v x):∀i∈eT x,x6 ρ i:=by
 cases h with
 |o h=>
  intro i hi;refine h.ref i ?_;cases h with
  |c h=>cases h with
   |k h=>cases h<;>simpa [eT] using hi
   |fc=>simpa [eT] using hi
  |ag cs vs h1 h2=>simpa [eT] using hi
 |tu cs vs h1 h2=>
  intro i hi;simp only [eT,aO] at hi;obtain ⟨x,hx,hi⟩:=hi;obtain ⟨j,hxj⟩:=aj.1 hx;exact (h2 j x hxj).ref i hi
theorem cY.ref {hd:Value} {x:B} (h:cY G w ρ hd x):∀i∈eZ x,x6 ρ i:=by
 cases x with
 |no=>simp [eZ]
 |nw=>simp [eZ]
 |cells cs=>
  obtain ⟨b,arr,ty,rfl,h1,h2,h3⟩:=h;intro i hi;simp only [eZ,aO] at hi;obtain ⟨x,hx,hi⟩:=hi;obtain ⟨j,hxj⟩:=aj.1 hx;exact (h3 j x hxj).ref i hi
 |mp es=>
  obtain ⟨r,arr,clk,rfl,h1,h2,h3,h4⟩:=h;intro i hi;simp only [eZ,aO] at hi;obtain ⟨x,hx,hi⟩:=hi;obtain ⟨j,hxj⟩:=aj.1 hx;have hj:j<arr.size:=by rw [h2];exact (aC.1 hxj).1
  rcases aR.1 hi with hi | hi
  ·exact (h4 j _ x (aN hj) hxj).1.ref i hi
  ·exact (h4 j _ x (aN hj) hxj).2.ref i hi
 |dm es=>simp [eZ]
 |di es r l=>simp [eZ]
 |ms z es out it=>
  obtain ⟨⟨r,arr,clk,rfl,h1,h2,h3,h4,h5,h6,h7⟩,_⟩:=h;intro i hi
  match out,hi,h6,h7 with
  |some (j,v),hi,h6,h7=>
   have hj:j<arr.size:=by rw [h2];exact h6 j v rfl
   exact (h7 j v _ rfl (aN hj)).ref i hi
 |rows z rs=>simp [eZ]
 |rx z rs k r=>
  obtain ⟨b,cap,arr,ty,rfl,h1,h2,h3,h4,h0,h5,h6⟩:=h;intro i hi;simp only [eZ,aO] at hi;obtain ⟨x,hx,hi⟩:=hi;obtain ⟨j,hxj⟩:=aj.1 hx;exact (h6 j x hxj).ref i hi
theorem ak.place (hC:ak E n G ρ t h a w) {id:Nat} (hx:h[id]? = some .nw) (hid:E.ρ.length≤id) {hd:Value} {x:B} (hb:cY G w ρ hd x) (hf:∀b∈eU hd x,E.w.heap.size≤b∧¬G b∧¬own ρ h b) :
  ak E n G (ρ.set id hd) t (h.set id x) a w:=by
 have hO:=hC.ok;have hil:id<ρ.length:=by rw [hO.hr.len];exact (aC.1 hx).1
 have hihl:id<h.length:=(aC.1 hx).1;have hu:ρ[id]? = some undef:=by
  have:=hO.hr.rep id _ _ (aA hil) hx;rw [aA hil];exact κ some this
 have hne:∀j,x6 ρ j→j≠id:=by
  rintro j ⟨v,h1,h2⟩ rfl
  rw [hu] at h1;cases h1;exact h2 rfl
 have hg:∀j,x6 ρ j→(ρ.set id hd)[j]? = ρ[j]?:=λj hj=>by rw [dE,η (λe=>hne j hj e.symm)]
 have get:∀(j:Nat) (v:Value) (y:B),(ρ.set id hd)[j]? = some v→(h.set id x)[j]? = some y→(j≠id∧ρ[j]? = some v∧h[j]? = some y)∨(j=id∧v=hd∧y=x):=by
  intro j v y h1 h2;rw [dE] at h1 h2;split at h1
  ·rename_i hj;subst hj;rw [ζ rfl,ζ hihl] at h2;cases h1;cases h2;exact .inr ⟨rfl,rfl,rfl⟩
  ·rename_i hj;rw [η hj] at h2;exact .inl ⟨λe=>hj e.symm,h1,h2⟩
 have hown:∀b,own (ρ.set id hd) (h.set id x) b→own ρ h b∨b∈eU hd x:=by
  rintro b ⟨j,v,y,h1,h2,h3,h4⟩
  rcases get j v y h1 h2 with ⟨_,g1,g2⟩ | ⟨_,rfl,rfl⟩
  ·exact .inl ⟨j,v,y,g1,g2,h3,h4⟩
  ·exact .inr h4
 refine ⟨⟨⟨by simp [hO.hr.len],λj v y h1 h2=>?_,λj j' v v' y y' b h1 h2 h3 h4 h5 h6 h7 h8=>?_,hO.hr.gl,λb hb ho=>?_,hO.hr.sF⟩,hO.gm,hO.go,λb hb=>?_,hO.frame,hO.size,hO.os,hO.tape,hO.out,λj v hv hs=>?_,by simpa using hO.hl,λr hr=>?_⟩,
  hC.df,hC.sz,λi=>(hC.tm i).mono (λ_ h=>h) (λ_ _=>rfl) (λj hj=>hg j ((hC.tm i).ref j hj))⟩
 ·rcases get j v y h1 h2 with ⟨_,g1,g2⟩ | ⟨rfl,rfl,rfl⟩
  ·have hr:=hO.hr.rep j v y g1 g2;exact hr.mono (λ_ h=>h) (λ_ _=>rfl) (λ_ _=>rfl) (λk hk=>hg k (hr.ref k hk))
  ·exact hb.mono (λ_ h=>h) (λ_ _=>rfl) (λ_ _=>rfl) (λk hk=>hg k (hb.ref k hk))
 ·rcases get j v y h1 h2 with ⟨hj,g1,g2⟩ | ⟨rfl,rfl,rfl⟩<;>rcases get j' v' y' h4 h5 with ⟨hj',k1,k2⟩ | ⟨rfl,rfl,rfl⟩
  ·exact hO.hr.oB j j' v v' y y' b g1 g2 h3 k1 k2 h6 h7 h8
  ·exact absurd ⟨j,v,y,g1,g2,h3,h7⟩ (hf b h8).2.2
  ·exact absurd ⟨j',v',y',k1,k2,h6,h8⟩ (hf b h7).2.2
  ·rfl
 ·rcases hown b ho with h1 | h1
  ·exact hO.hr.gd b hb h1
  ·exact (hf b h1).2.1 hb
 ·rcases hown b hb with h1 | h1
  ·exact hO.oo b h1
  ·exact .inl (hf b h1).1
 ·have hj:j≠id:=by
   have:=(aC.1 hv).1;omega
  rw [dE,η (λe=>hj e.symm)];exact hO.hand j v hv hs
 ·obtain ⟨g1,g2,g3⟩:=hO.sC r hr;refine ⟨g1,g2,λg4=>?_⟩;obtain ⟨j,v,y,h1,h2,h3,h4⟩:=g4;rcases get j v y h1 h2 with ⟨_,k1,k2⟩ | ⟨rfl,rfl,rfl⟩
  ·exact g3 ⟨j,v,y,k1,k2,h3,h4⟩
  ·exact hb.Vh h3 h4 g1
theorem ak.room (hC:ak E n G ρ t h a w):∀k:Nat,∃ρ',ak E n G ρ' t (h++List.replicate k .nw) a w
 |0=>⟨ρ,by simpa using hC⟩
 |k+1=>by
  obtain ⟨ρ',h1⟩:=hC.room k;refine ⟨ρ' ++ [undef],?_⟩;have:=h1.push (gK.refl w) undef .nw (by simp [fO,undef]) rfl;rw [List.replicate_succ',←bN];exact this
end
theorem k0 {x:V} (h:∀g c,x≠.fc g c):(∀f,sk f x=wW f x)∧kI x=ij x∧∀i,rT i x=uo i x:=by
 cases x<;>first | exact ⟨λ_=>rfl,rfl,λ_=>rfl⟩ | exact absurd rfl (h _ _)
theorem k1 {x:V} (h:∀c,x≠.ag c):(∀f,pK f x=sk f x)∧jJ x=kI x∧∀i,qX i x=rT i x:=by
 cases x<;>first | exact ⟨λ_=>rfl,rfl,λ_=>rfl⟩ | exact absurd rfl (h _)
theorem k2 {x:V} (h:∀c,x≠.tu c):(∀f,gS f x=pK f x)∧eT x=jJ x∧∀i,Aw i x=qX i x:=by
 cases x<;>first | exact ⟨λ_=>rfl,rfl,λ_=>rfl⟩ | exact absurd rfl (h _)
theorem CA {f:Nat→Nat} {x:V} (h:∀i∈ij x,f i=i):wW f x=x:=by
 cases x<;>first | rfl | (simp only [wW];rw [h _ (by simp [ij])])
theorem pT {f:Nat→Nat} {x:V} (h:∀i∈kI x,f i=i):sk f x=x:=by
 by_cases hx:∃g c,x=V.fc g c
 ·obtain ⟨g,c,rfl⟩:=hx;simp only [kI,aO] at h;simp only [sk,fC (λx hx=>CA λi hi=>h i ⟨x,hx,hi⟩)]
 ·obtain ⟨e1,e2,_⟩:=k0 (λg c e=>hx ⟨g,c,e⟩);rw [e1];exact CA (by rw [←e2];exact h)
theorem CC {f:Nat→Nat} {x:V} (h:∀i∈jJ x,f i=i):pK f x=x:=by
 by_cases hx:∃c,x=V.ag c
 ·obtain ⟨c,rfl⟩:=hx;simp only [jJ,aO] at h;simp only [pK,fC (λx hx=>pT λi hi=>h i ⟨x,hx,hi⟩)]
 ·obtain ⟨e1,e2,_⟩:=k1 (λc e=>hx ⟨c,e⟩);rw [e1];exact pT (by rw [←e2];exact h)
theorem CB {f:Nat→Nat} {x:B} (h:∀i∈eZ x,f i=i):eR f x=x:=by
 cases x with
 |ms z es out it=>
  cases out with
  |none=>rfl
  |some q=>simp only [eR,bE,pT h]
 |cells c=>
  simp only [eZ,aO] at h;simp only [eR,fC (λx hx=>pT λi hi=>h i ⟨x,hx,hi⟩)]
 |mp c=>
  simp only [eZ,aO,aR] at h;simp only [eR,fC (l:=c) (f:=λp=>(pK f p.1,pK f p.2)) (λx hx=>by
   rw [CC λi hi=>h i ⟨x,hx,.inl hi⟩,CC λi hi=>h i ⟨x,hx,.inr hi⟩])]
 |rx z rs k c=>
  simp only [eZ,aO] at h;simp only [eR,fC (λx hx=>pT λi hi=>h i ⟨x,hx,hi⟩)]
 |_=>rfl
theorem GI {f g:Nat→Nat} {x:V} (h:∀i∈ij x,f i=g i):wW f x=wW g x:=by
 cases x<;>first | rfl | (simp only [wW];rw [h _ (by simp [ij])])
theorem sj {f g:Nat→Nat} {x:V} (h:∀i∈kI x,f i=g i):sk f x=sk g x:=by
 by_cases hx:∃g c,x=V.fc g c
 ·obtain ⟨F,c,rfl⟩:=hx;simp only [kI,aO] at h;simp only [sk,aZ (λx hx=>GI λi hi=>h i ⟨x,hx,hi⟩)]
 ·obtain ⟨e1,e2,_⟩:=k0 (λg c e=>hx ⟨g,c,e⟩);rw [e1,e1];exact GI (by rw [←e2];exact h)
theorem wX {f g:Nat→Nat} {x:V} (h:∀i∈jJ x,f i=g i):pK f x=pK g x:=by
 by_cases hx:∃c,x=V.ag c
 ·obtain ⟨c,rfl⟩:=hx;simp only [jJ,aO] at h;simp only [pK,aZ (λx hx=>sj λi hi=>h i ⟨x,hx,hi⟩)]
 ·obtain ⟨e1,e2,_⟩:=k1 (λc e=>hx ⟨c,e⟩);rw [e1,e1];exact sj (by rw [←e2];exact h)
theorem Pq {f g:Nat→Nat} {x:V} (h:∀i∈eT x,f i=g i):gS f x=gS g x:=by
 by_cases hx:∃c,x=V.tu c
 ·obtain ⟨c,rfl⟩:=hx;simp only [eT,aO] at h;simp only [gS,aZ (λx hx=>wX λi hi=>h i ⟨x,hx,hi⟩)]
 ·obtain ⟨e1,e2,_⟩:=k2 (λc e=>hx ⟨c,e⟩);rw [e1,e1];exact wX (by rw [←e2];exact h)
theorem Pp {f g:Nat→Nat} {x:B} (h:∀i∈eZ x,f i=g i):eR f x=eR g x:=by
 cases x with
 |ms z es out it=>
  cases out with
  |none=>rfl
  |some q=>simp only [eR,bE,sj h]
 |cells c=>
  simp only [eZ,aO] at h;simp only [eR,aZ (λx hx=>sj λi hi=>h i ⟨x,hx,hi⟩)]
 |mp c=>
  simp only [eZ,aO,aR] at h;simp only [eR,aZ (l:=c) (f:=λp=>(pK f p.1,pK f p.2)) (g:=λp=>(pK g p.1,pK g p.2)) (λx hx=>by
   rw [wX λi hi=>h i ⟨x,hx,.inl hi⟩,wX λi hi=>h i ⟨x,hx,.inr hi⟩])]
 |rx z rs k c=>
  simp only [eZ,aO] at h;simp only [eR,aZ (λx hx=>sj λi hi=>h i ⟨x,hx,hi⟩)]
 |_=>rfl
theorem GH {f g:Nat→Nat} (x:V):wW f (wW g x)=wW (λi=>f (g i)) x:=by cases x<;>rfl
theorem lG {f g:Nat→Nat} (x:V):sk f (sk g x)=sk (λi=>f (g i)) x:=by
 cases x with
 |fc F c=>simp only [sk,bn];congr 1;exact aZ λx _=>GH x
 |_=>rfl
theorem si {f g:Nat→Nat} (x:V):pK f (pK g x)=pK (λi=>f (g i)) x:=by
 cases x with
 |ag c=>simp only [pK,bn];congr 1;exact aZ λx _=>lG x
 |fc F c=>exact lG (.fc F c)
 |_=>rfl
theorem se {f g:Nat→Nat} (x:V):gS f (gS g x)=gS (λi=>f (g i)) x:=by
 cases x with
 |tu c=>simp only [gS,bn];congr 1;exact aZ λx _=>si x
 |ag c=>exact si (.ag c)
 |fc F c=>exact lG (.fc F c)
 |_=>rfl
theorem sd {f g:Nat→Nat} (x:B):eR f (eR g x)=eR (λi=>f (g i)) x:=by
 cases x with
 |ms z es out it=>
  cases out with
  |none=>rfl
  |some q=>simp only [eR,bE,lG]
 |cells c=>simp only [eR,bn];congr 1;exact aZ λx _=>lG x
 |mp c=>simp only [eR,bn];congr 1;exact aZ λx _=>by simp only [Function.comp,si]
 |rx z rs k c=>simp only [eR,bn];congr 1;exact aZ λx _=>lG x
 |_=>rfl
theorem yj {i:Nat} {x:V} (h:i∉ij x):uo i x=x:=by
 cases x<;>first | rfl | (simp only [ij,aL] at h;simp only [uo,fm (k_ h),ε])
theorem nE {i:Nat} {x:V} (h:i∉kI x):rT i x=x:=by
 by_cases hx:∃g c,x=V.fc g c
 ·obtain ⟨g,c,rfl⟩:=hx;simp only [kI,aO,not_exists,not_and] at h;simp only [rT,fC (λx hx=>yj (h x hx))]
 ·obtain ⟨_,e2,e3⟩:=k0 (λg c e=>hx ⟨g,c,e⟩);rw [e3];exact yj (by rw [←e2];exact h)
theorem pb {i:Nat} {x:V} (h:i∉jJ x):qX i x=x:=by
 by_cases hx:∃c,x=V.ag c
 ·obtain ⟨c,rfl⟩:=hx;simp only [jJ,aO,not_exists,not_and] at h;simp only [qX,fC (λx hx=>nE (h x hx))]
 ·obtain ⟨_,e2,e3⟩:=k1 (λc e=>hx ⟨c,e⟩);rw [e3];exact nE (by rw [←e2];exact h)
theorem H0 {i:Nat} {x:V} (h:i∉eT x):Aw i x=x:=by
 by_cases hx:∃c,x=V.tu c
 ·obtain ⟨c,rfl⟩:=hx;simp only [eT,aO,not_exists,not_and] at h;simp only [Aw,fC (λx hx=>pb (h x hx))]
 ·obtain ⟨_,e2,e3⟩:=k2 (λc e=>hx ⟨c,e⟩);rw [e3];exact pb (by rw [←e2];exact h)
theorem HY {i:Nat} {x:B} (h:i∉eZ x):gV i x=x:=by
 cases x with
 |ms z es out it=>
  cases out with
  |none=>rfl
  |some q=>simp only [gV,bE,nE h]
 |cells c=>
  simp only [eZ,aO,not_exists,not_and] at h;simp only [gV,fC (λx hx=>nE (h x hx))]
 |mp c=>
  simp only [eZ,aO,not_exists,not_and,aR,not_or] at h;simp only [gV,fC (l:=c) (f:=λp=>(qX i p.1,qX i p.2)) (λx hx=>by rw [pb (h x hx).1,pb (h x hx).2])]
 |rx z rs k c=>
  simp only [eZ,aO,not_exists,not_and] at h;simp only [gV,fC (λx hx=>nE (h x hx))]
 |_=>rfl
theorem Au:∀(os:List Nat) (t:T),(∀i∈os,∀s,i∉eT (gs t s))→∀s,gs (os.foldl (λt i=>ju i t) t) s=gs t s:=by
 intro os
 induction os with
 |nil=>intro t _ s;rfl
 |cons i os ih=>
  intro t h s;have e:∀s,gs (ju i t) s=gs t s:=λs=>by rw [ju,q6 _ rfl,H0 (h i (by simp) s)]
  rw [cQ,ih (ju i t) (λj hj s=>by rw [e s];exact h j (by simp [hj]) s) s,e s]
theorem Av:∀(os:List Nat) (h:H) (i:Nat),(∀j∈os,∀b,h[i]? = some b→j∉eZ b)→(mP os h)[i]? = h[i]?:=by
 intro os
 induction os with
 |nil=>intro h i _;rfl
 |cons j os ih=>
  intro h i hc;have e:(h.map (gV j))[i]? = h[i]?:=by
   rw [aB];cases hb:h[i]? with
   |none=>rfl
   |some b=>rw [bE,HY (hc j (by simp) b hb)]
  rw [mP,ih (h.map (gV j)) i (λk hk b hb=>hc k (by simp [hk]) b (by rw [←e];exact hb)),e]
theorem Dv (h:H):∀(n:Nat) (l acc:List Nat),∀i∈acc,i∈reach h n l acc:=by
 intro n
 induction n with
 |zero=>intro l acc i hi;exact hi
 |succ n ih=>
  intro l acc i hi;cases l with
  |nil=>exact hi
  |cons j r=>
   simp only [reach];cases has acc j
   ·exact ih _ _ i (by simp [hi])
   ·exact ih _ _ i hi
theorem yI {h h':H}:∀(n:Nat) (l acc:List Nat),(∀i∈reach h n l acc,get? h' i=get? h i)→reach h' n l acc=reach h n l acc:=by
 intro n
 induction n with
 |zero=>intro l acc _;rfl
 |succ n ih=>
  intro l acc hh;cases l with
  |nil=>rfl
  |cons j r=>
   simp only [reach] at hh ⊢;cases hj:has acc j
   ·rw [hj] at hh;simp only [ε] at hh ⊢;have e:=hh j (Dv h n _ _ j (by simp));rw [e];exact ih _ _ hh
   ·rw [hj] at hh;simp only [δ] at hh ⊢;exact ih _ _ hh
theorem SH {α:Type}:∀(l:List (Nat×α)) (a:List α),(l.map (·.1)).Nodup→(∀p∈l,p.1<a.length)→(l.foldl (λa p=>a.set p.1 p.2) a).length=a.length∧(∀p∈l,(l.foldl (λa p=>a.set p.1 p.2) a)[p.1]? = some p.2) ∧
  ∀i,(∀p∈l,p.1≠i)→(l.foldl (λa p=>a.set p.1 p.2) a)[i]? = a[i]?:=by
 intro l
 induction l with
 |nil=>intro a _ _;exact ⟨rfl,by simp,λ_ _=>rfl⟩
 |cons p l ih=>
  intro a hn hl;simp only [cG,cm] at hn;obtain ⟨g1,g2,g3⟩:=ih (a.set p.1 p.2) hn.2 (λq hq=>by simpa using hl q (by simp [hq]));refine ⟨by simpa using g1,λq hq=>?_,λi hi=>?_⟩
  ·rcases af.1 hq with rfl | hq
   ·rw [cQ,g3 q.1 (λp hp e=>hn.1 (bJ.2 ⟨p,hp,e⟩)),dE,ζ rfl,ζ (hl q (by simp))]
   ·exact g2 q hq
  ·rw [cQ,g3 i (λq hq=>hi q (by simp [hq])),dE,η (hi p (by simp))]
theorem FU {α:Type} {nf:List Nat} {vs a:List α} (hl:nf.length=vs.length) (hn:nf.Nodup) (hlt:∀i∈nf,i<a.length) :
  ((nf.zip vs).foldl (λa p=>a.set p.1 p.2) a).length=a.length∧(∀(k i:Nat),nf[k]? = some i→((nf.zip vs).foldl (λa p=>a.set p.1 p.2) a)[i]? = vs[k]?)∧∀i,i∉nf→((nf.zip vs).foldl (λa p=>a.set p.1 p.2) a)[i]? = a[i]?:=by
 have e:(nf.zip vs).map (·.1)=nf:=dr (by omega);have hm:∀p∈nf.zip vs,p.1∈nf:=λp hp=>by rw [←e];exact bJ.2 ⟨p,hp,rfl⟩
 obtain ⟨g1,g2,g3⟩:=SH (nf.zip vs) a (by rw [e];exact hn) (λp hp=>hlt _ (hm p hp));refine ⟨g1,λk i hk=>?_,λi hi=>g3 i λp hp he=>hi (he ▸ hm p hp)⟩;have hkl:k<vs.length:=by rw [←hl];exact (aC.1 hk).1
 rw [aA hkl];have hp:(i,vs[k])∈nf.zip vs:=aj.2 ⟨k,by rw [List.getElem?_zip_eq_some];exact ⟨hk,aA hkl⟩⟩;exact g2 _ hp
section
variable {P:Program} {E:gL} {n:Nat} {G:Nat→Prop} {ρ:List Value} {t:T} {h:H} {a:Act} {w:World}
theorem ak.move {ns:List B} (hC:ak E n G ρ t (h++ns) a w) {nf:List Nat} (hl:nf.length=ns.length) (hnd:nf.Nodup) (hnw:∀i∈nf,h[i]? = some .nw) (hlo:∀i∈nf,E.ρ.length≤i) (hE:E.ρ.length≤h.length) (hEh:E.h.length≤h.length) {f:Nat→Nat}
  (hf1:∀k,k<h.length→f k=k) (hf2:∀(k i:Nat),nf[k]? = some i→f (h.length+k)=i) (hht:∀s,∀i∈eT (gs t s),i<h.length) (hhh:∀(i:Nat) (b:B),h[i]? = some b→∀j∈eZ b,j<h.length) :
  ∃ρ',ak E n G ρ' t ((nf.zip (ns.map (eR f))).foldl (λa w=>a.set w.1 w.2) h) a w∧∀(v:Value) (x:V),au G w ρ v x→au G w ρ' v (gS f x):=by
 have hO:=hC.ok;have hlen:ρ.length=h.length+ns.length:=by rw [hO.hr.len,aK]
 have hnlt:∀i∈nf,i<h.length:=λi hi=>(aC.1 (hnw i hi)).1;obtain ⟨a1,a2,a3⟩:=FU (vs:=ns.map (eR f)) (a:=h) (by simpa using hl) hnd hnlt;obtain ⟨b1,b2,b3⟩:=FU (vs:= ρ.drop h.length) (a:= ρ.take h.length) (by simp;omega) hnd (λi hi=>by have:=hnlt i hi;simp;omega);generalize hh':(nf.zip (ns.map (eR f))).foldl (λa w=>a.set w.1 w.2) h=h' at *;generalize hρ':(nf.zip (ρ.drop h.length)).foldl (λa w=>a.set w.1 w.2) (ρ.take h.length)=ρ' at *;have bl:ρ'.length=h.length:=by rw [b1];simp;omega
 have b2':∀(k i:Nat),nf[k]? = some i→ρ'[i]? = ρ[h.length+k]?:=λk i hk=>by rw [b2 k i hk,bF]
 have b3':∀i,i∉nf→i<h.length→ρ'[i]? = ρ[i]?:=λi hi hlt=>by rw [b3 i hi,ao,ζ hlt]
 have hun:∀i,x6 ρ i→i∉nf:=by
  rintro i ⟨v,h1,h2⟩ hi
  have hx:=hnw i hi;have hlt:=hnlt i hi;have:=hO.hr.rep i v .nw h1 (by rw [aT hlt];exact hx);exact h2 this
 have hg:∀i,x6 ρ i→ρ'[f i]? = ρ[i]?:=by
  intro i hi;have hni:=hun i hi;obtain ⟨v,h1,_⟩:=hi;have hil:=(aC.1 h1).1
  by_cases hlt:i<h.length
  ·rw [hf1 i hlt,b3' i hni hlt]
  ·obtain ⟨j,hj⟩:∃j,nf[i - h.length]? = some j:=⟨_,aA (by omega)⟩
   have:=hf2 _ _ hj;have e:h.length+(i - h.length)=i:=by omega
   rw [e] at this;rw [this,b2' _ _ hj,e]
 have src:∀(i:Nat) (v:Value) (y:B),ρ'[i]? = some v→h'[i]? = some y→∃(o:Nat) (y0:B),ρ[o]? = some v∧(h++ns)[o]? = some y0∧(y0 = .no↔y = .no)∧gh y=gh y0∧((∃k,nf[k]? = some i∧o=h.length+k)∨(i∉nf∧o=i∧i<h.length))∧(cY G w ρ v y0→cY G w ρ' v y):=by
  intro i v y h1 h2;have hil:i<h.length:=by rw [←bl];exact (aC.1 h1).1
  by_cases hi:i∈nf
  ·obtain ⟨k,hk⟩:=aj.1 hi;rw [b2' k i hk] at h1;rw [a2 k i hk,aB,aG] at h2;obtain ⟨y0,hy,rfl⟩:=h2;refine ⟨h.length+k,y0,h1,by rw [aY (by omega)];simpa using hy,(ka f y0).symm,nH f y0,.inl ⟨k,hk,rfl⟩,λhr=>?_⟩;exact hr.pL λj hj=>hg j (hr.ref j hj)
  ·rw [b3' i hi hil] at h1;rw [a3 i hi] at h2;refine ⟨i,y,h1,by rw [aT hil];exact h2,Iff.rfl,rfl,.inr ⟨hi,rfl,hil⟩,λhr=>?_⟩;exact hr.mono (λ_ h=>h) (λ_ _=>rfl) (λ_ _=>rfl) (λj hj=>by
    have:=hg j (hr.ref j hj);rwa [hf1 j (hhh i y h2 j hj)] at this)
 have back:∀b,own ρ' h' b→own ρ (h++ns) b:=by
  rintro b ⟨i,v,y,h1,h2,h3,h4⟩
  obtain ⟨o,y0,g1,g2,g3,g6,_⟩:=src i v y h1 h2;rw [eU,g6] at h4;exact ⟨o,v,y0,g1,g2,λe=>h3 (g3.1 e),h4⟩
 refine ⟨ρ',⟨⟨⟨by rw [bl,a1],λi v y h1 h2=>?_,λi i' v v' y y' b h1 h2 h3 h4 h5 h6 h7 h8=>?_,hO.hr.gl,λb hb ho=>hO.hr.gd b hb (back b ho),hO.hr.sF⟩,hO.gm,hO.go,λb hb=>hO.oo b (back b hb),hO.frame,hO.size,hO.os,hO.tape,hO.out,λi v hv hs=>?_,by rw [a1];exact hEh,λr hr=>let ⟨g1,g2,g3⟩:=hO.sC r hr;⟨g1,g2,λg4=>g3 (back r g4)⟩⟩,
  hC.df,hC.sz,λs=>(hC.tm s).mono (λ_ h=>h) (λ_ _=>rfl) (λj hj=>?_)⟩,λv x hx=>hx.pL λj hj=>hg j (hx.ref j hj)⟩
 ·obtain ⟨o,y0,g1,g2,_,_,_,g5⟩:=src i v y h1 h2;exact g5 (hO.hr.rep o v y0 g1 g2)
 ·obtain ⟨o,y0,g1,g2,g3,g6,g4,_⟩:=src i v y h1 h2;obtain ⟨o',y0',k1,k2,k3,k6,k4,_⟩:=src i' v' y' h4 h5;rw [eU,g6] at h7;rw [eU,k6] at h8;have hoo:=hO.hr.oB o o' v v' y0 y0' b g1 g2 (λe=>h3 (g3.1 e)) k1 k2 (λe=>h6 (k3.1 e)) h7 h8;rcases g4 with ⟨k,hk,rfl⟩ | ⟨_,rfl,hlt⟩<;>rcases k4 with ⟨k',hk',rfl⟩ | ⟨_,rfl,hlt'⟩
  ·have:k=k':=by omega
   subst this;rw [hk] at hk';exact aq hk'
  ·omega
  ·omega
  ·exact hoo
 ·have h0:=hO.hand i v hv hs;have hiE:=(aC.1 hv).1;have hi:i∉nf:=λhi=>by have:=hlo i hi;omega
  rw [b3' i hi (by omega)];exact h0
 ·have:=hg j ((hC.tm s).ref j hj);rwa [hf1 j (hht s j hj)] at this
end
section plain
def rb (acc:List (List Nat)) (d:List Nat):List (List Nat):=acc ++ [dd (d++d.flatMap λi=>(acc[i]?).getD [])]
theorem An {k:Nat}:∀{l:List Nat},k∈dd l↔k∈l
 |[]=>Iff.rfl
 |i :: l=>by
  have ih:=An (k:=k) (l:=l);simp only [dd];cases h:has l i with
  |true=>
   rw [δ,ih,af];exact ⟨.inr,λh'=>h'.elim (λe=>e ▸ cK.1 h) id⟩
  |false=>rw [ε,af,af,ih]
theorem M_:∀(ds acc:List (List Nat)),(∀i,i<acc.length→(ds.foldl rb acc)[i]? = acc[i]?)∧(ds.foldl rb acc).length=acc.length+ds.length ∧
    ∀(j:Nat) (d:List Nat),ds[j]? = some d→∃b:List Nat,(ds.foldl rb acc)[acc.length+j]? = some b∧(∀k∈d,k∈b)∧∀k∈b,k∈d∨∃k'∈d,∃b':List Nat,(ds.foldl rb acc)[k']? = some b'∧k∈b':=by
  intro ds
  induction ds with
  |nil=>intro acc;simp
  |cons d ds ih=>
    intro acc
    obtain ⟨h1,h2,h3⟩:=ih (rb acc d)
    have hl:(rb acc d).length=acc.length+1:=by simp [rb]
    have h1':∀i,i<acc.length→(ds.foldl rb (rb acc d))[i]? = acc[i]?:=λi hi=>by
      rw [h1 i (by omega)]
      simp only [rb]
      exact aT hi
    simp only [cQ]
    refine ⟨h1',by rw [h2,hl,aX];omega,λj e hj=>?_⟩
    cases j with
    |zero=>
      simp at hj
      subst hj
      refine ⟨dd (d++d.flatMap λi=>(acc[i]?).getD []),?_,λk hk=>An.2 (by simp [hk]),λk hk=>?_⟩
      · rw [h1 _ (by omega)]
        simp [rb]
      · rw [An, aR] at hk
        rcases hk with hk | hk
        · exact .inl hk
        · rw [aO] at hk
          obtain ⟨i,hi,hk⟩:=hk
          cases hai:acc[i]? with
          |none=>rw [hai] at hk;cases hk
          |some b=>
            rw [hai] at hk
            exact .inr ⟨i,hi,b,by rw [h1' i (aC.1 hai).1,hai],hk⟩
    |succ j=>
      obtain ⟨b,g1,g2,g3⟩:=h3 j e (by simpa using hj)
      rw [hl] at g1
      exact ⟨b,by rw [←g1];congr 1;omega,g2,g3⟩
theorem DO (ds:List (List Nat)):(B9 ds).length=ds.length∧∀(j:Nat) (d:List Nat),ds[j]? = some d→∃b:List Nat,(B9 ds)[j]? = some b∧(∀k∈d,k∈b)∧∀k∈b,k∈d∨∃k'∈d,∃b':List Nat,(B9 ds)[k']? = some b'∧k∈b':=by
 obtain ⟨_,h2,h3⟩:=M_ ds [];have e:B9 ds=ds.foldl rb []:=rfl;rw [e];refine ⟨by simpa using h2,λj d hj=>?_⟩;have:=h3 j d hj;simpa using this
theorem Cj:∀(bs:List (List Nat)) (k:Nat),lS k bs=true→∀(j:Nat) (b:List Nat),bs[j]? = some b→∀i,i<k+j→i∈b:=by
 intro bs
 induction bs with
 |nil=>intro k _ j b hj;simp at hj
 |cons c bs ih=>
  intro k hk j b hj i hi;simp only [lS,aP,aS,cn] at hk;cases j with
  |zero=>simp at hj;subst hj;exact cK.1 (hk.1 i (by omega))
  |succ j=>exact ih (k+1) hk.2 j b (by simpa using hj) i (by omega)
theorem Gp:∀(bs:List (List Nat)) (k:Nat),okB k bs=true→∀(j:Nat) (b:List Nat),bs[j]? = some b→∀i∈b,i<k+j:=by
 intro bs
 induction bs with
 |nil=>intro k _ j b hj;simp at hj
 |cons c bs ih=>
  intro k hk j b hj i hi;simp only [okB,aP,aS] at hk;cases j with
  |zero=>simp at hj;subst hj;have:=(fH ..).mp (hk.1 i hi);omega
  |succ j=>have:=ih (k+1) hk.2 j b (by simpa using hj) i hi;omega
theorem QT {q:List (I×List Nat)} (h:pM q=true) {i j:Nat} {x y:I×List Nat} (hi:q[i]? = some x) (hj:q[j]? = some y) (hne:i≠j) :
  (∀s,x.1.d=some s→y.1.d≠some s)∧∀s,y.1.d=some s→s∈bU x.1.o++v7 x.1.g→j∈x.2∨i∈y.2:=by
 simp only [pM,aS] at h;have hx:(x,i)∈q.zipIdx:=by rw [List.mem_zipIdx_iff_getElem?];exact hi
 have hy:(y,j)∈q.zipIdx:=by rw [List.mem_zipIdx_iff_getElem?];exact hj
 have h1:=h _ hx _ hy;simp only [fm hne,Bool.false_or,aP] at h1;refine ⟨λs h2 h3=>?_,λs h2 h3=>?_⟩
 ·have:=h1.1;rw [h2,h3] at this;simp at this
 ·have:=h1.2;rw [h2] at this;simp only [cI,dF] at this;rcases this with (h4 | h4) | h4
  ·rw [o5] at h4;exact absurd (cK.2 h3) h4
  ·exact .inl (cK.1 h4)
  ·exact .inr (cK.1 h4)
end plain
section
variable {P:Program} {E:gL} {n:Nat} {h:H} (ow:Nat→Bool)
def w8 (P:Program) (i:I) (t:T) (h:H) (v:V):Prop:=
 match i.g with
 |none=>Qt ow P i.o t h v
 |some (j,x)=>(∃b,gs t j = .d (.bool b)∧(b=x→Qt ow P i.o t h v)∧(b≠x→v = .ud))∨(gs t j = .ud∧v = .ud)
theorem Qt.congr {x:X} {t t':T} {v:V} (hq:Qt ow P x t h v) (ht:∀s∈bU x,gs t' s=gs t s):Qt ow P x t' h v:=
 λt'' h1 h2=>hq t'' h1 λs hs=>(h2 s hs).trans (ht s hs)
theorem Qt.more {x:X} {t:T} {h1:H} {v:V} (hq:Qt ow P x t h v) (hM:NH h1 h):Qt ow P x t h1 v:=
 λt' h2 ht hM2=>hq t' h2 ht λi b hb hn=>hM2 i b (hM i b hb hn) hn
theorem w8.congr {i:I} {t t':T} {v:V} (hq:w8 ow P i t h v) (ht:∀s∈bU i.o++v7 i.g,gs t' s=gs t s):w8 ow P i t' h v:=by
 unfold w8 at hq ⊢;have h1:∀s∈bU i.o,gs t' s=gs t s:=λs hs=>ht s (by simp [hs]);split at hq
 ·exact Qt.congr ow hq h1
 ·rename_i j x hg;have h2:gs t' j=gs t j:=ht j (by simp [v7,hg]);rw [h2];rcases hq with ⟨b,g1,g2,g3⟩ | hq
  ·exact .inl ⟨b,g1,λhb=>Qt.congr ow (g2 hb) h1,g3⟩
  ·exact .inr hq
theorem w8.more {i:I} {t:T} {h1:H} {v:V} (hq:w8 ow P i t h v) (hM:NH h1 h):w8 ow P i t h1 v:=by
 unfold w8 at hq ⊢;split at hq
 ·exact Qt.more ow hq hM
 ·rcases hq with ⟨b,g1,g2,g3⟩ | hq
  ·exact .inl ⟨b,g1,λhb=>Qt.more ow (g2 hb) hM,g3⟩
  ·exact .inr hq
structure R where
  v:V
  ws:List (Nat×B)
  rd:List Nat
  kl:List Nat
def VN (i:I) (t:T) (a:H) (r:R):Prop:=
 ∃x v n id off cs,i=⟨none,.st x v n,none⟩∧gv t x = .p id off∧get? a id=some (.cells cs)∧(Nat.beq (gv t v).cs.length n=true∧Nat.ble (off+n) cs.length=true∧(gv t v).cs.all fA=true)∧r=⟨.ud,[(id,.cells (lay cs off (gv t v).cs))],[],[]⟩
def W9 (lo:Nat) (i:I) (a:H) (r:R):Prop:=
 ∃d id b v o,i=⟨some d,o,none⟩∧get? a id=some .nw∧lo≤id∧((∃cs,o = .al cs∧b = .cells cs∧v = .p id 0)∨(∃pl,o = .mm pl∧b=KM pl∧v = .mp id))∧r=⟨v,[(id,b)],[],[]⟩
def WC (P:Program) (lo:Nat) (i:I) (t:T) (a:H) (r:R):Prop:=
 ∃f args ids r0 ns nf,i.g=none∧i.o = .cf f args∧ow f=false∧reach a 100 ((args.map λx=>cH (gv t x)).flatMap eT) []=ids∧FQ a ids ((args.map λx=>cH (gv t x)).flatMap eT)=true∧(args.map λx=>cH (gv t x)).flatMap Ur = [] ∧
  Sat P f ((args.map λx=>cH (gv t x)).map (gS (pos ids))) (ids.map λi=>eR (pos ids) ((get? a i).getD .no)) (λout h'=>out = .ret r0∧h'=(ids.map λi=>eR (pos ids) ((get? a i).getD .no))++ns) ∧
  nf.length=ns.length∧(ids.isEmpty&&ns.isEmpty)=false∧(∀i∈nf,lo≤i∧get? a i=some .nw)∧nf.Nodup∧r=⟨gS (gm ids nf) r0,nf.zip (ns.map (eR (gm ids nf))),ids,rowsOf a ids⟩
def Vm (P:Program) (lo:Nat) (i:I) (t:T) (a:H) (r:R):Prop:=
 ∃f args r0 ns nf,i.g=none∧i.o = .cf f args∧(ow f=false∧(args.map λx=>cH (gv t x)).flatMap eT≠[])∧(Sat P f ((args.map λx=>cH (gv t x)).map (rY a)) [] λout h'=>out = .ret r0∧h'=ns) ∧
  nf.length=ns.length∧ns.all yE=true∧Di r0=true∧(∀i∈nf,lo≤i∧get? a i=some .nw)∧nf.Nodup∧r=⟨gS (λk=>(get? nf k).getD 0) r0,nf.zip ns,(args.map λx=>cH (gv t x)).flatMap eT,[]⟩
def VK (P:Program) (lo:Nat) (i:I) (t:T) (a:H) (r:R):Prop:=
 ∃f args r0 ns nf ids,i.g=none∧i.o = .cf f args∧(args.map λx=>cH (gv t x)).flatMap eT=ids∧(ids.Nodup∧∀i∈ids,∃z rs,get? a i=some (.rows z rs)) ∧
  (Sat P f ((args.map λx=>cH (gv t x)).map (gS (pos ids))) (ids.map λi=>eR (pos ids) ((get? a i).getD .no)) λout h'=>out = .ret r0∧h'=List.replicate ids.length .no++ns) ∧
  nf.length=ns.length∧(∀k∈ns.flatMap eZ++eT r0,ids.length≤k)∧(∀i∈nf,lo≤i∧get? a i=some .nw)∧nf.Nodup∧r=⟨gS (gt ids.length nf) r0,(ids.map λi=>(i,B.no))++nf.zip (ns.map (eR (gt ids.length nf))),ids,[]⟩
def W6 (lo:Nat) (i:I) (t:T) (a:H) (r:R):Prop:=
 ∃d id z zero n parts ds,i=⟨some d,.bs z zero n parts,none⟩∧get? a id=some .nw∧lo≤id∧(parts.all λp=>Nat.beq (gv t p.2).cs.length z&&Nat.ble (p.1*z+z) (n*z)&&(gv t p.2).cs.all fA)=true ∧
  (∀(t':T) (h':H) (K':List D→T→H→Prop),K' ds t' h'→BP (parts.foldl (λcs p=>lay cs (p.1*z) (gv t p.2).cs) (List.replicate n zero).flatten) t' h' K')∧r=⟨.os id,[(id,.rows z (chunk z n ds))],[],[]⟩
def ze (P:Program) (lo:Nat) (i:I) (t:T) (a:H) (r:R):Prop:=
 (r.ws = []∧r.kl = []∧w8 ow P i t (yl r.rd a) r.v)∨VN i t a r∨W9 lo i a r∨WC ow P lo i t a r∨Vm ow P lo i t a r∨VK P lo i t a r∨W6 lo i t a r
def kJ (r:R):List Nat:=r.ws.map (·.1)
def Nh (r:R):List Nat:=eT r.v++r.ws.flatMap λw=>eZ w.2
def wr (a:H) (r:R):H:=r.ws.foldl (λa w=>a.set w.1 w.2) a
theorem AD {ids nf:List Nat} {ns:List B} {f:Nat→Nat} (hl:nf.length=ns.length):((ids.map λi=>(i,B.no))++nf.zip (ns.map (eR f))).map (·.1)=ids++nf:=by
 rw [bZ,bn];congr 1
 ·exact (aZ λ_ _=>rfl).trans (List.map_id' ids)
 ·exact dr (by simp [hl])
theorem ze.ws {P:Program} {lo:Nat} {i:I} {t:T} {a:H} {r:R} (h:ze ow P lo i t a r):(r.ws.map (·.1)).Nodup∧∀w∈r.ws,w.1<a.length:=by
 rcases h with ⟨h,_⟩ | ⟨x,v,n,id,off,cs,_,_,h1,_,rfl⟩ | ⟨d,id,b,v,o,_,h1,_,_,rfl⟩ | ⟨f,args,ids,r0,ns,nf,_,_,_,_,_,_,_,hl,_,h1,h2,rfl⟩ | ⟨f,args,r0,ns,nf,_,_,_,_,hl,_,_,h1,h2,rfl⟩ | ⟨f,args,r0,ns,nf,ids,_,_,_,⟨h3,h4⟩,_,hl,_,h1,h2,rfl⟩ | ⟨d,id,z,zero,n,parts,ds,_,h1,_,_,_,rfl⟩
 ·rw [h];simp
 ·rw [get?_eq] at h1;simpa using (aC.1 h1).1
 ·rw [get?_eq] at h1;simpa using (aC.1 h1).1
 ·have e:(nf.zip (ns.map (eR (gm ids nf)))).map (·.1)=nf:=dr (by simp [hl]);refine ⟨by rw [e];exact h2,λw hw=>?_⟩;have:w.1∈nf:=by rw [←e];exact bJ.2 ⟨w,hw,rfl⟩
  have:=(h1 _ this).2;rw [get?_eq] at this;exact (aC.1 this).1
 ·have e:(nf.zip ns).map (·.1)=nf:=dr (by omega);refine ⟨by rw [e];exact h2,λw hw=>?_⟩;have:w.1∈nf:=by rw [←e];exact bJ.2 ⟨w,hw,rfl⟩
  have:=(h1 _ this).2;rw [get?_eq] at this;exact (aC.1 this).1
 ·have e:((ids.map λi=>(i,B.no))++nf.zip (ns.map (eR (gt ids.length nf)))).map (·.1)=ids++nf:=AD hl;refine ⟨?_,λw hw=>?_⟩
  ·rw [e];refine List.nodup_append.2 ⟨h3,h2,λi hi j hj hij=>?_⟩;subst hij;obtain ⟨z,rs,h5⟩:=h4 i hi;rw [(h1 i hj).2] at h5;cases h5
  ·have:w.1∈ids++nf:=by rw [←e];exact bJ.2 ⟨w,hw,rfl⟩
   rcases aR.1 this with h5 | h5
   ·obtain ⟨z,rs,h5⟩:=h4 _ h5;rw [get?_eq] at h5;exact (aC.1 h5).1
   ·have:=(h1 _ h5).2;rw [get?_eq] at this;exact (aC.1 this).1
 ·rw [get?_eq] at h1;simpa using (aC.1 h1).1
def ug:List I→List V→T→T
 |i :: r,v :: vs,t=>ug r vs (fk i.d v t)
 |_,_,t=>t
theorem nv {d:Option Nat} {v:V} {t:T} {s:Nat}:gs (fk d v t) s=if d=some s then v else gs t s:=by
 cases d with
 |none=>simp [fk]
 |some i=>
  simp only [fk,gI,aE]
  by_cases e:i=s
  ·subst e;simp
  ·rw [fm e,η e];rfl
theorem su:∀(q:List I) (vs:List V) (t t':T),(∀s,gs t' s=gs t s)→∀s,gs (ug q vs t') s=gs (ug q vs t) s:=by
 intro q
 induction q with
 |nil=>intro vs t t' ht s;exact ht s
 |cons i q ih=>
  intro vs t t' ht s;cases vs with
  |nil=>exact ht s
  |cons v vs=>exact ih vs _ _ (λs=>by rw [nv,nv,ht s]) s
theorem A3:∀(q:List I) (vs:List V) (t:T),vs.length=q.length→∀s,(∃(k:Nat) (i:I),q[k]? = some i∧i.d=some s∧vs[k]? = some (gs (ug q vs t) s))∨((∀(k:Nat) (i:I),q[k]? = some i→i.d≠some s)∧gs (ug q vs t) s=gs t s):=by
 intro q
 induction q with
 |nil=>intro vs t _ s;exact .inr ⟨by simp,rfl⟩
 |cons i q ih=>
  intro vs t hl s;cases vs with
  |nil=>simp at hl
  |cons v vs=>
   simp only [ug];rcases ih vs (fk i.d v t) (by simpa using hl) s with ⟨k,j,h1,h2,h3⟩ | ⟨h1,h2⟩
   ·exact .inl ⟨k+1,j,by simpa using h1,h2,by simpa using h3⟩
   ·rw [h2,nv]
    by_cases hd:i.d=some s
    ·exact .inl ⟨0,i,rfl,hd,by simp [hd]⟩
    ·refine .inr ⟨λk j hj=>?_,by rw [η hd]⟩;cases k with
     |zero=>simp at hj;subst hj;exact hd
     |succ k=>exact h1 k j (by simpa using hj)
theorem ze.congr {lo:Nat} {i:I} {t t':T} {a:H} {r:R} (hq:ze ow P lo i t a r) (ht:∀s∈bU i.o++v7 i.g,gs t' s=gs t s):ze ow P lo i t' a r:=by
 rcases hq with ⟨h1,h2,h3⟩ | ⟨x,v,n,id,off,cs,rfl,h1,h2,h3,h4⟩ | hq | ⟨f,args,ids,r0,ns,nf,h1,h2,h⟩ | ⟨f,args,r0,ns,nf,h1,h2,h⟩ | ⟨f,args,r0,ns,nf,ids,h1,h2,h⟩ | ⟨d,id,z,zero,n,parts,ds,rfl,h1,h2,h3,h4,h5⟩
 ·exact .inl ⟨h1,h2,w8.congr ow h3 ht⟩
 ·have e1:gv t' x=gv t x:=eE λs hs=>ht s (by simp [bU,hs]);have e2:gv t' v=gv t v:=eE λs hs=>ht s (by simp [bU,hs]);exact .inr (.inl ⟨x,v,n,id,off,cs,rfl,by rw [e1];exact h1,h2,by rw [e2];exact h3,by rw [e2];exact h4⟩)
 ·exact .inr (.inr (.inl hq))
 ·have e:(args.map λx=>cH (gv t' x))=args.map λx=>cH (gv t x):=aZ λx hx=>by
   rw [eE (t:=t) (t':=t') λs hs=>ht s (by rw [h2];simp only [bU,aR,aO];exact .inl ⟨x,hx,hs⟩)]
  refine .inr (.inr (.inr (.inl ⟨f,args,ids,r0,ns,nf,h1,h2,?_⟩)));rw [e];exact h
 ·have e:(args.map λx=>cH (gv t' x))=args.map λx=>cH (gv t x):=aZ λx hx=>by
   rw [eE (t:=t) (t':=t') λs hs=>ht s (by rw [h2];simp only [bU,aR,aO];exact .inl ⟨x,hx,hs⟩)]
  refine .inr (.inr (.inr (.inr (.inl ⟨f,args,r0,ns,nf,h1,h2,?_⟩))));rw [e];exact h
 ·have e:(args.map λx=>cH (gv t' x))=args.map λx=>cH (gv t x):=aZ λx hx=>by
   rw [eE (t:=t) (t':=t') λs hs=>ht s (by rw [h2];simp only [bU,aR,aO];exact .inl ⟨x,hx,hs⟩)]
  refine .inr (.inr (.inr (.inr (.inr (.inl ⟨f,args,r0,ns,nf,ids,h1,h2,?_⟩)))));rw [e];exact h
 ·have e:∀p∈parts,gv t' p.2=gv t p.2:=λp hp=>eE λs hs=>ht s (by simp only [bU,aR,aO];exact .inl ⟨p,hp,hs⟩);refine .inr (.inr (.inr (.inr (.inr (.inr ⟨d,id,z,zero,n,parts,ds,rfl,h1,h2,?_,?_,h5⟩)))))
  ·rw [←h3];exact DR parts λp hp=>by rw [e p hp]
  ·rw [xH (g:=λcs p=>lay cs (p.1*z) (gv t p.2).cs) parts _ λp hp b=>by rw [e p hp]];exact h4
theorem pZ {l:List (Nat×Nat)} {bef ids:List Nat}:ky l bef ids=true↔∀e∈l,e.2∈bef∨e.1∉ids:=by
 simp only [ky,aS,cI,dF,cK,o5];exact ⟨λh e he=>(h e he).imp id λh' hi=>h' (cK.2 hi),λh e he=>(h e he).imp id λh' hi=>h' (cK.1 hi)⟩
theorem kS {l r:List (Nat×Nat)} {bef ids:List Nat}:ky (l++r) bef ids=true↔ky l bef ids=true∧ky r bef ids=true:=by
 simp only [ky,List.all_append,aP]
def Mn (r r':R):Prop:=(∃i∈kJ r,i∈r'.rd∨i∈kJ r')∨(∃i∈r.rd,i∈kJ r')∨∃i∈r.kl,i∈Nh r'
def N_ (g:Lg) (bef:List Nat) (r:R):Prop:=ky g.lw bef r.rd=true∧ky g.lw bef (kJ r)=true∧ky g.lr bef (kJ r)=true∧ky g.lk bef (Nh r)=true
theorem N_.put {g:Lg} {bef rd kl fr:List Nat} {ws:List (Nat×B)} {r:R} (h:N_ (g.put rd ws kl fr) bef r):N_ g bef r:=
 ⟨(kS.1 h.1).2,(kS.1 h.2.1).2,(kS.1 h.2.2.1).2,(kS.1 h.2.2.2).2⟩
theorem N_.Mn {g:Lg} {bef fr:List Nat} {r r':R} (h:N_ (g.put r.rd r.ws r.kl fr) bef r') (hc:Mn r r'):g.p∈bef:=by
 obtain ⟨h1,h2,h3,h4⟩:=h
 replace h1:=pZ.1 (kS.1 h1).1
 replace h2:=pZ.1 (kS.1 h2).1
 replace h3:=pZ.1 (kS.1 h3).1
 replace h4:=pZ.1 (kS.1 h4).1
 have hw:∀i∈kJ r,(i,g.p)∈r.ws.map λw=>(w.1,g.p):=λi hi=>by
  obtain ⟨w,hw,rfl⟩:=bJ.1 hi;exact bJ.2 ⟨w,hw,rfl⟩
 rcases hc with ⟨i,hi,hc | hc⟩ | ⟨i,hi,hc⟩ | ⟨i,hi,hc⟩
 ·exact (h1 _ (hw i hi)).resolve_right λhn=>hn hc
 ·exact (h2 _ (hw i hi)).resolve_right λhn=>hn hc
 ·exact (h3 (i,g.p) (bJ.2 ⟨i,hi,rfl⟩)).resolve_right λhn=>hn hc
 ·exact (h4 (i,g.p) (bJ.2 ⟨i,hi,rfl⟩)).resolve_right λhn=>hn hc
structure Ref (P:Program) (lo:Nat) (h0:H) (q:List (I×List Nat)) (t:T) (a:H) (g:Lg) (rs:List R) (t':T) (a':H):Prop where
  r1:rs.length=q.length
  r2:∀s,gs t' s=gs (ug (q.map (·.1)) (rs.map (·.v)) t) s
  r3:∀(j:Nat) (x:I×List Nat),q[j]? = some x→∃r,rs[j]? = some r∧ze ow P lo x.1 (ug ((q.take j).map (·.1)) ((rs.take j).map (·.v)) t) ((rs.take j).foldl wr a) r
  r4:a'=rs.foldl wr a
  r5:∀(j:Nat) (r:R) (x:I×List Nat),rs[j]? = some r→q[j]? = some x→N_ g x.2 r
  r6:∀(j k:Nat) (r r':R) (y:I×List Nat),rs[j]? = some r→rs[k]? = some r'→q[k]? = some y→j<k→Mn r r'→g.p+j∈y.2
  r7:∀(j:Nat) (r:R),rs[j]? = some r→∀id∈r.kl,(∀p∈t,id∉eT p.2)∧(∀(i:Nat) (b:B),h0[i]? = some b→i∉r.rd→id∉eZ b)∧(∀w∈g.ct,w.1∉r.rd→id∉eZ w.2) ∧
    ∀(k:Nat) (r':R) (x:I×List Nat),k<j→rs[k]? = some r'→q[k]? = some x→(∀d,x.1.d=some d→id∉eT r'.v)∧∀w∈r'.ws,w.1∉r.rd→id∉eZ w.2
theorem Ref.cons {lo:Nat} {h0:H} {x:I×List Nat} {q:List (I×List Nat)} {t t1 t':T} {a a1 a':H} {g:Lg} {rs:List R} (r:R) (fr:List Nat) (hr:Ref ow P lo h0 q t1 a1 (g.put r.rd r.ws r.kl fr) rs t' a') (ht1:∀s,gs t1 s=gs (fk x.1.d r.v t) s)
  (hsub:∀p∈t,p∈t1) (hin:∀d,x.1.d=some d→(d,r.v)∈t1) (hv:ze ow P lo x.1 t a r) (ha:a1=wr a r) (hc:N_ g x.2 r)
  (hk:∀id∈r.kl,(∀p∈t,id∉eT p.2)∧(∀(i:Nat) (b:B),h0[i]? = some b→i∉r.rd→id∉eZ b)∧∀w∈g.ct,w.1∉r.rd→id∉eZ w.2):Ref ow P lo h0 (x :: q) t a g (r :: rs) t' a':=by
 refine ⟨by simp [hr.r1],λs=>?_,λj y hj=>?_,by rw [hr.r4,ha];rfl,λj r' y hj hy=>?_,λj k r1 r2 y hj hk hy hlt hcf=>?_,λj r1 hj id hid=>?_⟩
 ·rw [hr.r2 s];exact su _ _ _ _ ht1 s
 ·cases j with
  |zero=>simp at hj;subst hj;exact ⟨r,rfl,hv⟩
  |succ j=>
   obtain ⟨u,g1,g2⟩:=hr.r3 j y (by simpa using hj);refine ⟨u,by simpa using g1,?_⟩;simp only [dV,cG,ug,cQ];rw [←ha];exact ze.congr ow g2 λs _=>(su _ _ _ _ ht1 s).symm
 ·cases j with
  |zero=>simp at hj hy;subst hj hy;exact hc
  |succ j=>exact (hr.r5 j r' y (by simpa using hj) (by simpa using hy)).put
 ·cases k with
  |zero=>omega
  |succ k=>
   cases j with
   |zero=>
    simp at hj;subst hj;exact (hr.r5 k r2 y (by simpa using hk) (by simpa using hy)).Mn hcf
   |succ j=>
    have:=hr.r6 j k r1 r2 y (by simpa using hj) (by simpa using hk) (by simpa using hy) (by omega) hcf;have e:(g.put r.rd r.ws r.kl fr).p=g.p+1:=rfl;rw [e] at this;have e2:g.p+(j+1)=g.p+1+j:=by omega
    rw [e2];exact this
 ·cases j with
  |zero=>
   simp at hj;subst hj;obtain ⟨k1,k2,k3⟩:=hk id hid;exact ⟨k1,k2,k3,λk r' x hk=>by omega⟩
  |succ j=>
   obtain ⟨k1,k2,k3,k4⟩:=hr.r7 j r1 (by simpa using hj) id hid;refine ⟨λp hp=>k1 p (hsub p hp),k2,λw hw=>k3 w (fI _ hw),λk r' y hlt hk hy=>?_⟩;cases k with
   |zero=>
    simp at hk hy;subst hk hy;exact ⟨λd hd=>k1 _ (hin d hd),λw hw=>k3 w (fW _ hw)⟩
   |succ k=>exact k4 k r' y (by omega) (by simpa using hk) (by simpa using hy)
theorem tw {kl l:List Nat}:free kl l=true↔∀id∈kl,id∉l:=by
 simp only [free,aS,dF,o5];exact ⟨λh id h1 h2=>h id h2 (cK.2 h1),λh id h1 h2=>h id (cK.1 h2) h1⟩
theorem Pl {lo:Nat} {h0:H} {K:T→H→Prop}:∀(q:List (I×List Nat)) (t:T) (a:H) (g:Lg),rq (Sat P) ow lo h0 q t a g K→∃(rs:List R) (t':T) (a':H),K t' a'∧Ref ow P lo h0 q t a g rs t' a':=by
  intro q
  induction q with
  |nil=>intro t a g hk;exact ⟨[],t,a,hk,rfl,λ_=>rfl,by simp,rfl,by simp,by simp,by simp⟩
  |cons x q ih=>
    intro t a g hk
    have fin:∀(r:R) (t1:T) (a1:H) (fr:List Nat),(∀s,gs t1 s=gs (fk x.1.d r.v t) s)→(∀p∈t,p∈t1)→(∀d,x.1.d=some d→(d,r.v)∈t1)→ze ow P lo x.1 t a r→a1=wr a r→N_ g x.2 r →
        (∀id∈r.kl,(∀p∈t,id∉eT p.2)∧(∀(i:Nat) (b:B),h0[i]? = some b→i∉r.rd→id∉eZ b)∧∀w∈g.ct,w.1∉r.rd→id∉eZ w.2)→rq (Sat P) ow lo h0 q t1 a1 (g.put r.rd r.ws r.kl fr) K →
        ∃(rs:List R) (t':T) (a':H),K t' a'∧Ref ow P lo h0 (x :: q) t a g rs t' a':=by
      intro r t1 a1 fr ht1 hsub hin hv ha hc hkl hk
      obtain ⟨rs,t',a',hK,hR⟩:=ih t1 a1 _ hk
      exact ⟨r :: rs,t',a',hK,Ref.cons ow r fr hR ht1 hsub hin hv ha hc hkl⟩
    have nokill:∀(r:R),r.kl = []→(∀id∈r.kl,(∀p∈t,id∉eT p.2)∧(∀(i:Nat) (b:B),h0[i]? = some b→i∉r.rd→id∉eZ b)∧∀w∈g.ct,w.1∉r.rd→id∉eZ w.2):=by
      intro r hr id hid
      rw [hr] at hid
      cases hid
    have okn:∀(l:List (Nat×Nat)) (bef:List Nat),ky l bef []=true:=λl bef=>pZ.2 λe _=>.inr (by simp)
    have nwok:∀{nf:List Nat},(nf.all λi=>Nat.ble lo i&&MA ((get? a i).getD .no))=true→∀i∈nf,lo≤i∧get? a i=some .nw:=λd3 i hi=>by
      have:=aS.1 d3 i hi
      simp only [aP] at this
      refine ⟨bA this.1,?_⟩
      have h2:=this.2
      cases hh:get? a i with
      |none=>rw [hh] at h2;cases h2
      |some b=>rw [hh] at h2;cases b<;>first | rfl | cases h2
    have putin:∀(v:V) (t0:T) (d:Nat),x.1.d=some d→(d,v)∈fk x.1.d v t0:=by
      intro v t0 d hd
      rw [hd];simp [fk]
    have putsub:∀(v:V) (t0:T),∀p∈t0,p∈fk x.1.d v t0:=by
      intro v t0 p hp
      cases x.1.d with
      |none=>exact hp
      |some d=>simp [fk,hp]
    have quiet:∀(rd:List Nat) (v:V) (t0:T),(∀s,gs (fk x.1.d v t0) s=gs (fk x.1.d v t) s)→(∀p∈t,p∈t0)→w8 ow P x.1 t (yl rd a) v→ky g.lw x.2 rd=true→ky g.lk x.2 (eT v)=true→rq (Sat P) ow lo h0 q (fk x.1.d v t0) a (g.put rd [] [] g.fr) K→∃(rs:List R) (t':T) (a':H),K t' a'∧Ref ow P lo h0 (x :: q) t a g rs t' a':=
      λrd v t0 ht0 hsub hv h1 h2 hk=>fin ⟨v,[],rd,[]⟩ _ a g.fr ht0 (λp hp=>putsub v t0 p (hsub p hp)) (λd hd=>putin v t0 d hd) (.inl ⟨rfl,rfl,hv⟩) rfl ⟨h1,okn _ _,okn _ _,by simpa [Nh] using h2⟩ (nokill _ rfl) hk
    have two:S8 (Sat P) ow x.1.o x (rq (Sat P) ow lo h0 q) t a g K→∃(rs:List R) (t':T) (a':H),K t' a'∧Ref ow P lo h0 (x :: q) t a g rs t' a':=by
      intro hk
      unfold S8 at hk
      cases hg:x.1.g with
      |none=>
        rw [hg] at hk
        simp only [Rr,bf] at hk
        obtain ⟨c1,hk⟩:=hk
        obtain ⟨v,⟨c2,h1⟩,h2⟩:=GZ ow hk
        rw [fU] at h1
        exact quiet _ v t (λ_=>rfl) (λ_ h=>h) (by unfold w8;rw [hg];exact h2) c1 c2 h1
      |some p=>
        obtain ⟨j,y⟩:=p
        rw [hg] at hk
        simp only at hk
        split at hk
        · rename_i b hb
          have kn:∀s,gs ((j,.d (.bool b)) :: t) s=gs t s:=xF hb
          have kp:∀v s,gs (fk x.1.d v ((j,.d (.bool b)) :: t)) s=gs (fk x.1.d v t) s:=λv s=>by rw [nv,nv,kn]
          have yes:b=y→Rr (Sat P) ow x.1.o x (rq (Sat P) ow lo h0 q) ((j,.d (.bool b)) :: t) a g K→∃(rs:List R) (t':T) (a':H),K t' a'∧Ref ow P lo h0 (x :: q) t a g rs t' a':=by
            intro hby hk
            simp only [Rr,bf] at hk
            obtain ⟨c1,hk⟩:=hk
            obtain ⟨v,⟨c2,h1⟩,h2⟩:=GZ ow hk
            rw [fU] at h1
            refine quiet _ v _ (kp v) (λp hp=>by simp [hp]) ?_ c1 c2 h1
            unfold w8
            rw [hg]
            exact .inl ⟨b,hb,λ_=>Qt.congr ow h2 λs _=>(kn s).symm,λhn=>absurd hby hn⟩
          have no:b≠y→(ub x.1.d .ud ((j,.d (.bool b)) :: t) λt=>rq (Sat P) ow lo h0 q t a (g.put [] [] [] g.fr) K)→∃(rs:List R) (t':T) (a':H),K t' a'∧Ref ow P lo h0 (x :: q) t a g rs t' a':=by
            intro hby hk
            rw [fU] at hk
            refine quiet [] .ud _ (kp .ud) (λp hp=>by simp [hp]) ?_ (okn _ _) (okn _ _) hk
            unfold w8
            rw [hg]
            exact .inl ⟨b,hb,λhn=>absurd hn hby,λ_=>rfl⟩
          cases b<;>cases y<;>simp only [sp,δ,ε] at hk
          · exact yes rfl hk
          · exact no (by simp) hk
          · exact no (by simp) hk
          · exact yes rfl hk
        · rename_i hb
          rw [fU] at hk
          exact quiet [] .ud _ (λ_=>rfl) (λ_ h=>h) (by unfold w8;rw [hg];exact .inr ⟨hb,rfl⟩) (okn _ _) (okn _ _) hk
        · exact hk.elim
    by_cases hal:∃cs,x.1.o = .al cs
    · obtain ⟨cs,ho⟩:=hal
      simp only [n9,NV,ho] at hk
      split at hk
      · rename_i d id fr' hg hd hfr
        split at hk
        · rename_i hnw
          obtain ⟨hcc,hk⟩:=hk
          rw [bf] at hk
          simp only [okW,aP] at hcc
          obtain ⟨⟨c6,c4,c5⟩,c7⟩:=hcc
          have hx:x.1=⟨some d,.al cs,none⟩:=by
            cases hx1:x.1
            rw [hx1] at ho hg hd
            simp only at ho hg hd
            subst ho hg hd
            rfl
          exact fin ⟨.p id 0,[(id,.cells cs)],[],[]⟩ _ _ fr' (λs=>by rw [hd];rfl) (λp hp=>by simp [hp]) (λd' hd'=>by rw [hd] at hd';cases hd';simp) (.inr (.inr (.inl ⟨d,id,_,_,_,hx,hnw,bA c6,.inl ⟨cs,rfl,rfl,rfl⟩,rfl⟩))) rfl
            ⟨okn _ _,c4,c5,by simpa [Nh,eT,jJ,kI,ij] using c7⟩ (nokill _ rfl) hk
        · exact hk.elim
      · exact hk.elim
    by_cases hmm:∃pl,x.1.o = .mm pl
    · obtain ⟨pl,ho⟩:=hmm
      simp only [n9,NV,ho] at hk
      split at hk
      · rename_i d id fr' hg hd hfr
        split at hk
        · rename_i hnw
          obtain ⟨hcc,hk⟩:=hk
          rw [bf] at hk
          simp only [okW,aP] at hcc
          obtain ⟨⟨c6,c4,c5⟩,c7⟩:=hcc
          have hx:x.1=⟨some d,.mm pl,none⟩:=by
            cases hx1:x.1
            rw [hx1] at ho hg hd
            simp only at ho hg hd
            subst ho hg hd
            rfl
          exact fin ⟨.mp id,[(id,KM pl)],[],[]⟩ _ _ fr' (λs=>by rw [hd];rfl) (λp hp=>by simp [hp]) (λd' hd'=>by rw [hd] at hd';cases hd';simp) (.inr (.inr (.inl ⟨d,id,_,_,_,hx,hnw,bA c6,.inr ⟨pl,rfl,rfl,rfl⟩,rfl⟩))) rfl
            ⟨okn _ _,c4,c5,by simpa [Nh,eT,jJ,kI,ij,MB] using c7⟩ (nokill _ rfl) hk
        · exact hk.elim
      · exact hk.elim
    by_cases hst:∃y v n,x.1.o = .st y v n
    · obtain ⟨y,v,n,ho⟩:=hst
      simp only [n9,NV,ho] at hk
      split at hk
      · rename_i id off hg hd hy
        split at hk
        · rename_i cs hcs
          rw [bf] at hk
          obtain ⟨⟨⟨c1,c2,c3⟩,c4⟩,hk⟩:=hk
          rw [bf] at hk
          simp only [okW,aP] at c4
          have hx:x.1=⟨none,.st y v n,none⟩:=by
            cases hx1:x.1
            rw [hx1] at ho hg hd
            simp only at ho hg hd
            subst ho hg hd
            rfl
          exact fin ⟨.ud,[(id,.cells (lay cs off (gv t v).cs))],[],[]⟩ t _ g.fr (λs=>by rw [hd];rfl) (λ_ h=>h) (λd' hd'=>by rw [hd] at hd';cases hd') (.inr (.inl ⟨y,v,n,id,off,cs,hx,hy,hcs,⟨c1,c2,c3⟩,rfl⟩)) rfl
            ⟨okn _ _,c4.1.1,c4.1.2,by simpa [Nh,eT,jJ,kI,ij] using c4.2⟩ (nokill _ rfl) hk
        · exact hk.elim
      · exact hk.elim
    by_cases hbs:∃z zero n parts,x.1.o = .bs z zero n parts
    · obtain ⟨z, zero, n, parts, ho⟩ := hbs
      simp only [n9,NV,ho] at hk
      rcases RZ hk with hk | hk
      · split at hk
        · rename_i d id fr' hg hd hfr
          split at hk
          · rename_i hnw
            rw [bf] at hk
            obtain ⟨hc,hk⟩:=hk
            obtain ⟨ds,hk,hfz⟩:=Nr _ _ hk
            rw [bf] at hk
            obtain ⟨hcc,hk⟩:=hk
            rw [bf] at hk
            simp only [okW,aP] at hcc
            obtain ⟨⟨c6,c4,c5⟩,c7⟩:=hcc
            have hx:x.1=⟨some d,.bs z zero n parts,none⟩:=by
              cases hx1:x.1
              rw [hx1] at ho hg hd
              simp only at ho hg hd
              subst ho hg hd
              rfl
            exact fin ⟨.os id,[(id,.rows z (chunk z n ds))],[],[]⟩ _ _ fr' (λs=>by rw [hd];rfl) (λp hp=>by simp [hp]) (λd' hd'=>by rw [hd] at hd';cases hd';simp) (.inr (.inr (.inr (.inr (.inr (.inr ⟨d,id,z,zero,n,parts,ds,hx,hnw,bA c6,hc,hfz,rfl⟩)))))) rfl
              ⟨okn _ _,c4,c5,by simpa [Nh,eT,jJ,kI,ij,eZ] using c7⟩ (nokill _ rfl) hk
          · exact hk.elim
        · exact hk.elim
      · exact two (by rw [ho];exact hk)
    by_cases hcf:∃f args,x.1.o = .cf f args
    · obtain ⟨f, args, ho⟩ := hcf
      simp only [n9,NV,ho] at hk
      rcases Jj hk with hk | hk
      · exact two (by rw [ho];exact hk)
      rcases Jj hk with hk | hk | hk
      · unfold kZ at hk
        split at hk
        · rename_i hg
          simp only [bf] at hk
          obtain ⟨hof,hch,r0,ns,hS,⟨c1,c2,c3⟩,hk⟩:=hk
          rw [fU] at hk
          simp only [aP,okW] at hch c1 c2 c3
          obtain ⟨⟨⟨d1,d2⟩,d3⟩,d4⟩:=c1
          obtain ⟨⟨e1,e2,e3⟩,e4⟩:=c2
          obtain ⟨⟨f1,f2⟩,f3⟩:=c3
          have hlen:=kH d1
          refine fin ⟨_,_,_,_⟩ _ _ (g.fr.drop ns.length) (λ_=>rfl) (putsub _ t) (putin _ t) (.inr (.inr (.inr (.inl ⟨f,args,_,r0,ns,_,hg,ho,hof,rfl,hch.1,gD.1 hch.2,hS,hlen,(dF _).mp d2,λi hi=>?_,iH d4,rfl⟩)))) rfl ⟨e1,?_,?_,e4⟩ (λid hid=>⟨λp hp=>?_,λi b hb hi=>?_,λw hw hi=>?_⟩) hk
          · have:=aS.1 d3 i hi
            simp only [aP] at this
            refine ⟨bA this.1,?_⟩
            have h2:=this.2
            cases hh:get? a i with
            |none=>rw [hh] at h2;cases h2
            |some b=>rw [hh] at h2;cases b<;>first | rfl | cases h2
          · have e:kJ ⟨gS (gm (reach a 100 ((args.map λx=>cH (gv t x)).flatMap eT) []) (g.fr.take ns.length)) r0,(g.fr.take ns.length).zip (ns.map (eR (gm (reach a 100 ((args.map λx=>cH (gv t x)).flatMap eT) []) (g.fr.take ns.length)))),reach a 100 ((args.map λx=>cH (gv t x)).flatMap eT) [],rowsOf a (reach a 100 ((args.map λx=>cH (gv t x)).flatMap eT) [])⟩=g.fr.take ns.length:=dr (by rw [aH];omega)
            rw [e];exact e2
          · have e:kJ ⟨gS (gm (reach a 100 ((args.map λx=>cH (gv t x)).flatMap eT) []) (g.fr.take ns.length)) r0,(g.fr.take ns.length).zip (ns.map (eR (gm (reach a 100 ((args.map λx=>cH (gv t x)).flatMap eT) []) (g.fr.take ns.length)))),reach a 100 ((args.map λx=>cH (gv t x)).flatMap eT) [],rowsOf a (reach a 100 ((args.map λx=>cH (gv t x)).flatMap eT) [])⟩=g.fr.take ns.length:=dr (by rw [aH];omega)
            rw [e];exact e3
          · simp only [Wn,cI,gD,aS] at f1
            rcases f1 with f1 | f1
            · rw [f1] at hid;cases hid
            · exact tw.1 (f1 p hp) id hid
          · simp only [jb,cI,gD,aS] at f2
            rcases f2 with f2 | f2
            · rw [f2] at hid;cases hid
            · rcases f2 (b,i) (by rw [List.mem_zipIdx_iff_getElem?];exact hb) with f2 | f2
              · exact absurd (cK.1 f2) hi
              · exact tw.1 f2 id hid
          · simp only [XH,cI,gD,aS] at f3
            rcases f3 with f3 | f3
            · rw [f3] at hid;cases hid
            · rcases f3 w hw with f3 | f3
              · exact absurd (cK.1 f3) hi
              · exact tw.1 f3 id hid
        · exact hk.elim
      · unfold VW at hk
        split at hk
        · rename_i hg
          simp only [bf] at hk
          obtain ⟨hof,r0,ns,hS,⟨c1,c2⟩,hk⟩:=hk
          rw [fU] at hk
          simp only [aP,okW] at c1 c2
          obtain ⟨⟨⟨⟨d1,d2⟩,d3⟩,d4⟩,d5⟩:=c1
          obtain ⟨⟨e1,e2,e3⟩,e4⟩:=c2
          have hlen:=kH d1
          have e:kJ ⟨gS (λk=>(get? (g.fr.take ns.length) k).getD 0) r0,(g.fr.take ns.length).zip ns,(args.map λx=>cH (gv t x)).flatMap eT,[]⟩=g.fr.take ns.length:=dr (by omega)
          have e0:∀w∈(g.fr.take ns.length).zip ns,eZ w.2 = []:=λw hw=>by
            have h1:=aS.1 d4 w.2 (List.of_mem_zip hw).2
            generalize w.2=b at h1
            cases b<;>first | rfl | cases h1
          refine fin ⟨_,_,_,_⟩ _ _ (g.fr.drop ns.length) (λ_=>rfl) (putsub _ t) (putin _ t) (.inr (.inr (.inr (.inr (.inl ⟨f,args,r0,ns,_,hg,ho,hof,hS,hlen,d4,d5,nwok d2,iH d3,rfl⟩))))) rfl ⟨e1,by rw [e];exact e2,by rw [e];exact e3,?_⟩ (nokill _ rfl) hk
          have e5:((g.fr.take ns.length).zip ns).flatMap (λw=>eZ w.2) = []:=br.2 e0
          simp only [Nh,e5,cV]
          exact e4
        · exact hk.elim
      · unfold Up at hk
        split at hk
        · rename_i hg
          simp only [bf] at hk
          obtain ⟨r0,ns,hS,⟨c1,c2⟩,hk⟩:=hk
          rw [fU] at hk
          simp only [aP,okW] at c1 c2
          obtain ⟨⟨⟨⟨⟨d0,d00⟩,d1⟩,d2⟩,d3⟩,d4⟩:=c1
          obtain ⟨⟨e1,e2,e3⟩,e4⟩:=c2
          have hlen:=kH d1
          generalize hids:(args.map λx=>cH (gv t x)).flatMap eT=ids at *
          have e:kJ ⟨gS (gt ids.length (g.fr.take ns.length)) r0,(ids.map λi=>(i,B.no))++(g.fr.take ns.length).zip (ns.map (eR (gt ids.length (g.fr.take ns.length)))),ids,[]⟩=ids++g.fr.take ns.length:=AD hlen
          refine fin ⟨_,_,_,_⟩ _ _ (g.fr.drop ns.length) (λ_=>rfl) (putsub _ t) (putin _ t) (.inr (.inr (.inr (.inr (.inr (.inl ⟨f,args,r0,ns,_,ids,hg,ho,hids,⟨iH d0,λi hi=>?_⟩,hS,hlen,λk hk=>?_,nwok d2,iH d3,rfl⟩)))))) rfl ⟨e1,by rw [e];exact e2,by rw [e];exact e3,e4⟩ (nokill _ rfl) hk
          · have h2:=aS.1 d00 i hi
            cases hh:get? a i with
            |none=>rw [hh] at h2;cases h2
            |some b=>rw [hh] at h2;cases b<;>first | exact ⟨_,_,rfl⟩ | cases h2
          · exact bA (aS.1 d4 k hk)
        · exact hk.elim
    · refine two ?_
      rw [n9] at hk
      unfold NV at hk
      split at hk
      · exact absurd ⟨_,‹_›⟩ hal
      · exact absurd ⟨_,‹_›⟩ hmm
      · exact absurd ⟨_,_,_,‹_›⟩ hst
      · exact absurd ⟨_,_,_,_,‹_›⟩ hbs
      · exact absurd ⟨_,_,‹_›⟩ hcf
      · exact hk
end
end Go.Vx
