/- Lemmas. Conditions: none. -/
import Derived.Test.YtjpgfgajkjhonaaGreatDoorQHAH
namespace Go.Vx
open Go.MapKept
section
variable {P:Program} {E:gR} {n:Nat} {G:Nat→Prop} {ρ ρ':List Value} {t:T} {h:H} {a:Act} {w:World} {o:Oper} {b7:Act→World→Prop} {Q:Exit→Act→World→Prop} {K KP:V→T→H→Prop}
variable (S:Nat→List V→H→(Out→H→Prop)→Prop) (ow:Nat→Bool)
theorem HQ {v:Value} (h:bw G w v .nm):v = .map none:=by cases h;rfl
theorem BJ {α β:Type} (g:α→β) (f:α→α) (hg:∀x,g (f x)=g x):∀(l:List α) (i:Nat),(l.modify i f).map g=l.map g:=by
 intro l
 induction l with
 |nil=>intro i;cases i<;>rfl
 |cons x l ih=>
  intro i;cases i with
  |zero=>simp [hg]
  |succ i=>simp [ih i]
theorem tK {arr:Array MapEntry} {clk i:Nat} {f:MapEntry→MapEntry} (hf:∀e,(f e).born=e.born) (h:ord arr clk):ord (arr.modify i f) clk:=by
 have e:((arr.modify i f).toList.map (·.born))=arr.toList.map (·.born):=by
  rw [Array.toList_modify];exact BJ _ _ hf _ _
 refine ⟨λx hx=>?_,by rw [e];exact h.2⟩;have:x.born∈(arr.modify i f).toList.map (·.born):=bF.2 ⟨x,hx,rfl⟩;rw [e] at this;obtain ⟨y,hy,hxy⟩:=bF.1 this;rw [←hxy];exact h.1 y hy
theorem yb {arr:Array MapEntry} {clk:Nat} {e:MapEntry} (he:e.born=clk) (h:ord arr clk):ord (arr.push e) (clk+1):=by
 refine ⟨λx hx=>?_,?_⟩
 ·rw [Array.toList_push] at hx;rcases aS.1 hx with hx | hx
  ·have:=h.1 x hx;omega
  ·simp at hx;subst hx;omega
 ·rw [Array.toList_push,bY,List.pairwise_append];refine ⟨h.2,by simp,λx hx y hy=>?_⟩;simp at hy;subst hy;obtain ⟨z,hz,rfl⟩:=bF.1 hx;have:=h.1 z hz;omega
theorem vZ {arr:Array MapEntry} {clk i:Nat} (h:ord arr clk):ord (arr.eraseIdxIfInBounds i) clk:=by
 have hs:(arr.eraseIdxIfInBounds i).toList.Sublist arr.toList:=by
  unfold Array.eraseIdxIfInBounds;split
  ·simp only [Array.toList_eraseIdx];exact List.eraseIdx_sublist _ _
  ·exact List.Sublist.refl _
 exact ⟨λx hx=>h.1 x (hs.subset hx),h.2.sublist (hs.map _)⟩
theorem wK {ty:TypeId} {zv:V} (hz:AO P ty=some zv):∃z,(zeroValue ty).run P w = .ok z w∧dW G w ρ z zv∧jC zv = []:=by
 simp only [AO,aK,aD] at hz;obtain ⟨zs,hzs,i,hi,z,hz0,hm⟩:=hz;obtain ⟨i',z',hi',hz',h1,hstor,h3⟩:=js (G:=G) (w:=w) (ρ := ρ) hzs;rw [hi] at hi';cases hi';rw [hz0] at hz';cases hz';refine ⟨z,by simp [zeroValue,typeInfo,hi,hz0],?_⟩;have hid:∀(v:V),ir v = []→(∀f c,v≠.fc f c)→kG v = []:=λv hv hf=>by cases v<;>first | exact hv | exact absurd rfl (hf _ _)
 have hnf:∀{v:Value} {x:V},dV G w ρ v x→∀f c,x≠.fc f c:=by
  intro v x hx f c e;subst e;cases hx
 have hna:∀{v:Value} {x:V},dV G w ρ v x→∀c,x≠.ag c:=by
  intro v x hx c e;subst e;cases hx
 clear hstor;split at hm
 ·cases hm;refine ⟨.ag _ _ (by simpa [Value.cells] using h1) (λj x hx=>.k (by simpa [Value.cells] using (h3 j x hx).1)),?_⟩;simp only [jC,cA];intro x hx;obtain ⟨j,hj⟩:=aq.1 hx;exact hid x (h3 j x hj).2 (hnf (h3 j x hj).1)
 ·rename_i x hna';cases hm;have hx:=h3 0 _ rfl;have hc:z.cells = #[z]:=by
   cases z<;>first | rfl | exact absurd rfl (hna' _)
  rw [hc] at hx;refine ⟨.c (.k hx.1),?_⟩;have h0:=hid _ hx.2 (hnf hx.1);have h1:=hna hx.1;cases zv<;>first | exact h0 | exact absurd rfl (h1 _)
 ·cases hm
theorem Ok.view (hO:Ok E G w ρ h) {h':H} (hp:∀(i:Nat) (v:Value),ρ[i]? = some v→ρ'[i]? = some v) (hl:ρ'.length=h'.length) (hle:h.length≤h'.length)
  (rep:∀(i:Nat) (v:Value) (y:B),ρ'[i]? = some v→h'[i]? = some y→y≠.no→cm G w ρ' v y)
  (src:∀(i:Nat) (v:Value) (y:B) (b:Nat),ρ'[i]? = some v→h'[i]? = some y→y≠.no→b∈e9 v y→∃(j:Nat) (u:Value) (x:B),ρ[j]? = some u∧h[j]? = some x∧x≠.no∧b∈e9 u x ∧
   ∀(i':Nat) (v':Value) (y':B),ρ'[i']? = some v'→h'[i']? = some y'→y'≠.no→b∈e9 v' y'→i'=i):Ok E G w ρ' h':=by
 have hown:∀b,own ρ' h' b→own ρ h b:=λb ⟨i,v,y,h1,h2,h3,h4⟩=>by
  obtain ⟨j,u,x,g1,g2,g3,g4,_⟩:=src i v y b h1 h2 h3 h4;exact ⟨j,u,x,g1,g2,g3,g4⟩
 refine ⟨⟨hl,λi v y h1 h2=>?_,λi i' v v' y y' b h1 h2 h3 h4 h5 h6 h7 h8=>?_,hO.hr.gl,λb hb ho=>hO.hr.gd b hb (hown b ho),hO.hr.uH⟩,hO.gm,hO.go,λb hb=>hO.oo b (hown b hb),hO.frame,hO.size,hO.os,hO.tape,hO.out,
  λi v hv hs=>hp i v (hO.hand i v hv hs),aZ hO.hl hle,λr hr=>let ⟨g1,g2,g3⟩:=hO.sN r hr;⟨g1,g2,λg4=>g3 (hown r g4)⟩⟩
 ·by_cases hy:y = .no
  ·subst hy;trivial
  ·exact rep i v y h1 h2 hy
 ·obtain ⟨_,_,_,_,_,_,_,g⟩:=src i v y b h1 h2 h3 h7;exact (g i' v' y' h4 h5 h6 h8).symm
theorem fe {i j:Nat} {x:Option (Option Nat×List (List D))} {es:List ME}:(eX i x es)[j]? = if i=j then (es[j]?).map λe=>(e.1,x) else es[j]?:=by
 unfold eX;rw [l9];split
 ·rfl
 ·cases es[j]?<;>rfl
theorem nJ {i:Nat} {x:Option (Option Nat×List (List D))} {es:List ME}:(eX i x es).length=es.length:=by simp [eX]
theorem mF {i b:Nat} {x:Option (Option Nat×List (List D))} {es:List ME} (h:b∈Bc (eX i x es)):(∃(j:Nat) (k:List UInt8×List UInt8) (rs:List (List D)),j≠i∧es[j]? = some (k,some (some b,rs)))∨∃rs,x=some (some b,rs):=by
 obtain ⟨j,k,rs,hj⟩:=eQ.1 h;rw [fe] at hj;split at hj
 ·rw [aG] at hj;obtain ⟨e,_,he⟩:=hj;cases he;exact .inr ⟨rs,rfl⟩
 ·exact .inl ⟨j,k,rs,λe=> ‹¬i=j› e.symm,hj⟩
theorem tW {i:Nat} {x:Option (Option Nat×List (List D))} {es:List ME} (hi:HK es) (hx:∀b rs,x=some (some b,rs)→∀(j:Nat) (k:List UInt8×List UInt8) (rs':List (List D)),j≠i→es[j]?≠some (k,some (some b,rs'))) :
  HK (eX i x es):=by
 intro i' j k k' rs rs' b h1 h2;rw [fe] at h1 h2;split at h1<;>split at h2
 ·omega
 ·rename_i e1 e2;rw [aG] at h1;obtain ⟨e,_,he⟩:=h1;cases he;exact absurd h2 (hx b rs rfl j k' rs' λe=>e2 e.symm)
 ·rename_i e1 e2;rw [aG] at h2;obtain ⟨e,_,he⟩:=h2;cases he;exact absurd h1 (hx b rs' rfl i' k rs λe=>e1 e.symm)
 ·exact hi _ _ _ _ _ _ _ h1 h2
theorem au.Pt (hC:au E n G ρ t h a w) {id m z z' i:Nat} {es:List ME} {it:Option (Nat×It)} {rs:List (List D)} (hx:h[id]? = some (.ms z es (some (i,.os m)) it)) (hm:h[m]? = some (.rows z' rs)) (hz:z=z') :
    ∃b,au E n G ρ (kF m t) (((h.map (gi m)).set m .no).set id (.ms z (eX i (some (b,rs)) es) none it)) a w:=by
  subst hz
  have hO:=hC.ok
  have hr:=hO.hr
  have hil:id<ρ.length:=by rw [hr.len];exact (aA.1 hx).1
  have hml:m<ρ.length:=by rw [hr.len];exact (aA.1 hm).1
  have hne:m≠id:=λe=>by subst e;rw [hm] at hx;cases hx
  have hv:=aB hil
  have hv0:=aB hml
  have hrm:=hr.rep m _ _ hv0 hm
  obtain ⟨⟨r,arr,clk,e0,h1,h2,h3,h4,h5,h6,h7⟩,hit⟩:=hr.rep id _ _ hv hx
  generalize hgm:ρ[m]=v0 at *
  generalize hgi:ρ[id]=v at *
  have hsl:j1 v0=true:=by
    rcases hrm with ⟨e,_⟩ | ⟨_,_,_,_,e,_⟩<;>rw [e]<;>rfl
  have hpb:∀b,f_ v0=some b→b∉e9 v (.ms z es (some (i,.os m)) it):=λb hb hb2=>hne (hr.nW m id v0 v _ _ b hv0 hm (by simp) hv hx (by simp) (bT.2 (.inl hb)) hb2)
  have hset:=nE hv0
  have get:∀(j:Nat) (y:B),(((h.map (gi m)).set m .no).set id (.ms z (eX i (some (f_ v0,rs)) es) none it))[j]? = some y→y≠.no→(j=id∧y = .ms z (eX i (some (f_ v0,rs)) es) none it)∨(j≠id∧j≠m∧∃y0,h[j]? = some y0∧y=gi m y0):=by
    intro j y hj hy
    rw [bK] at hj
    split at hj
    · rename_i e
      subst e
      split at hj
      · cases hj;exact .inl ⟨rfl,rfl⟩
      · cases hj
    · rename_i e
      rw [bK] at hj
      split at hj
      · split at hj
        · cases hj;exact absurd rfl hy
        · cases hj
      · rename_i e2
        rw [aC,aG] at hj
        obtain ⟨y0,h8,rfl⟩:=hj
        exact .inr ⟨λh=>e h.symm,λh=>e2 h.symm,y0,h8,rfl⟩
  have kno:∀y0:B,gi m y0≠.no→y0≠.no:=λy0 h e=>h (by rw [e];rfl)
  have new:∀b,b∈e9 v (.ms z (eX i (some (f_ v0,rs)) es) none it)→b∈e9 v (.ms z es (some (i,.os m)) it)∨f_ v0=some b:=by
    intro b hb
    rcases bT.1 hb with hb | hb
    · exact .inl (bT.2 (.inl hb))
    · simp only [gh,aS] at hb
      rcases hb with hb | hb
      · rcases mF hb with ⟨j,k,rs',_,hj⟩ | ⟨rs',e⟩
        · exact .inl (bT.2 (.inr (by simp only [gh,aS];exact .inl (eQ.2 ⟨j,k,rs',hj⟩))))
        · obtain ⟨e,_⟩:=Prod.mk.inj (an e)
          exact .inr e
      · exact .inl (bT.2 (.inr (by simp only [gh,aS];exact .inr hb)))
  have hrep:cm G w ρ v (.ms z (eX i (some (f_ v0,rs)) es) none it):=by
    have hgE:∀b,b∈Bc es→b∈e9 v (.ms z es (some (i,.os m)) it):=λb hb=>bT.2 (.inr (by simp only [gh,aS];exact .inl hb))
    refine ⟨⟨r,arr,clk,e0,h1,by rw [nJ];exact h2,h3,⟨tW h4.1 λb rs' e j k rs2 _ hj=>?_,λhb=>?_⟩,λj e x he hj=>?_,λj v h=>(by cases h),λj v e h=>by cases h⟩,?_⟩
    · obtain ⟨e,_⟩:=Prod.mk.inj (an e)
      exact hpb b e (hgE b (eQ.2 ⟨j,k,rs2,hj⟩))
    · rcases mF hb with ⟨j,k,rs',_,hj⟩ | ⟨rs',e⟩
      · exact h4.2 (eQ.2 ⟨j,k,rs',hj⟩)
      · obtain ⟨e,_⟩:=Prod.mk.inj (an e)
        exact hpb r e (bT.2 (.inl (by rw [e0];rfl)))
    · rw [fe] at hj
      split at hj
      · rename_i e1
        subst e1
        rw [aG] at hj
        obtain ⟨x0,hx0,rfl⟩:=hj
        refine ⟨(h5 i e x0 he hx0).1,λb rs' e2=>?_⟩
        cases e2
        have h8:=h7 i _ e rfl he
        have h9:e.val=v0:=by
          generalize e.val=u at h8
          cases h8 with
          |k h8=>cases h8 with
            |os _ a n c h8=>rw [hv0] at h8;exact (an h8).symm
        rw [h9]
        exact ⟨rfl,hrm⟩
      · exact h5 j e x he hj
    · match it,hit,hpb with
      |none,_,_=>trivial
      |some (q,l),hit,hpb=>
        refine ⟨hit.1,λhb=>?_⟩
        rcases mF hb with ⟨j,k,rs',_,hj⟩ | ⟨rs',e⟩
        · exact hit.2 (eQ.2 ⟨j,k,rs',hj⟩)
        · obtain ⟨e,_⟩:=Prod.mk.inj (an e)
          exact hpb q e (bT.2 (.inr (by simp [gh,Nk])))
  refine ⟨f_ v0,⟨hO.view (ρ':= ρ) (λ_ _ h=>h) (by simp [hr.len]) (by simp) (λj u y g1 g2 g3=>?_) (λj u y b g1 g2 g3 g4=>?_),hC.df,hC.sz,λj=>?_⟩⟩
  · rcases get j y g2 g3 with ⟨rfl,rfl⟩ | ⟨_,_,y0,k1,rfl⟩
    · rw [hv] at g1;cases g1;exact hrep
    · have:=(hr.rep j u y0 g1 k1).tt (v1:=v0) hv0 hsl
      rwa [hset] at this
  · rcases get j y g2 g3 with ⟨rfl,rfl⟩ | ⟨hj1,hj2,y0,k1,rfl⟩
    · rw [hv] at g1; cases g1
      rcases new b g4 with hb | hb
      · refine ⟨j,v,_,hv,hx,by simp,hb,λj' u' y' q1 q2 q3 q4=>?_⟩
        rcases get j' y' q2 q3 with ⟨rfl,_⟩ | ⟨_,_,y1,p1,rfl⟩
        · rfl
        · rw [e9,oG] at q4
          exact hr.nW j' j u' v y1 _ b q1 p1 (kno _ q3) hv hx (by simp) q4 hb
      · refine ⟨m,v0,_,hv0,hm,by simp,bT.2 (.inl hb),λj' u' y' q1 q2 q3 q4=>?_⟩
        rcases get j' y' q2 q3 with ⟨rfl,_⟩ | ⟨_,p0,y1,p1,rfl⟩
        · rfl
        · rw [e9,oG] at q4
          exact absurd (hr.nW j' m u' v0 y1 _ b q1 p1 (kno _ q3) hv0 hm (by simp) q4 (bT.2 (.inl hb))) p0
    · rw [e9,oG] at g4
      refine ⟨j,u,y0,g1,k1,kno _ g3,g4,λj' u' y' q1 q2 q3 q4=>?_⟩
      rcases get j' y' q2 q3 with ⟨rfl,rfl⟩ | ⟨_,_,y1,p1,rfl⟩
      · rw [hv] at q1;cases q1
        rcases new b q4 with hb | hb
        · exact hr.nW j' j v u _ y0 b hv hx (by simp) g1 k1 (kno _ g3) hb g4
        · exact absurd (hr.nW m j v0 u _ y0 b hv0 hm (by simp) g1 k1 (kno _ g3) (bT.2 (.inl hb)) g4).symm hj2
      · rw [e9,oG] at q4
        exact hr.nW j' j u' u y1 y0 b q1 p1 (kno _ q3) g1 k1 (kno _ g3) q4 g4
  · rw [kF,qn _ rfl]
    have:=(hC.tm j).tt (v1:=v0) hv0 hsl
    rwa [hset] at this
theorem au.Vb (hC:au E n G ρ t h a w) {id:Nat} {x x1:B} (hx:h[id]? = some x) (hn:x≠.no) (h1:∀v,ρ[id]? = some v→cm G w ρ v x→cm G w ρ v x1) (hg:∀b∈gh x1,b∈gh x):au E n G ρ t (h.set id x1) a w:=by
 have hil:id<ρ.length:=by rw [hC.ok.hr.len];exact (aA.1 hx).1
 have hv:=aB hil;exact hC.se hv hx hn (aR _) (λ_ _ _=>rfl) rfl rfl rfl (h1 _ hv (hC.ok.hr.rep id _ _ hv hx)) (λb hb=>.inl (bT.2 (.inr (hg b hb))))
theorem wT {KK:T→H→Prop} (hC:au E n G ρ t h a w) {id:Nat} (hk:NL id t h KK):∃t' h',au E n G ρ t' h' a w∧KK t' h':=by
 unfold NL at hk;rw [get?_eq] at hk;split at hk
 ·rename_i z es i v it hx;split at hk
  ·rename_i m;rw [get?_eq] at hk;split at hk
   ·rename_i z' rs hm;obtain ⟨hz,hk⟩:=hk;obtain ⟨b,hC'⟩:=hC.Pt hx hm (dH hz);have hk:=hk b;simp only [j2,gE] at hk;exact ⟨_,_,hC',hk⟩
   ·exact hk.elim
  ·simp only [gE] at hk;exact ⟨_,_,hC.Vb (x1:=.ms z es none it) hx (by simp) (λv _ hr=>⟨hr.1.drop,hr.2⟩) (λb hb=>hb),hk⟩
 ·exact ⟨_,_,hC,hk⟩
theorem wR {KK:T→H→Prop}:∀(l:List Nat) {t:T} {h:H},au E n G ρ t h a w→GI l t h KK→∃t' h',au E n G ρ t' h' a w∧KK t' h'
 |[],_,_,hC,hk=>⟨_,_,hC,hk⟩
 |i :: l,t,h,hC,hk=>by
  rw [EA] at hk;obtain ⟨t',h',hC',hk'⟩:=wT hC hk;exact wR l hC' hk'
theorem Q8 {KK:T→H→Prop} {l:List Nat} {t:T} {h:H} (hC:au E n G ρ t h a w) (hk:Tc l t h KK):∃t' h',au E n G ρ t' h' a w∧KK t' h':=by
 cases l with
 |nil=>exact ⟨_,_,hC,hk⟩
 |cons i r=>exact hk.elim (λhk=>⟨_,_,hC,hk⟩) λhk=>wR _ hC hk
theorem au.taken (hC:au E n G ρ t h a w) {id z i:Nat} {es:List ME} {it:Option (Nat×It)} {k:List UInt8×List UInt8} {b:Option Nat} {rs:List (List D)} (hx:h[id]? = some (.ms z es none it)) (hi:es[i]? = some (k,some (b,rs))) :
  ∃r arr clk e,ρ[id]? = some (.map (some r))∧w.heap[r]? = some (.map arr clk)∧arr[i]? = some e∧j1 e.val=true∧au E n G (ρ ++ [e.val]) t (h.set id (.ms z (eX i none es) (some (i,.os h.length)) it) ++ [.rows z rs]) a w:=by
 have hO:=hC.ok;have hr:=hO.hr;have hil:id<ρ.length:=by rw [hr.len];exact (aA.1 hx).1
 have hihl:id<h.length:=by rw [←hr.len];exact hil
 have hv:=aB hil;obtain ⟨⟨r,arr,clk,e0,h1,h2,h3,h4,h5,h6,h7⟩,hit⟩:=hr.rep id _ _ hv hx;have hia:i<arr.size:=by rw [h2];exact (aA.1 hi).1
 have he:=aJ hia;generalize hge:arr[i]=e at he;obtain ⟨hke,hrs⟩:=h5 i e _ he hi;obtain ⟨hb,hrs⟩:=hrs b rs rfl;have hsl:j1 e.val=true:=by
  rcases hrs with ⟨e,_⟩ | ⟨_,_,_,_,e,_⟩<;>rw [e]<;>rfl
 refine ⟨r,arr,clk,e,by rw [hv,e0],h1,he,hsl,?_⟩;rw [e0] at hv;have hpre:∀j,j<ρ.length→(ρ ++ [e.val])[j]? = ρ[j]?:=λj hj=>aO hj;have hnew:(ρ ++ [e.val])[h.length]? = some e.val:=by rw [←hr.len];simp
 have get:∀(j:Nat) (u:Value) (y:B),(ρ ++ [e.val])[j]? = some u→(h.set id (.ms z (eX i none es) (some (i,.os h.length)) it) ++ [.rows z rs])[j]? = some y →
   (j=id∧u = .map (some r)∧y = .ms z (eX i none es) (some (i,.os h.length)) it)∨(j=h.length∧u=e.val∧y = .rows z rs)∨(j≠id∧j<h.length∧ρ[j]? = some u∧h[j]? = some y):=by
  intro j u y g1 g2
  by_cases hj:j<h.length
  ·rw [hpre j (by rw [hr.len];exact hj)] at g1;rw [aO (by simpa using hj),bK] at g2;split at g2
   ·rename_i e1;subst e1;rw [hv] at g1;cases g1;cases g2;exact .inl ⟨rfl,rfl,rfl⟩
   ·rename_i e1;exact .inr (.inr ⟨λh=>e1 h.symm,hj,g1,g2⟩)
  ·have hje:j=h.length:=by
    have:=(aA.1 g1).1;simp [hr.len] at this;omega
   subst hje;rw [hnew] at g1;cases g1;rw [aY (by simp)] at g2;simp at g2;exact .inr (.inl ⟨rfl,rfl,g2.symm⟩)
 have h_:∀c,c∈e9 (.map (some r)) (.ms z (eX i none es) (some (i,.os h.length)) it)→c∈e9 (.map (some r)) (.ms z es none it)∧b≠some c:=by
  intro c hc;have hib:∀k' rs' j,j≠i→es[j]? = some (k',some (some c,rs'))→b≠some c:=λk' rs' j hj h8 e1=>hj (by subst e1;exact h4.1 _ _ _ _ _ _ _ h8 hi);rcases bT.1 hc with hc | hc
  ·refine ⟨bT.2 (.inl hc),λe1=>?_⟩;subst e1;simp only [f_,aE] at hc;subst hc;exact h4.2 (eQ.2 ⟨i,k,rs,hi⟩)
  ·simp only [gh,aS] at hc;rcases hc with hc | hc
   ·rcases mF hc with ⟨j,k',rs',hj,h8⟩ | ⟨_,e1⟩
    ·exact ⟨bT.2 (.inr (by simp only [gh,aS];exact .inl (eQ.2 ⟨j,k',rs',h8⟩))),hib k' rs' j hj h8⟩
    ·cases e1
   ·refine ⟨bT.2 (.inr (by simp only [gh,aS];exact .inr hc)),λe1=>?_⟩;subst e1
    match it,hit,hc with
    |some (q,l),hit,hc=>
     simp only [Nk,aM] at hc;subst hc;exact hit.2 (eQ.2 ⟨i,k,rs,hi⟩)
 have new:∀c,c∈e9 e.val (.rows z rs)→c∈e9 (.map (some r)) (.ms z es none it)∧b=some c:=by
  intro c hc;have hc:=(fp).1 hc;rw [hb] at hc;subst hc;exact ⟨bT.2 (.inr (by simp only [gh,aS];exact .inl (eQ.2 ⟨i,k,rs,hi⟩))),rfl⟩
 have hmono:∀(v:Value) (y:B),cm G w ρ v y→y≠.no→cm G w (ρ ++ [e.val]) v y:=λv y hy hn=>hy.mono (λ_ h=>h) (λ_ _=>rfl) (λ_ _=>rfl) (λj hj=>hpre j (hy.lt j hj));refine ⟨hO.view (ρ':= ρ ++ [e.val]) (λj u hu=>by rw [hpre j (aA.1 hu).1];exact hu) (by simp [hr.len]) (by simp) (λj u y g1 g2 g3=>?_) (λj u y c g1 g2 g3 g4=>?_),hC.df,hC.sz,λj=>(hC.tm j).mono (λ_ h=>h) (λ_ _=>rfl) (λq hq=>hpre q ((hC.tm j).lt q hq))⟩
 ·rcases get j u y g1 g2 with ⟨rfl,rfl,rfl⟩ | ⟨rfl,rfl,rfl⟩ | ⟨_,_,k1,k2⟩
  ·refine ⟨⟨r,arr,clk,rfl,h1,by rw [nJ];exact h2,h3,⟨tW h4.1 λb rs' e=>(by cases e),λhb=>?_⟩,λj e' x he' hj=>?_,λj v h=>?_,λj v e' h he'=>?_⟩,?_⟩
   ·rcases mF hb with ⟨j,k',rs',_,hj⟩ | ⟨rs',e⟩
    ·exact h4.2 (eQ.2 ⟨j,k',rs',hj⟩)
    ·cases e
   ·rw [fe] at hj;split at hj
    ·rename_i e1;subst e1;rw [hi] at hj;cases hj;rw [he] at he';cases he';exact ⟨hke,λb rs e=>by cases e⟩
    ·exact h5 j e' x he' hj
   ·cases h;rw [nJ];exact (aA.1 hi).1
   ·cases h;rw [he] at he';cases he';refine .k ?_;generalize e.val=u at hsl hnew;cases u<;>first | (cases hsl;done) | skip
    exact .os _ _ _ _ hnew
   ·match it,hit with
    |none,_=>trivial
    |some (q,l),hit=>
     refine ⟨?_,λhb=>?_⟩
     ·rw [←e0];exact hit.1
     rcases mF hb with ⟨j,k',rs',_,hj⟩ | ⟨rs',e⟩
     ·exact hit.2 (eQ.2 ⟨j,k',rs',hj⟩)
     ·cases e
  ·exact hrs
  ·exact hmono _ _ (hr.rep j u y k1 k2) g3
 ·rcases get j u y g1 g2 with ⟨rfl,rfl,rfl⟩ | ⟨rfl,rfl,rfl⟩ | ⟨hj,hjl,k1,k2⟩
  ·obtain ⟨o1,o2⟩:=h_ c g4;refine ⟨j,_,_,hv,hx,by simp,o1,λj' u' y' q1 q2 q3 q4=>?_⟩;rcases get j' u' y' q1 q2 with ⟨rfl,rfl,rfl⟩ | ⟨rfl,rfl,rfl⟩ | ⟨_,_,p1,p2⟩
   ·rfl
   ·exact absurd (new c q4).2 o2
   ·exact hr.nW j' j u' _ y' _ c p1 p2 q3 hv hx (by simp) q4 o1
  ·obtain ⟨o1,o2⟩:=new c g4;refine ⟨id,_,_,hv,hx,by simp,o1,λj' u' y' q1 q2 q3 q4=>?_⟩;rcases get j' u' y' q1 q2 with ⟨rfl,rfl,rfl⟩ | ⟨rfl,rfl,rfl⟩ | ⟨p0,_,p1,p2⟩
   ·exact absurd o2 (h_ c q4).2
   ·rfl
   ·exact absurd (hr.nW j' id u' _ y' _ c p1 p2 q3 hv hx (by simp) q4 o1) p0
  ·refine ⟨j,u,y,k1,k2,g3,g4,λj' u' y' q1 q2 q3 q4=>?_⟩;rcases get j' u' y' q1 q2 with ⟨rfl,rfl,rfl⟩ | ⟨rfl,rfl,rfl⟩ | ⟨_,_,p1,p2⟩
   ·exact hr.nW j' j _ u _ y c hv hx (by simp) k1 k2 g3 (h_ c q4).1 g4
   ·exact absurd (hr.nW id j _ u _ y c hv hx (by simp) k1 k2 g3 (new c q4).1 g4) (λe=>hj e.symm)
   ·exact hr.nW j' j u' u y' y c p1 p2 q3 k1 k2 g3 q4 g4
end
section
variable {P:Program} {E:gR} {n:Nat} {G:Nat→Prop} {ρ ρ':List Value} {t:T} {h:H} {a:Act} {w:World} {o:Oper} {b7:Act→World→Prop} {Q:Exit→Act→World→Prop} {K KP:V→T→H→Prop}
variable (S:Nat→List V→H→(Out→H→Prop)→Prop) (ow:Nat→Bool)
theorem tp {x:V} {k:List UInt8×List UInt8} (h:Ed x=some k):x=tw k:=by
 unfold Ed at h;split at h
 ·cases h;rfl
 ·cases h
structure K9 (P:Program) (kt:TypeId) (fs:Array Field) (f g:Field):Prop where
  fl:flat P 100 kt=some [2,2]
  un:P.underlying kt=some (.struct fs)
  ls:fs = #[f,g]
  n1:f.name ≠ "_"
  n2:g.name ≠ "_"
  o1:f.offset=0
  o2:g.offset=1
  s1:P.underlying f.type=some .string
  s2:P.underlying g.type=some .string
theorem zH {t:TypeId} (h:isStr P t=true):P.underlying t=some .string:=by
 unfold isStr at h;split at h
 ·assumption
 ·cases h
theorem Lv {kt:TypeId} {ks:List Nat} (h:yC P kt=some ks) (h9:Nat.beq (ks.headD 0) 9=true):∃fs f g,K9 P kt fs f g:=by
 unfold yC at h;split at h
 ·cases h;cases h9
 ·cases h;cases h9
 ·cases h;cases h9
 ·rename_i fs hu;split at h
  ·rename_i f g hl;split at h
   ·rename_i hc;simp only [aP,bne_iff_ne,ne_eq,ξ] at hc;obtain ⟨⟨⟨⟨⟨⟨c1,c2⟩,c3⟩,c4⟩,c5⟩,c6⟩,c7⟩:=hc;exact ⟨fs,f,g,c7,hu,Array.toList_inj.1 hl,c1,c2,c3,c4,zH c5,zH c6⟩
   ·cases h
  ·cases h
 ·cases h
theorem oE {v:Value} {k:List UInt8×List UInt8} (hv:bB G w ρ v (tw k)):∃s1 s2:ByteArray,v = .agg #[.string s1,.string s2]∧s1.data.toList=k.1∧s2.data.toList=k.2:=by
 obtain ⟨cs,rfl,h1,h2⟩:=hv.RS;have c0:=h2 0 _ rfl;have c1:=h2 1 _ rfl;obtain ⟨s1,e1,e2,_⟩:=(bB.c c0).str;obtain ⟨s2,e3,e4,_⟩:=(bB.c c1).str;refine ⟨s1,s2,?_,e2,e4⟩;congr 1;apply Array.ext
 ·simpa using h1
 ·intro i hi hi2;simp only [dA,aV,ak] at hi2;rw [aF] at e1 e3
  match i,hi2 with
  |0,_=>rw [aJ hi] at e1;exact e1
  |1,_=>rw [aJ hi] at e3;exact e3
theorem p6 {ty:TypeId} (hu:P.underlying ty=some .string) {s1 s2:ByteArray} {i:Nat} {s:ByteArray} (hi : #[Value.string s1,.string s2][i]? = some (.string s)):(part ty #[.string s1,.string s2] i).run P w = .ok (.string s) w:=by
 have hag:kZ P ty=some false:=by simp [kZ,hu]
 have hl:i < #[Value.string s1,.string s2].size:=(aN.1 hi).1;have : #[Value.string s1,.string s2][i] = .string s:=(aN.1 hi).2;simp [part,i_ hag,hi]
theorem l_ {kt:TypeId} {fs:Array Field} {f g:Field} (h9:K9 P kt fs f g) (s1 s2:ByteArray) (b:Bool) (m:Nat):(Instr.checkKey b (m+2) kt (.agg #[.string s1,.string s2])).run P w = .ok () w:=by
 obtain ⟨h1,h2,rfl,h4,h5,h6,h7,h8,h9⟩:=h9;have p1:(part f.type #[.string s1,.string s2] f.offset).run P w = .ok (.string s1) w:=by rw [h6];exact p6 h8 rfl
 have p2:(part g.type #[.string s1,.string s2] g.offset).run P w = .ok (.string s2) w:=by rw [h7];exact p6 h9 rfl
 have q:∀(ty:TypeId) (s:ByteArray),P.underlying ty=some .string→(Instr.checkKey b (m+1) ty (.string s)).run P w = .ok () w:=λty s hu=>by
  simp [Instr.checkKey,run_underlying hu]
 rw [Instr.checkKey];simp only [Sem.run_bind,run_underlying h2,Result.andThen_ok];simp [h4,h5,p1,p2,q _ _ h8,q _ _ h9]
theorem LK {kt:TypeId} {fs:Array Field} {f g:Field} (h9:K9 P kt fs f g) {v u:Value} {x y:List UInt8×List UInt8} (hv:dW G w ρ v (tw x)) (hu:dW G w ρ u (tw y)):(Op.equal kt v u).run P w = .ok (y==x) w:=by
 have ag:kZ P kt=some true:=by simp [kZ,h9.un]
 have st:∀z:List UInt8×List UInt8,(tw z).cs.all ev=true:=λz=>rfl;have hs1:=qK h9.fl ag (x:=tw x) rfl (.o hv) (st x);have hs2:=qK h9.fl ag (x:=tw y) rfl (.o hu) (st y);have he:qM [2,2] (tw x).cs (tw y).cs=some (x.1==y.1&&(x.2==y.2&&true)):=rfl;have:=uO 100 kt [2,2] _ _ _ _ _ 10000 h9.fl hs1 hs2 he (by decide);have e:(y==x)=(x.1==y.1&&(x.2==y.2&&true)):=by
  rw [dy,eA];simp only [ξ,aP];constructor
  ·rintro rfl;exact ⟨rfl,rfl⟩
  ·rintro ⟨e1,e2⟩;exact Prod.ext e1.symm e2.symm
 rw [e];exact this
theorem yX {kt:TypeId} {fs:Array Field} {f g:Field} (h9:K9 P kt fs f g) {v:Value} {x:List UInt8×List UInt8} (hv:dW G w ρ v (tw x)):∀(es:List ME) (l:List MapEntry) (i:Nat),l.length=es.length→(∀(j:Nat) (e:MapEntry) (y:ME),l[j]? = some e→es[j]? = some y→dW G w ρ e.key (tw y.1)) →
    (Instr.findAsking kt v l i).run P w = .ok ((lS x es).bind λm=>(l[m]?).map λe=>(i+m,e.val)) w
  |[],l,i,hl,_=>by
    cases l with
    |nil=>rfl
    |cons=>cases hl
  |y :: es,l,i,hl,hr=>by
    cases l with
    |nil=>cases hl
    |cons e l=>
      have h1:=LK h9 hv (hr 0 e y rfl rfl)
      have ih:=yX h9 hv es l (i+1) (by simpa using hl) (λj e' y' a b=>hr (j+1) e' y' (by simpa using a) (by simpa using b))
      have e1:lS x (y :: es)=if (y.1==x)=true then some 0 else (lS x es).map (· + 1):=by
        simp only [lS,gX]
      rw [Instr.findAsking,Sem.run_bind,h1,e1,Result.andThen_ok]
      cases hb:(y.1==x) with
      |true=>simp
      |false=>
        simp only [cp,ψ,ih]
        cases lS x es with
        |none=>rfl
        |some m=>simp [dx,Nat.add_comm 1 m]
theorem nv {kt:TypeId} {fs:Array Field} {f g:Field} (h9:K9 P kt fs f g) {v:Value} {x:List UInt8×List UInt8} (hv:dW G w ρ v (tw x)) {es:List ME} {l:List MapEntry} (hl:l.length=es.length) (hr:∀(j:Nat) (e:MapEntry) (y:ME),l[j]? = some e→es[j]? = some y→dW G w ρ e.key (tw y.1)) :
  (Instr.findKey kt v l).run P w = .ok ((lS x es).bind λm=>(l[m]?).map λe=>(m,e.val)) w:=by
 have h1:=yX h9 hv es l 0 hl hr;simp only [bh] at h1;unfold Instr.findKey;rw [Sem.run_bind,run_underlying h9.un,Result.andThen_ok];cases l with
 |nil=>
  cases es with
  |nil=>rfl
  |cons=>cases hl
 |cons e l=>
  have:Instr.findNow (.struct fs) v (e :: l) 0=none:=by
   obtain ⟨s1,s2,rfl,_⟩:=oE (.o hv);rfl
  rw [this];exact h1
theorem xE (hC:au E n G ρ t h a w) {v:Value} {id z:Nat} {es:List ME} {out:Option (Nat×V)} {it:Option (Nat×It)} (hv:bB G w ρ v (.mp id)) (hx:h[id]? = some (.ms z es out it)) :
  ∃r arr clk,v = .map (some r)∧ρ[id]? = some (.map (some r))∧w.heap[r]? = some (.map arr clk)∧arr.size=es.length∧ord arr clk∧(∀(j:Nat) (e:MapEntry) (y:ME),arr.toList[j]? = some e→es[j]? = some y→dW G w ρ e.key (tw y.1)):=by
 cases hv with | o hv=>cases hv with | c hv=>cases hv with | k hv=>cases hv with | mp _ r hρ =>
 obtain ⟨⟨r',arr,clk,e,h1,h2,h3,h4,h5,_⟩,_⟩:=hC.ok.hr.rep id _ _ hρ hx;cases e;exact ⟨r,arr,clk,rfl,hρ,h1,h2,h3,λj e y a b=>(h5 j e y (by simpa using a) b).1.mono (λ_ h=>h) (λ_ _=>rfl) (λi hi=>by rw [B0] at hi;cases hi)⟩
theorem Hr {v:Value} {k:List UInt8×List UInt8} (hv:bB G w ρ v (tw k)):dW G w ρ v (tw k):=by
 cases hv with
 |o h=>exact h
theorem HD (hC:au E n G ρ t h a w) (hn:iX E n a o K b7) {ty kt e t2:TypeId} {x k:Operand} {ok':O} {ks:List Nat} {zv:V} {ok:Bool} {id:Nat} (ho:o.op = .lookup ty x k ok) (hu:P.underlying ty=some (.map kt e)) (hvx:bB G w ρ (a.eval x) (.mp id)) (hkk:ck P t2 k=some ok')
    (hks:yC P kt=some ks) (hz:AO P e=some zv) (hok:ok=false) (hk:NL id t h λt h=>(match get? h id,Ed (gv t ok') with
        |some (.ms z es none it),some key=>Nat.beq (ks.headD 0) 9=true ∧
          ((∃ i b rs, (lS key es = some i ∧ (es[i]?).map (·.2) = some (some (b, rs))) ∧ fl (h.set id (.ms z (eX i none es) (some (i, .os h.length)) it) ++ [.rows z rs]) fun h' => ij h.length fun n => K (.os n) t h') ∨
           ((lS key es=none∧Ti zv=true)∧fl (h ++ [.rows z []]) λh'=>ij h.length λn=>K (.os n) t h'))
        |_,_=>False)):o.wp P a w b7 Q:=by
  subst hok
  obtain ⟨t,h,hC,hk⟩:=wT hC hk
  rw [get?_eq] at hk
  split at hk
  · rename_i z es it key hx hkey
    obtain ⟨h9,hk⟩:=hk
    obtain ⟨fs,f,g,h9⟩:=Lv hks h9
    have hvk:=bJ hC hkk
    rw [tp hkey] at hvk
    obtain ⟨r,arr,clk,he,hρ,hb,hsz,hor,hr⟩:=xE hC hvx hx
    have hf:=nv h9 (Hr hvk) (by simpa using hsz) hr
    obtain ⟨s1,s2,hs,_⟩:=oE hvk
    have hck:=l_ (w:=w) h9 s1 s2 arr.isEmpty 9998
    rw [←hs] at hck
    have hl:=hC.ok.hr.len
    rcases hk with ⟨i,b,rs,⟨hi,hes⟩,hk⟩ | ⟨⟨hi,hnl⟩,hk⟩
    · simp only [bo,cn] at hk
      rw [aG] at hes
      obtain ⟨⟨k',y⟩,he1,he2⟩:=hes
      subst he2
      obtain ⟨r',arr',clk',e',q1,q2,q3,q4,hC'⟩:=hC.taken hx he1
      rw [hρ] at q1
      cases q1
      rw [hb] at q2
      cases q2
      have hft:(Instr.findKey kt (a.eval k) arr.toList).run P w = .ok (some (i,e'.val)) w:=by
        rw [hf,hi]
        simp [q3]
      refine dh (v':=e'.val) (w':=w) ?_ (hn _ _ _ _ _ _ _ hC' ?_ hk)
      · simp only [execOp,ho]
        refine cF ?_
        simp [Instr.lookup,run_underlying hu,he,MapKept.run_getObj_map hb,hck,hft]
      · generalize e'.val=u at q4 ⊢
        cases u<;>first | (cases q4;done) | skip
        exact .k (.os _ _ _ _ (by rw [←hl];simp))
    · simp only [bo,cn] at hk
      obtain ⟨zz,hz1,hz2,_⟩:=wK (P:=P) (G:=G) (w:=w) (ρ := ρ) hz
      have hzz:zz = .slice none 0 0:=by
        cases zv<;>first | (cases hnl;done) | skip
        cases hz2 with
        |c h=>cases h with
          |k h=>cases h;rfl
      subst hzz
      have hft:(Instr.findKey kt (a.eval k) arr.toList).run P w = .ok none w:=by
        rw [hf,hi];rfl
      have hC':=hC.push (gY.refl w) (.slice none 0 0) (.rows z []) (by simp [f_]) (.inl ⟨rfl,rfl⟩)
      refine dh (v':=.slice none 0 0) (w':=w) ?_ (hn _ _ _ _ _ _ _ hC' (.k (.os _ _ _ _ (by rw [←hl];simp))) hk)
      simp only [execOp,ho]
      refine cF ?_
      simp [Instr.lookup,run_underlying hu,he,MapKept.run_getObj_map hb,hck,hft,hz1]
  · exact hk.elim
theorem au.PM (hC:au E n G ρ t h a w) {id r z:Nat} {es es':List ME} {out out':Option (Nat×V)} {it it':Option (Nat×It)} {arr arr':Array MapEntry} {clk clk':Nat} (hρ:ρ[id]? = some (.map (some r))) (hx:h[id]? = some (.ms z es out it)) (hb:w.heap[r]? = some (.map arr clk))
    (hs:arr'.size=es'.length) (ho:ord arr' clk') (hg:∀b,b∈Bc es'→b∈Bc es) (hi:HK es')
    (hr:∀(i:Nat) (e:MapEntry) (x:ME),arr'[i]? = some e→es'[i]? = some x→dW G w [] e.key (tw x.1)∧∀b rs,x.2=some (b,rs)→f_ e.val=b∧AB G w e.val z rs)
    (hol:∀(i:Nat) (v:V),out'=some (i,v)→i<es'.length) (hov:∀(i:Nat) (v:V) (e:MapEntry),out'=some (i,v)→arr'[i]? = some e→dP G w ρ e.val v)
    (hit:it'=none∨(it'=it∧clk'=clk∧∀i:Nat,(arr'[i]?).map (·.born)=(arr[i]?).map (·.born))) :
    au E n G ρ t (h.set id (.ms z es' out' it')) a { w with heap:=w.heap.setIfInBounds r (.map arr' clk') }:=by
  have hh:=MapKept.heap_set (o':=.map arr' clk') hb
  have hG:∀b,G b→(w.heap.setIfInBounds r (.map arr' clk'))[b]? = w.heap[b]?:=λb hbG=>hh.2 b (λe=>hC.ok.hr.gd b hbG ⟨id,_,_,hρ,hx,by simp,by rw [e];exact bT.2 (.inl rfl)⟩)
  obtain ⟨⟨r',arr0,clk0,e0,h1,h2,h3,h4,h5,h6,h7⟩,hit0⟩:=hC.ok.hr.rep id _ _ hρ hx
  cases e0
  rw [hb] at h1
  cases h1
  have hne:∀b,b∈Bc es→(w.heap.setIfInBounds r (.map arr' clk'))[b]? = w.heap[b]?:=λb hb2=>hh.2 b (λe=>h4.2 (e ▸ hb2))
  refine hC.se (w':={ w with heap:=w.heap.setIfInBounds r (.map arr' clk') }) hρ hx (by simp) (by simp) (λb _ hbk=>hh.2 b (λe=>hbk (by rw [e];exact bT.2 (.inl rfl)))) rfl rfl rfl ?_ (λb hb2=>.inl ?_)
  · refine ⟨⟨r, arr', clk', rfl, hh.1, hs, ho, ⟨hi, fun h => h4.2 (hg r h)⟩, fun i e x he hx => ⟨(hr i e x he hx).1.mono (fun _ h => h) hG (fun _ _ => rfl), fun b rs hv => ?_⟩, hol, fun i v e hv he => (hov i v e hv he).mono (fun _ h => h) hG (fun _ _ => rfl)⟩, ?_⟩
    · obtain ⟨g1,g2⟩:=(hr i e x he hx).2 b rs hv
      refine ⟨g1,g2.mono (λ_ h=>h) hG λc hc=>hne c (hg c (eQ.2 ⟨i,x.1,rs,?_⟩))⟩
      rw [hx,←hc,g1,←hv]
    · rcases hit with rfl | ⟨rfl,rfl,hbn⟩
      · trivial
      · match it',hit0 with
        |none,_=>trivial
        |some (q,l),hit0=>
          refine ⟨?_,λhb2=>hit0.2 (hg q hb2)⟩
          obtain ⟨m,arr1,clk1,seen,e0,g1,g2,g3,g6,g7,g8⟩:=hit0.1
          cases e0
          rw [hb] at g1
          cases g1
          have tr:∀(i:Nat) {e:MapEntry},arr'[i]? = some e→∃e',arr[i]? = some e'∧e'.born=e.born:=λi e h1=>by
            have:=hbn i
            rw [h1,bA,eq_comm,aG] at this
            exact this
          have tr':∀(i:Nat) {e:MapEntry},arr[i]? = some e→∃e',arr'[i]? = some e'∧e'.born=e.born:=λi e h1=>by
            have:=hbn i
            rw [h1,bA,aG] at this
            exact this
          refine ⟨r,arr',clk',seen,rfl,hh.1,g2,(hh.2 q (λe=>g2 e.symm)).trans g3,g6,λi=>(g7 i).trans ?_,λi hi=>?_⟩
          · constructor
            · rintro ⟨e,h1,h2⟩
              obtain ⟨e',h3,h4⟩:=tr' i h1
              exact ⟨e',h3,by rw [h4];exact h2⟩
            · rintro ⟨e,h1,h2⟩
              obtain ⟨e',h3,h4⟩:=tr i h1
              exact ⟨e',h3,by rw [h4];exact h2⟩
          · obtain ⟨e,sn,h1,h2⟩:=g8 i hi
            obtain ⟨e',h3,h4⟩:=tr' i h1
            exact ⟨e',sn,h3,by rw [h4];exact h2⟩
  · simp only [gh,aS] at hb2
    refine bT.2 (.inr ?_)
    simp only [gh,aS]
    rcases hb2 with hb2 | hb2
    · exact .inl (hg b hb2)
    · rcases hit with rfl | ⟨rfl,_⟩
      · cases hb2
      · exact .inr hb2
theorem wi (s1 s2:ByteArray):Instr.sameBits 10000 (.agg #[.string s1,.string s2]) (.agg #[.string s1,.string s2])=true:=by
 simp [Instr.sameBits,bytes_beq]
theorem HA (hC:au E n G ρ t h a w) (hn:iX E n a o K b7) {ty kt e t2 t3:TypeId} {x k v:Operand} {ok' ov:O} {ks:List Nat} {id z:Nat} {es:List ME} {out:Option (Nat×V)} {it:Option (Nat×It)} (ho:o.op = .mapUpdate ty x k v∨o.op = .insert ty x k v) (hu:P.underlying ty=some (.map kt e)) (hvx:bB G w ρ (a.eval x) (.mp id)) (hkk:ck P t2 k=some ok') (hv:ck P t3 v=some ov)
    (hks:yC P kt=some ks) (hx:h[id]? = some (.ms z es out it)) (hk:(match Ed (gv t ok'),K0 t ov with
        |some key,.os m=>(match get? h m with
          |some (.rows z' rs)=>(Nat.beq z z'=true∧Nat.beq (ks.headD 0) 9=true) ∧
            ((∃ i, (lS key es = some i ∧ ∀ j v, out = some (j, v) → j = i) ∧ ∀ b, Bj (kF m t) fun t => flb (((h.map (gi m)).set m .no).set id (.ms z (eX i (some (b, rs)) es) none it)) fun h => K .ud t h) ∨
             ((lS key es=none∧out=none∧it=none)∧∀b,Bj (kF m t) λt=>flb (((h.map (gi m)).set m .no).set id (.ms z (es ++ [(key,some (b,rs))]) none none)) λh=>K .ud t h))
          |_=>False)
        |some key,.nl z'=>(Nat.beq z z'=true∧Nat.beq (ks.headD 0) 9=true) ∧
            ((∃ i, (lS key es = some i ∧ ∀ j v, out = some (j, v) → j = i) ∧ K .ud t (h.set id (.ms z (eX i (some (none, [])) es) none it))) ∨
             ((lS key es=none∧out=none∧it=none)∧K .ud t (h.set id (.ms z (es ++ [(key,some (none,[]))]) none none))))
        |_,_=>False)):o.wp P a w b7 Q:=by
  have hexec:∀w',(Instr.mapUpdate ty (a.eval x) (a.eval k) (a.eval v)).run P w = .ok () w'→(execOp a.eval o).run P w = .ok .skip w':=by
    intro w' hw
    rcases ho with ho | ho<;>simp [execOp,ho,hw]
  have hvk:=bJ hC hkk
  have hvv:=HT hC hv
  obtain ⟨r,arr,clk,he,hρ,hb,hsz,hor,hr⟩:=xE hC hvx hx
  obtain ⟨⟨r',arr0,clk0,e0,h1,h2,h3,h4,h5,h6,h7⟩,hit0⟩:=hC.ok.hr.rep id _ _ hρ hx
  cases e0
  rw [hb] at h1
  cases h1
  have found:∀{key:List UInt8×List UInt8} {i:Nat},Ed (gv t ok')=some key→Nat.beq (ks.headD 0) 9=true→lS key es=some i→(Instr.mapUpdate ty (a.eval x) (a.eval k) (a.eval v)).run P w = .ok () { w with heap:=w.heap.setIfInBounds r (.map (arr.modify i λe=>{ e with key:=a.eval k,val:=a.eval v }) clk) }∧(es[i]?).map (·.1)=some key:=by
    intro key i hkey h9 hi
    obtain ⟨fs,f,g,h9⟩:=Lv hks h9
    rw [tp hkey] at hvk
    have hf:=nv h9 (Hr hvk) (by simpa using hsz) hr
    obtain ⟨s1,s2,hs,e1,e2⟩:=oE hvk
    have hck:=l_ (w:=w) h9 s1 s2 false 9998
    rw [←hs] at hck
    obtain ⟨hil,hp,_⟩:=List.findIdx?_eq_some_iff_getElem.1 hi
    have hia:i<arr.size:=by rw [hsz];exact hil
    have hkk:(es[i]).1=key:=by simpa using hp
    have hft:(Instr.findKey kt (a.eval k) arr.toList).run P w = .ok (some (i,arr[i].val)) w:=by
      rw [hf,hi];simp [hia]
    have hold:arr[i].key=a.eval k:=by
      have:=hr i arr[i] es[i] (by simp [hia]) (by simp [hil])
      rw [hkk] at this
      obtain ⟨u1,u2,hu0,g1,g2⟩:=oE (.o this)
      rw [hu0,hs]
      have qM:∀p q:ByteArray,p.data.toList=q.data.toList→p=q:=by
        rintro ⟨⟨p⟩⟩ ⟨⟨q⟩⟩ h
        simp only at h
        rw [h]
      rw [qM u1 s1 (g1.trans e1.symm),qM u2 s2 (g2.trans e2.symm)]
    have hks':(Instr.keyThatStays arr[i].key (a.eval k)).run P w = .ok (a.eval k) w:=by
      rw [hold]
      unfold Instr.keyThatStays
      rw [hs,wi]
      rfl
    refine ⟨?_,by simp [hil,hkk]⟩
    simp [Instr.mapUpdate,run_underlying hu,he,MapKept.run_getObj_map hb,hck,hft,hia,hks',MapKept.run_setObj_map _ hb]
  have fresh:∀{key:List UInt8×List UInt8},Ed (gv t ok')=some key→Nat.beq (ks.headD 0) 9=true→lS key es=none→(Instr.mapUpdate ty (a.eval x) (a.eval k) (a.eval v)).run P w = .ok () { w with heap:=w.heap.setIfInBounds r (.map (arr.push { key:=a.eval k,val:=a.eval v,born:=clk }) (clk+1)) }:=by
    intro key hkey h9 hi
    obtain ⟨fs,f,g,h9⟩:=Lv hks h9
    rw [tp hkey] at hvk
    have hf:=nv h9 (Hr hvk) (by simpa using hsz) hr
    obtain ⟨s1,s2,hs,e1,e2⟩:=oE hvk
    have hck:=l_ (w:=w) h9 s1 s2 false 9998
    rw [←hs] at hck
    have hft:(Instr.findKey kt (a.eval k) arr.toList).run P w = .ok none w:=by
      rw [hf,hi];rfl
    simp [Instr.mapUpdate,run_underlying hu,he,MapKept.run_getObj_map hb,hck,hft,MapKept.run_setObj_map _ hb]
  have keyR:∀{key:List UInt8×List UInt8},Ed (gv t ok')=some key→dW G w [] (a.eval k) (tw key):=λhkey=>by
    rw [tp hkey] at hvk
    exact (Hr hvk).mono (λ_ h=>h) (λ_ _=>rfl) (λi hi=>by rw [B0] at hi;cases hi)
  have setF:∀{key:List UInt8×List UInt8} {i:Nat} (ex:Option (Option Nat×List (List D))) (out':Option (Nat×V)),Ed (gv t ok')=some key→(es[i]?).map (·.1)=some key→(∀b rs,ex=some (b,rs)→b=none∧f_ (a.eval v)=none∧AB G w (a.eval v) z rs)→(∀j u,out'=some (j,u)→j=i∧dP G w ρ (a.eval v) u) →
      au E n G ρ t (h.set id (.ms z (eX i ex es) out' it)) a { w with heap:=w.heap.setIfInBounds r (.map (arr.modify i λe=>{ e with key:=a.eval k,val:=a.eval v }) clk) }:=by
    intro key i ex out' hkey hik hex hout
    refine hC.PM hρ hx hb (by rw [nJ];simpa using hsz) (tK (λ_=>rfl) hor) (λb hb2=>?_) (tW h4.1 λb rs e=>by have:=(hex _ _ e).1;cases this) (λj e' y he' hj=>?_) (λj u hj=>?_) (λj u e' hj he'=>?_) (.inr ⟨rfl,rfl,λj=>?_⟩)
    · rcases mF hb2 with ⟨j,k',rs',_,hj⟩ | ⟨rs',e⟩
      · exact eQ.2 ⟨j,k',rs',hj⟩
      · have:=(hex _ _ e).1;cases this
    · rw [fS] at he'
      rw [fe] at hj
      split at he'
      · rename_i e1
        subst e1
        rw [ζ rfl,aG] at hj
        obtain ⟨y0,hy0,rfl⟩:=hj
        rw [hy0] at hik
        cases hik
        rw [aG] at he'
        obtain ⟨e0,_,rfl⟩:=he'
        refine ⟨keyR hkey,λb rs e2=>?_⟩
        obtain ⟨g1,g2,g3⟩:=hex b rs e2
        exact ⟨g2.trans g1.symm,g3⟩
      · rename_i e1
        rw [η e1] at hj
        exact h5 j e' y he' hj
    · obtain ⟨rfl,_⟩:=hout j u hj
      rw [nJ]
      cases hc:es[j]? with
      |none=>rw [hc] at hik;cases hik
      |some=>exact (aA.1 hc).1
    · obtain ⟨rfl,g⟩:=hout j u hj
      rw [fS,ζ rfl,aG] at he'
      obtain ⟨e0,_,rfl⟩:=he'
      exact g
    · rw [fS]
      split
      · cases arr[j]?<;>rfl
      · rfl
  have setN:∀{key:List UInt8×List UInt8} (ex:Option (Option Nat×List (List D))) (out':Option (Nat×V)),Ed (gv t ok')=some key→(∀b rs,ex=some (b,rs)→b=none∧f_ (a.eval v)=none∧AB G w (a.eval v) z rs)→(∀j u,out'=some (j,u)→j=es.length∧dP G w ρ (a.eval v) u) →
      au E n G ρ t (h.set id (.ms z (es ++ [(key,ex)]) out' none)) a { w with heap:=w.heap.setIfInBounds r (.map (arr.push { key:=a.eval k,val:=a.eval v,born:=clk }) (clk+1)) }:=by
    intro key ex out' hkey hex hout
    have hnb:∀(j:Nat) (k':List UInt8×List UInt8) (b:Nat) (rs:List (List D)),(es ++ [(key,ex)])[j]? = some (k',some (some b,rs))→es[j]? = some (k',some (some b,rs)):=by
      intro j k' b rs hj
      rw [lg] at hj
      split at hj
      · exact hj
      · rename_i hlt
        cases hjj:j - es.length with
        |zero=>
          rw [hjj] at hj
          simp at hj
          have:=(hex _ _ hj.2).1
          cases this
        |succ=>rw [hjj] at hj;simp at hj
    refine hC.PM hρ hx hb (by simp [hsz]) (yb rfl hor) (λb hb2=>?_) (λi j k1 k2 rs1 rs2 b g1 g2=>h4.1 i j k1 k2 rs1 rs2 b (hnb _ _ _ _ g1) (hnb _ _ _ _ g2)) (λj e' y he' hj=>?_) (λj u hj=>?_) (λj u e' hj he'=>?_) (.inl rfl)
    · obtain ⟨j,k',rs',hj⟩:=eQ.1 hb2
      exact eQ.2 ⟨j,k',rs',hnb _ _ _ _ hj⟩
    · rw [jL] at he'
      split at he'
      · rename_i hi
        cases he'
        rw [hi,hsz] at hj
        simp at hj
        subst hj
        refine ⟨keyR hkey,λb rs e2=>?_⟩
        obtain ⟨g1,g2,g3⟩:=hex b rs e2
        exact ⟨g2.trans g1.symm,g3⟩
      · have hi:j<arr.size:=(aN.1 he').1
        rw [aO (by omega)] at hj
        exact h5 j e' y he' hj
    · obtain ⟨rfl,_⟩:=hout j u hj
      simp
    · obtain ⟨rfl,g⟩:=hout j u hj
      rw [jL,ζ hsz.symm] at he'
      cases he'
      exact g
  split at hk
  · rename_i key m hkey hval
    rw [get?_eq] at hk
    split at hk
    · rename_i z' rs hm
      obtain ⟨⟨hz,h9⟩,hk⟩:=hk
      have hne:m≠id:=λe=>by subst e;rw [hm] at hx;cases hx
      have hihl:id<h.length:=(aA.1 hx).1
      rw [hval] at hvv
      have hvc:dP G w ρ (a.eval v) (.os m):=by
        generalize a.eval v=u at hvv ⊢
        cases hvv with
        |o h=>cases h with
          |c h=>exact h
      rcases hk with ⟨i,⟨hi,_⟩,hk⟩ | ⟨⟨hi,_,rfl⟩,hk⟩
      · obtain ⟨hrun,hik⟩:=found hkey h9 hi
        have hC1:=setF none (some (i,.os m)) hkey hik (λb rs e=>by cases e) (λj u e=>by cases e;exact ⟨rfl,hvc⟩)
        obtain ⟨b,hC2⟩:=hC1.Pt (by rw [bm hihl]) (by rw [eE (kQ hne)];exact hm) (dH hz)
        have hk:=hk b
        simp only [j2,gE] at hk
        refine jb (hexec _ hrun) (hn _ _ _ _ _ _ _ hC2 (.k .ud) ?_)
        have e1:eX i (some (b,rs)) (eX i none es)=eX i (some (b,rs)) es:=by
          apply cj
          intro j
          simp only [fe]
          split
          · cases es[j]?<;>rfl
          · rfl
        have e2:(((List.map (gi m) (List.set h id (B.ms z (eX i none es) (some (i,.os m)) it))).set m B.no).set id (B.ms z (eX i (some (b,rs)) (eX i none es)) none it))=(((List.map (gi m) h).set m .no).set id (.ms z (eX i (some (b,rs)) es) none it)):=by
          rw [e1,fg,List.set_comm _ _ (kQ hne),List.set_set]
        rw [e2]
        exact hk
      · have hC1:=setN none (some (es.length,.os m)) hkey (λb rs e=>by cases e) (λj u e=>by cases e;exact ⟨rfl,hvc⟩)
        obtain ⟨b,hC2⟩:=hC1.Pt (by rw [bm hihl]) (by rw [eE (kQ hne)];exact hm) (dH hz)
        have hk:=hk b
        simp only [j2,gE] at hk
        refine jb (hexec _ (fresh hkey h9 hi)) (hn _ _ _ _ _ _ _ hC2 (.k .ud) ?_)
        have e1:eX es.length (some (b,rs)) (es ++ [(key,none)])=es ++ [(key,some (b,rs))]:=by
          apply cj
          intro j
          rw [fe,lg,lg]
          split
          · rename_i e3
            subst e3
            simp
          · rename_i e3
            split
            · rfl
            · rename_i hlt
              cases hjj:j - es.length with
              |zero=>omega
              |succ=>simp
        have e2:(((List.map (gi m) (List.set h id (B.ms z (es ++ [(key,none)]) (some (es.length,.os m)) none))).set m B.no).set id (B.ms z (eX es.length (some (b,rs)) (es ++ [(key,none)])) none none))=(((List.map (gi m) h).set m .no).set id (.ms z (es ++ [(key,some (b,rs))]) none none)):=by
          rw [e1,fg,List.set_comm _ _ (kQ hne),List.set_set]
        rw [e2]
        exact hk
    · exact hk.elim
  · rename_i key z' hkey hval
    obtain ⟨⟨hz,h9⟩,hk⟩:=hk
    rw [hval] at hvv
    have hvn:a.eval v = .slice none 0 0:=by
      generalize a.eval v=u at hvv
      cases hvv with
      |o h=>cases h with
        |c h=>cases h with
          |k h=>cases h;rfl
    have hex:∀b rs,(some (none,[]):Option (Option Nat×List (List D)))=some (b,rs)→b=none∧f_ (a.eval v)=none∧AB G w (a.eval v) z rs:=λb rs e=>by
      cases e
      rw [hvn]
      exact ⟨rfl,rfl,.inl ⟨rfl,rfl⟩⟩
    rcases hk with ⟨i,⟨hi,_⟩,hk⟩ | ⟨⟨hi,_,rfl⟩,hk⟩
    · obtain ⟨hrun,hik⟩:=found hkey h9 hi
      exact jb (hexec _ hrun) (hn _ _ _ _ _ _ _ (setF (some (none,[])) none hkey hik hex (λj u e=>by cases e)) (.k .ud) hk)
    · exact jb (hexec _ (fresh hkey h9 hi)) (hn _ _ _ _ _ _ _ (setN (some (none,[])) none hkey hex (λj u e=>by cases e)) (.k .ud) hk)
  · exact hk.elim
end
end Go.Vx
