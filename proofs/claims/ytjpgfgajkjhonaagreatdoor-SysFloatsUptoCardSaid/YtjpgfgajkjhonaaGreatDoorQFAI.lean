/- Maps that own their lists, and iterators over maps, in the picture. Conditions: none; lemmas on the definitions before. -/
import Derived.Test.YtjpgfgajkjhonaaGreatDoorQFAH
import Derived.MapKept
import Derived.Maps.RangeRun
namespace Go.Vx
open Go.MapKept
section
variable {P:Program} {E:gI} {n:Nat} {G:Nat→Prop} {ρ ρ':List Value} {t:T} {h:H} {a:Act} {w:World} {o:Oper} {bW:Act→World→Prop} {Q:Exit→Act→World→Prop} {K KP:V→T→H→Prop}
variable (S:Nat→List V→H→(Out→H→Prop)→Prop) (ow:Nat→Bool)
theorem Fb {v:Value} (h:br G w v .nm):v = .map none:=by cases h;rfl
theorem AD {α β:Type} (g:α→β) (f:α→α) (hg:∀x,g (f x)=g x):∀(l:List α) (i:Nat),(l.modify i f).map g=l.map g:=by
 intro l
 induction l with
 |nil=>intro i;cases i<;>rfl
 |cons x l ih=>
  intro i;cases i with
  |zero=>simp [hg]
  |succ i=>simp [ih i]
theorem sA {arr:Array MapEntry} {clk i:Nat} {f:MapEntry→MapEntry} (hf:∀e,(f e).born=e.born) (h:ord arr clk):ord (arr.modify i f) clk:=by
 have e:((arr.modify i f).toList.map (·.born))=arr.toList.map (·.born):=by
  rw [Array.toList_modify];exact AD _ _ hf _ _
 refine ⟨λx hx=>?_,by rw [e];exact h.2⟩;have:x.born∈(arr.modify i f).toList.map (·.born):=bL.2 ⟨x,hx,rfl⟩;rw [e] at this;obtain ⟨y,hy,hxy⟩:=bL.1 this;rw [←hxy];exact h.1 y hy
theorem x6 {arr:Array MapEntry} {clk:Nat} {e:MapEntry} (he:e.born=clk) (h:ord arr clk):ord (arr.push e) (clk+1):=by
 refine ⟨λx hx=>?_,?_⟩
 ·rw [Array.toList_push] at hx;rcases aR.1 hx with hx | hx
  ·have:=h.1 x hx;omega
  ·simp at hx;subst hx;omega
 ·rw [Array.toList_push,bm,List.pairwise_append];refine ⟨h.2,by simp,λx hx y hy=>?_⟩;simp at hy;subst hy;obtain ⟨z,hz,rfl⟩:=bL.1 hx;have:=h.1 z hz;omega
theorem u3 {arr:Array MapEntry} {clk i:Nat} (h:ord arr clk):ord (arr.eraseIdxIfInBounds i) clk:=by
 have hs:(arr.eraseIdxIfInBounds i).toList.Sublist arr.toList:=by
  unfold Array.eraseIdxIfInBounds;split
  ·simp only [Array.toList_eraseIdx];exact List.eraseIdx_sublist _ _
  ·exact List.Sublist.refl _
 exact ⟨λx hx=>h.1 x (hs.subset hx),h.2.sublist (hs.map _)⟩
theorem vF {ty:TypeId} {zv:V} (hz:yn P ty=some zv):∃z,(zeroValue ty).run P w = .ok z w∧dM G w ρ z zv∧jF zv = []:=by
 simp only [yn,aJ,aD] at hz;obtain ⟨zs,hzs,i,hi,z,hz0,hm⟩:=hz;obtain ⟨i',z',hi',hz',h1,hstor,h3⟩:=j9 (G:=G) (w:=w) (ρ := ρ) hzs;rw [hi] at hi';cases hi';rw [hz0] at hz';cases hz';refine ⟨z,by simp [zeroValue,typeInfo,hi,hz0],?_⟩;have hid:∀(v:V),ib v = []→(∀f c,v≠.fc f c)→kB v = []:=λv hv hf=>by cases v<;>first | exact hv | exact absurd rfl (hf _ _)
 have hnf:∀{v:Value} {x:V},dL G w ρ v x→∀f c,x≠.fc f c:=by
  intro v x hx f c e;subst e;cases hx
 have hna:∀{v:Value} {x:V},dL G w ρ v x→∀c,x≠.ag c:=by
  intro v x hx c e;subst e;cases hx
 clear hstor;split at hm
 ·cases hm;refine ⟨.ag _ _ (by simpa [Value.cells] using h1) (λj x hx=>.k (by simpa [Value.cells] using (h3 j x hx).1)),?_⟩;simp only [jF,cG];intro x hx;obtain ⟨j,hj⟩:=au.1 hx;exact hid x (h3 j x hj).2 (hnf (h3 j x hj).1)
 ·rename_i x hna';cases hm;have hx:=h3 0 _ rfl;have hc:z.cells = #[z]:=by
   cases z<;>first | rfl | exact absurd rfl (hna' _)
  rw [hc] at hx;refine ⟨.c (.k hx.1),?_⟩;have h0:=hid _ hx.2 (hnf hx.1);have h1:=hna hx.1;cases zv<;>first | exact h0 | exact absurd rfl (h1 _)
 ·cases hm
theorem Ok.view (hO:Ok E G w ρ h) {h':H} (hp:∀(i:Nat) (v:Value),ρ[i]? = some v→ρ'[i]? = some v) (hl:ρ'.length=h'.length) (hle:h.length≤h'.length)
  (rep:∀(i:Nat) (v:Value) (y:B),ρ'[i]? = some v→h'[i]? = some y→y≠.no→cY G w ρ' v y)
  (src:∀(i:Nat) (v:Value) (y:B) (b:Nat),ρ'[i]? = some v→h'[i]? = some y→y≠.no→b∈eO v y→∃(j:Nat) (u:Value) (x:B),ρ[j]? = some u∧h[j]? = some x∧x≠.no∧b∈eO u x ∧
   ∀(i':Nat) (v':Value) (y':B),ρ'[i']? = some v'→h'[i']? = some y'→y'≠.no→b∈eO v' y'→i'=i):Ok E G w ρ' h':=by
 have hown:∀b,own ρ' h' b→own ρ h b:=λb ⟨i,v,y,h1,h2,h3,h4⟩=>by
  obtain ⟨j,u,x,g1,g2,g3,g4,_⟩:=src i v y b h1 h2 h3 h4;exact ⟨j,u,x,g1,g2,g3,g4⟩
 refine ⟨⟨hl,λi v y h1 h2=>?_,λi i' v v' y y' b h1 h2 h3 h4 h5 h6 h7 h8=>?_,hO.hr.gl,λb hb ho=>hO.hr.gd b hb (hown b ho),hO.hr.sZ⟩,hO.gm,hO.go,λb hb=>hO.oo b (hown b hb),hO.frame,hO.size,hO.os,hO.tape,hO.out,
  λi v hv hs=>hp i v (hO.hand i v hv hs),aY hO.hl hle,λr hr=>let ⟨g1,g2,g3⟩:=hO.rG r hr;⟨g1,g2,λg4=>g3 (hown r g4)⟩⟩
 ·by_cases hy:y = .no
  ·subst hy;trivial
  ·exact rep i v y h1 h2 hy
 ·obtain ⟨_,_,_,_,_,_,_,g⟩:=src i v y b h1 h2 h3 h7;exact (g i' v' y' h4 h5 h6 h8).symm
theorem fy {i j:Nat} {x:Option (Option Nat×List (List D))} {es:List ME}:(fC i x es)[j]? = if i=j then (es[j]?).map λe=>(e.1,x) else es[j]?:=by
 unfold fC;rw [List.getElem?_modify];split
 ·rfl
 ·cases es[j]?<;>rfl
theorem mT {i:Nat} {x:Option (Option Nat×List (List D))} {es:List ME}:(fC i x es).length=es.length:=by simp [fC]
theorem lW {i b:Nat} {x:Option (Option Nat×List (List D))} {es:List ME} (h:b∈Db (fC i x es)):(∃(j:Nat) (k:List UInt8×List UInt8) (rs:List (List D)),j≠i∧es[j]? = some (k,some (some b,rs)))∨∃rs,x=some (some b,rs):=by
 obtain ⟨j,k,rs,hj⟩:=eF.1 h;rw [fy] at hj;split at hj
 ·rw [aG] at hj;obtain ⟨e,_,he⟩:=hj;cases he;exact .inr ⟨rs,rfl⟩
 ·exact .inl ⟨j,k,rs,λe=> ‹¬i=j› e.symm,hj⟩
theorem sE {i:Nat} {x:Option (Option Nat×List (List D))} {es:List ME} (hi:Ji es) (hx:∀b rs,x=some (some b,rs)→∀(j:Nat) (k:List UInt8×List UInt8) (rs':List (List D)),j≠i→es[j]?≠some (k,some (some b,rs'))) :
  Ji (fC i x es):=by
 intro i' j k k' rs rs' b h1 h2;rw [fy] at h1 h2;split at h1<;>split at h2
 ·omega
 ·rename_i e1 e2;rw [aG] at h1;obtain ⟨e,_,he⟩:=h1;cases he;exact absurd h2 (hx b rs rfl j k' rs' λe=>e2 e.symm)
 ·rename_i e1 e2;rw [aG] at h2;obtain ⟨e,_,he⟩:=h2;cases he;exact absurd h1 (hx b rs' rfl i' k rs λe=>e1 e.symm)
 ·exact hi _ _ _ _ _ _ _ h1 h2
theorem an.Mv (hC:an E n G ρ t h a w) {id m z z' i:Nat} {es:List ME} {it:Option (Nat×It)} {rs:List (List D)} (hx:h[id]? = some (.ms z es (some (i,.os m)) it)) (hm:h[m]? = some (.rows z' rs)) (hz:z=z') :
    ∃b,an E n G ρ (jm m t) (((h.map (gO m)).set m .no).set id (.ms z (fC i (some (b,rs)) es) none it)) a w:=by
  subst hz
  have hO:=hC.ok
  have hr:=hO.hr
  have hil:id<ρ.length:=by rw [hr.len];exact (aA.1 hx).1
  have hml:m<ρ.length:=by rw [hr.len];exact (aA.1 hm).1
  have hne:m≠id:=λe=>by subst e;rw [hm] at hx;cases hx
  have hv:=aB hil
  have hv0:=aB hml
  have hrm:=hr.rep m _ _ hv0 hm
  obtain ⟨⟨r,arr,clk,e0,h1,h2,h3,h4,h5,h6,h7⟩,hit⟩:=hr.rep id _ _ hv hx
  generalize hgm:ρ[m]=v0 at *
  generalize hgi:ρ[id]=v at *
  have hsl:jM v0=true:=by
    rcases hrm with ⟨e,_⟩ | ⟨_,_,_,_,e,_⟩<;>rw [e]<;>rfl
  have hpb:∀b,fo v0=some b→b∉eO v (.ms z es (some (i,.os m)) it):=λb hb hb2=>hne (hr.mq m id v0 v _ _ b hv0 hm (by simp) hv hx (by simp) (bT.2 (.inl hb)) hb2)
  have hset:=mO hv0
  have get:∀(j:Nat) (y:B),(((h.map (gO m)).set m .no).set id (.ms z (fC i (some (fo v0,rs)) es) none it))[j]? = some y→y≠.no→(j=id∧y = .ms z (fC i (some (fo v0,rs)) es) none it)∨(j≠id∧j≠m∧∃y0,h[j]? = some y0∧y=gO m y0):=by
    intro j y hj hy
    rw [bH] at hj
    split at hj
    · rename_i e
      subst e
      split at hj
      · cases hj;exact .inl ⟨rfl,rfl⟩
      · cases hj
    · rename_i e
      rw [bH] at hj
      split at hj
      · split at hj
        · cases hj;exact absurd rfl hy
        · cases hj
      · rename_i e2
        rw [aC,aG] at hj
        obtain ⟨y0,h8,rfl⟩:=hj
        exact .inr ⟨λh=>e h.symm,λh=>e2 h.symm,y0,h8,rfl⟩
  have kno:∀y0:B,gO m y0≠.no→y0≠.no:=λy0 h e=>h (by rw [e];rfl)
  have new:∀b,b∈eO v (.ms z (fC i (some (fo v0,rs)) es) none it)→b∈eO v (.ms z es (some (i,.os m)) it)∨fo v0=some b:=by
    intro b hb
    rcases bT.1 hb with hb | hb
    · exact .inl (bT.2 (.inl hb))
    · simp only [gh,aR] at hb
      rcases hb with hb | hb
      · rcases lW hb with ⟨j,k,rs',_,hj⟩ | ⟨rs',e⟩
        · exact .inl (bT.2 (.inr (by simp only [gh,aR];exact .inl (eF.2 ⟨j,k,rs',hj⟩))))
        · obtain ⟨e,_⟩:=Prod.mk.inj (ak e)
          exact .inr e
      · exact .inl (bT.2 (.inr (by simp only [gh,aR];exact .inr hb)))
  have hrep:cY G w ρ v (.ms z (fC i (some (fo v0,rs)) es) none it):=by
    have hgE:∀b,b∈Db es→b∈eO v (.ms z es (some (i,.os m)) it):=λb hb=>bT.2 (.inr (by simp only [gh,aR];exact .inl hb))
    refine ⟨⟨r,arr,clk,e0,h1,by rw [mT];exact h2,h3,⟨sE h4.1 λb rs' e j k rs2 _ hj=>?_,λhb=>?_⟩,λj e x he hj=>?_,λj v h=>(by cases h),λj v e h=>by cases h⟩,?_⟩
    · obtain ⟨e,_⟩:=Prod.mk.inj (ak e)
      exact hpb b e (hgE b (eF.2 ⟨j,k,rs2,hj⟩))
    · rcases lW hb with ⟨j,k,rs',_,hj⟩ | ⟨rs',e⟩
      · exact h4.2 (eF.2 ⟨j,k,rs',hj⟩)
      · obtain ⟨e,_⟩:=Prod.mk.inj (ak e)
        exact hpb r e (bT.2 (.inl (by rw [e0];rfl)))
    · rw [fy] at hj
      split at hj
      · rename_i e1
        subst e1
        rw [aG] at hj
        obtain ⟨x0,hx0,rfl⟩:=hj
        refine ⟨(h5 i e x0 he hx0).1,λb rs' e2=>?_⟩
        cases e2
        have h8:=h7 i _ e rfl he
        have h9:e.val=v0:=by
          generalize e.val=u at h8
          cases h8 with
          |k h8=>cases h8 with
            |os _ a n c h8=>rw [hv0] at h8;exact (ak h8).symm
        rw [h9]
        exact ⟨rfl,hrm⟩
      · exact h5 j e x he hj
    · match it,hit,hpb with
      |none,_,_=>trivial
      |some (q,l),hit,hpb=>
        refine ⟨hit.1,λhb=>?_⟩
        rcases lW hb with ⟨j,k,rs',_,hj⟩ | ⟨rs',e⟩
        · exact hit.2 (eF.2 ⟨j,k,rs',hj⟩)
        · obtain ⟨e,_⟩:=Prod.mk.inj (ak e)
          exact hpb q e (bT.2 (.inr (by simp [gh,Lp])))
  refine ⟨fo v0,⟨hO.view (ρ':= ρ) (λ_ _ h=>h) (by simp [hr.len]) (by simp) (λj u y g1 g2 g3=>?_) (λj u y b g1 g2 g3 g4=>?_),hC.df,hC.sz,λj=>?_⟩⟩
  · rcases get j y g2 g3 with ⟨rfl,rfl⟩ | ⟨_,_,y0,k1,rfl⟩
    · rw [hv] at g1;cases g1;exact hrep
    · have:=(hr.rep j u y0 g1 k1).sR (v1:=v0) hv0 hsl
      rwa [hset] at this
  · rcases get j y g2 g3 with ⟨rfl,rfl⟩ | ⟨hj1,hj2,y0,k1,rfl⟩
    · rw [hv] at g1; cases g1
      rcases new b g4 with hb | hb
      · refine ⟨j,v,_,hv,hx,by simp,hb,λj' u' y' q1 q2 q3 q4=>?_⟩
        rcases get j' y' q2 q3 with ⟨rfl,_⟩ | ⟨_,_,y1,p1,rfl⟩
        · rfl
        · rw [eO,nO] at q4
          exact hr.mq j' j u' v y1 _ b q1 p1 (kno _ q3) hv hx (by simp) q4 hb
      · refine ⟨m,v0,_,hv0,hm,by simp,bT.2 (.inl hb),λj' u' y' q1 q2 q3 q4=>?_⟩
        rcases get j' y' q2 q3 with ⟨rfl,_⟩ | ⟨_,p0,y1,p1,rfl⟩
        · rfl
        · rw [eO,nO] at q4
          exact absurd (hr.mq j' m u' v0 y1 _ b q1 p1 (kno _ q3) hv0 hm (by simp) q4 (bT.2 (.inl hb))) p0
    · rw [eO,nO] at g4
      refine ⟨j,u,y0,g1,k1,kno _ g3,g4,λj' u' y' q1 q2 q3 q4=>?_⟩
      rcases get j' y' q2 q3 with ⟨rfl,rfl⟩ | ⟨_,_,y1,p1,rfl⟩
      · rw [hv] at q1;cases q1
        rcases new b q4 with hb | hb
        · exact hr.mq j' j v u _ y0 b hv hx (by simp) g1 k1 (kno _ g3) hb g4
        · exact absurd (hr.mq m j v0 u _ y0 b hv0 hm (by simp) g1 k1 (kno _ g3) (bT.2 (.inl hb)) g4).symm hj2
      · rw [eO,nO] at q4
        exact hr.mq j' j u' u y1 y0 b q1 p1 (kno _ q3) g1 k1 (kno _ g3) q4 g4
  · rw [jm,p_ _ rfl]
    have:=(hC.tm j).sR (v1:=v0) hv0 hsl
    rwa [hset] at this
theorem an.Tg (hC:an E n G ρ t h a w) {id:Nat} {x x1:B} (hx:h[id]? = some x) (hn:x≠.no) (h1:∀v,ρ[id]? = some v→cY G w ρ v x→cY G w ρ v x1) (hg:∀b∈gh x1,b∈gh x):an E n G ρ t (h.set id x1) a w:=by
 have hil:id<ρ.length:=by rw [hC.ok.hr.len];exact (aA.1 hx).1
 have hv:=aB hil;exact hC.rS hv hx hn (aQ _) (λ_ _ _=>rfl) rfl rfl rfl (h1 _ hv (hC.ok.hr.rep id _ _ hv hx)) (λb hb=>.inl (bT.2 (.inr (hg b hb))))
theorem vN {KK:T→H→Prop} (hC:an E n G ρ t h a w) {id:Nat} (hk:LO id t h KK):∃t' h',an E n G ρ t' h' a w∧KK t' h':=by
 unfold LO at hk;rw [get?_eq] at hk;split at hk
 ·rename_i z es i v it hx;split at hk
  ·rename_i m;rw [get?_eq] at hk;split at hk
   ·rename_i z' rs hm;obtain ⟨hz,hk⟩:=hk;obtain ⟨b,hC'⟩:=hC.Mv hx hm (dA hz);have hk:=hk b;simp only [jN,fz] at hk;exact ⟨_,_,hC',hk⟩
   ·exact hk.elim
  ·simp only [fz] at hk;exact ⟨_,_,hC.Tg (x1:=.ms z es none it) hx (by simp) (λv _ hr=>⟨hr.1.drop,hr.2⟩) (λb hb=>hb),hk⟩
 ·exact ⟨_,_,hC,hk⟩
theorem vM {KK:T→H→Prop}:∀(l:List Nat) {t:T} {h:H},an E n G ρ t h a w→xN l t h KK→∃t' h',an E n G ρ t' h' a w∧KK t' h'
 |[],_,_,hC,hk=>⟨_,_,hC,hk⟩
 |i :: l,t,h,hC,hk=>by
  rw [Cl] at hk;obtain ⟨t',h',hC',hk'⟩:=vN hC hk;exact vM l hC' hk'
theorem an.taken (hC:an E n G ρ t h a w) {id z i:Nat} {es:List ME} {it:Option (Nat×It)} {k:List UInt8×List UInt8} {b:Option Nat} {rs:List (List D)} (hx:h[id]? = some (.ms z es none it)) (hi:es[i]? = some (k,some (b,rs))) :
  ∃r arr clk e,ρ[id]? = some (.map (some r))∧w.heap[r]? = some (.map arr clk)∧arr[i]? = some e∧jM e.val=true∧an E n G (ρ ++ [e.val]) t (h.set id (.ms z (fC i none es) (some (i,.os h.length)) it) ++ [.rows z rs]) a w:=by
 have hO:=hC.ok;have hr:=hO.hr;have hil:id<ρ.length:=by rw [hr.len];exact (aA.1 hx).1
 have hihl:id<h.length:=by rw [←hr.len];exact hil
 have hv:=aB hil;obtain ⟨⟨r,arr,clk,e0,h1,h2,h3,h4,h5,h6,h7⟩,hit⟩:=hr.rep id _ _ hv hx;have hia:i<arr.size:=by rw [h2];exact (aA.1 hi).1
 have he:=aI hia;generalize hge:arr[i]=e at he;obtain ⟨hke,hrs⟩:=h5 i e _ he hi;obtain ⟨hb,hrs⟩:=hrs b rs rfl;have hsl:jM e.val=true:=by
  rcases hrs with ⟨e,_⟩ | ⟨_,_,_,_,e,_⟩<;>rw [e]<;>rfl
 refine ⟨r,arr,clk,e,by rw [hv,e0],h1,he,hsl,?_⟩;rw [e0] at hv;have hpre:∀j,j<ρ.length→(ρ ++ [e.val])[j]? = ρ[j]?:=λj hj=>aN hj;have hnew:(ρ ++ [e.val])[h.length]? = some e.val:=by rw [←hr.len];simp
 have get:∀(j:Nat) (u:Value) (y:B),(ρ ++ [e.val])[j]? = some u→(h.set id (.ms z (fC i none es) (some (i,.os h.length)) it) ++ [.rows z rs])[j]? = some y →
   (j=id∧u = .map (some r)∧y = .ms z (fC i none es) (some (i,.os h.length)) it)∨(j=h.length∧u=e.val∧y = .rows z rs)∨(j≠id∧j<h.length∧ρ[j]? = some u∧h[j]? = some y):=by
  intro j u y g1 g2
  by_cases hj:j<h.length
  ·rw [hpre j (by rw [hr.len];exact hj)] at g1;rw [aN (by simpa using hj),bH] at g2;split at g2
   ·rename_i e1;subst e1;rw [hv] at g1;cases g1;cases g2;exact .inl ⟨rfl,rfl,rfl⟩
   ·rename_i e1;exact .inr (.inr ⟨λh=>e1 h.symm,hj,g1,g2⟩)
  ·have hje:j=h.length:=by
    have:=(aA.1 g1).1;simp [hr.len] at this;omega
   subst hje;rw [hnew] at g1;cases g1;rw [aW (by simp)] at g2;simp at g2;exact .inr (.inl ⟨rfl,rfl,g2.symm⟩)
 have hN:∀c,c∈eO (.map (some r)) (.ms z (fC i none es) (some (i,.os h.length)) it)→c∈eO (.map (some r)) (.ms z es none it)∧b≠some c:=by
  intro c hc;have hib:∀k' rs' j,j≠i→es[j]? = some (k',some (some c,rs'))→b≠some c:=λk' rs' j hj h8 e1=>hj (by subst e1;exact h4.1 _ _ _ _ _ _ _ h8 hi);rcases bT.1 hc with hc | hc
  ·refine ⟨bT.2 (.inl hc),λe1=>?_⟩;subst e1;simp only [fo,aF] at hc;subst hc;exact h4.2 (eF.2 ⟨i,k,rs,hi⟩)
  ·simp only [gh,aR] at hc;rcases hc with hc | hc
   ·rcases lW hc with ⟨j,k',rs',hj,h8⟩ | ⟨_,e1⟩
    ·exact ⟨bT.2 (.inr (by simp only [gh,aR];exact .inl (eF.2 ⟨j,k',rs',h8⟩))),hib k' rs' j hj h8⟩
    ·cases e1
   ·refine ⟨bT.2 (.inr (by simp only [gh,aR];exact .inr hc)),λe1=>?_⟩;subst e1
    match it,hit,hc with
    |some (q,l),hit,hc=>
     simp only [Lp,aP] at hc;subst hc;exact hit.2 (eF.2 ⟨i,k,rs,hi⟩)
 have new:∀c,c∈eO e.val (.rows z rs)→c∈eO (.map (some r)) (.ms z es none it)∧b=some c:=by
  intro c hc;have hc:=(fi).1 hc;rw [hb] at hc;subst hc;exact ⟨bT.2 (.inr (by simp only [gh,aR];exact .inl (eF.2 ⟨i,k,rs,hi⟩))),rfl⟩
 have hmono:∀(v:Value) (y:B),cY G w ρ v y→y≠.no→cY G w (ρ ++ [e.val]) v y:=λv y hy hn=>hy.mono (λ_ h=>h) (λ_ _=>rfl) (λ_ _=>rfl) (λj hj=>hpre j (hy.lt j hj));refine ⟨hO.view (ρ':= ρ ++ [e.val]) (λj u hu=>by rw [hpre j (aA.1 hu).1];exact hu) (by simp [hr.len]) (by simp) (λj u y g1 g2 g3=>?_) (λj u y c g1 g2 g3 g4=>?_),hC.df,hC.sz,λj=>(hC.tm j).mono (λ_ h=>h) (λ_ _=>rfl) (λq hq=>hpre q ((hC.tm j).lt q hq))⟩
 ·rcases get j u y g1 g2 with ⟨rfl,rfl,rfl⟩ | ⟨rfl,rfl,rfl⟩ | ⟨_,_,k1,k2⟩
  ·refine ⟨⟨r,arr,clk,rfl,h1,by rw [mT];exact h2,h3,⟨sE h4.1 λb rs' e=>(by cases e),λhb=>?_⟩,λj e' x he' hj=>?_,λj v h=>?_,λj v e' h he'=>?_⟩,?_⟩
   ·rcases lW hb with ⟨j,k',rs',_,hj⟩ | ⟨rs',e⟩
    ·exact h4.2 (eF.2 ⟨j,k',rs',hj⟩)
    ·cases e
   ·rw [fy] at hj;split at hj
    ·rename_i e1;subst e1;rw [hi] at hj;cases hj;rw [he] at he';cases he';exact ⟨hke,λb rs e=>by cases e⟩
    ·exact h5 j e' x he' hj
   ·cases h;rw [mT];exact (aA.1 hi).1
   ·cases h;rw [he] at he';cases he';refine .k ?_;generalize e.val=u at hsl hnew;cases u<;>first | (cases hsl;done) | skip
    exact .os _ _ _ _ hnew
   ·match it,hit with
    |none,_=>trivial
    |some (q,l),hit=>
     refine ⟨?_,λhb=>?_⟩
     ·rw [←e0];exact hit.1
     rcases lW hb with ⟨j,k',rs',_,hj⟩ | ⟨rs',e⟩
     ·exact hit.2 (eF.2 ⟨j,k',rs',hj⟩)
     ·cases e
  ·exact hrs
  ·exact hmono _ _ (hr.rep j u y k1 k2) g3
 ·rcases get j u y g1 g2 with ⟨rfl,rfl,rfl⟩ | ⟨rfl,rfl,rfl⟩ | ⟨hj,hjl,k1,k2⟩
  ·obtain ⟨o1,o2⟩:=hN c g4;refine ⟨j,_,_,hv,hx,by simp,o1,λj' u' y' q1 q2 q3 q4=>?_⟩;rcases get j' u' y' q1 q2 with ⟨rfl,rfl,rfl⟩ | ⟨rfl,rfl,rfl⟩ | ⟨_,_,p1,p2⟩
   ·rfl
   ·exact absurd (new c q4).2 o2
   ·exact hr.mq j' j u' _ y' _ c p1 p2 q3 hv hx (by simp) q4 o1
  ·obtain ⟨o1,o2⟩:=new c g4;refine ⟨id,_,_,hv,hx,by simp,o1,λj' u' y' q1 q2 q3 q4=>?_⟩;rcases get j' u' y' q1 q2 with ⟨rfl,rfl,rfl⟩ | ⟨rfl,rfl,rfl⟩ | ⟨p0,_,p1,p2⟩
   ·exact absurd o2 (hN c q4).2
   ·rfl
   ·exact absurd (hr.mq j' id u' _ y' _ c p1 p2 q3 hv hx (by simp) q4 o1) p0
  ·refine ⟨j,u,y,k1,k2,g3,g4,λj' u' y' q1 q2 q3 q4=>?_⟩;rcases get j' u' y' q1 q2 with ⟨rfl,rfl,rfl⟩ | ⟨rfl,rfl,rfl⟩ | ⟨_,_,p1,p2⟩
   ·exact hr.mq j' j _ u _ y c hv hx (by simp) k1 k2 g3 (hN c q4).1 g4
   ·exact absurd (hr.mq id j _ u _ y c hv hx (by simp) k1 k2 g3 (new c q4).1 g4) (λe=>hj e.symm)
   ·exact hr.mq j' j u' u y' y c p1 p2 q3 k1 k2 g3 q4 g4
end
end Go.Vx
namespace Go.Vx
open Go.MapKept
section
variable {P:Program} {E:gI} {n:Nat} {G:Nat→Prop} {ρ ρ':List Value} {t:T} {h:H} {a:Act} {w:World} {o:Oper} {bW:Act→World→Prop} {Q:Exit→Act→World→Prop} {K KP:V→T→H→Prop}
variable (S:Nat→List V→H→(Out→H→Prop)→Prop) (ow:Nat→Bool)
theorem sP {x:V} {k:List UInt8×List UInt8} (h:DX x=some k):x=ti k:=by
 unfold DX at h;split at h
 ·cases h;rfl
 ·cases h
structure K9 (P:Program) (kt:TypeId) (fs:Array Field) (f g:Field):Prop where
  fl:flat P 100 kt=some [2,2]
  un:P.underlying kt=some (.struct fs)
  ls:fs = #[f,g]
  n1:f.name ≠ "_"
  n2:g.name ≠ "_"
  o1:f.offset=0
  o2:g.offset=1
  s1:P.underlying f.type=some .string
  s2:P.underlying g.type=some .string
theorem xz {t:TypeId} (h:isStr P t=true):P.underlying t=some .string:=by
 unfold isStr at h;split at h
 ·assumption
 ·cases h
theorem KF {kt:TypeId} {ks:List Nat} (h:wy P kt=some ks) (h9:Nat.beq (ks.headD 0) 9=true):∃fs f g,K9 P kt fs f g:=by
 unfold wy at h;split at h
 ·cases h;cases h9
 ·cases h;cases h9
 ·cases h;cases h9
 ·rename_i fs hu;split at h
  ·rename_i f g hl;split at h
   ·rename_i hc;simp only [aS,bne_iff_ne,ne_eq,beq_iff_eq] at hc;obtain ⟨⟨⟨⟨⟨⟨c1,c2⟩,c3⟩,c4⟩,c5⟩,c6⟩,c7⟩:=hc;exact ⟨fs,f,g,c7,hu,Array.toList_inj.1 hl,c1,c2,c3,c4,xz c5,xz c6⟩
   ·cases h
  ·cases h
 ·cases h
theorem nM {v:Value} {k:List UInt8×List UInt8} (hv:a_ G w ρ v (ti k)):∃s1 s2:ByteArray,v = .agg #[.string s1,.string s2]∧s1.data.toList=k.1∧s2.data.toList=k.2:=by
 obtain ⟨cs,rfl,h1,h2⟩:=hv.PS;have c0:=h2 0 _ rfl;have c1:=h2 1 _ rfl;obtain ⟨s1,e1,e2,_⟩:=(a_.c c0).str;obtain ⟨s2,e3,e4,_⟩:=(a_.c c1).str;refine ⟨s1,s2,?_,e2,e4⟩;congr 1;apply Array.ext
 ·simpa using h1
 ·intro i hi hi2;simp only [cn,aU,af] at hi2;rw [aE] at e1 e3
  match i,hi2 with
  |0,_=>rw [aI hi] at e1;exact e1
  |1,_=>rw [aI hi] at e3;exact e3
theorem o9 {ty:TypeId} (hu:P.underlying ty=some .string) {s1 s2:ByteArray} {i:Nat} {s:ByteArray} (hi : #[Value.string s1,.string s2][i]? = some (.string s)):(part ty #[.string s1,.string s2] i).run P w = .ok (.string s) w:=by
 have hag:kF P ty=some false:=by simp [kF,hu]
 have hl:i < #[Value.string s1,.string s2].size:=(aM.1 hi).1;have : #[Value.string s1,.string s2][i] = .string s:=(aM.1 hi).2;simp [part,iW hag,hi]
theorem lP {kt:TypeId} {fs:Array Field} {f g:Field} (h9:K9 P kt fs f g) (s1 s2:ByteArray) (b:Bool) (m:Nat):(Instr.checkKey b (m+2) kt (.agg #[.string s1,.string s2])).run P w = .ok () w:=by
 obtain ⟨h1,h2,rfl,h4,h5,h6,h7,h8,h9⟩:=h9;have p1:(part f.type #[.string s1,.string s2] f.offset).run P w = .ok (.string s1) w:=by rw [h6];exact o9 h8 rfl
 have p2:(part g.type #[.string s1,.string s2] g.offset).run P w = .ok (.string s2) w:=by rw [h7];exact o9 h9 rfl
 have q:∀(ty:TypeId) (s:ByteArray),P.underlying ty=some .string→(Instr.checkKey b (m+1) ty (.string s)).run P w = .ok () w:=λty s hu=>by
  simp [Instr.checkKey,run_underlying hu]
 rw [Instr.checkKey];simp only [Sem.run_bind,run_underlying h2,Result.andThen_ok];simp [h4,h5,p1,p2,q _ _ h8,q _ _ h9]
theorem J0 {kt:TypeId} {fs:Array Field} {f g:Field} (h9:K9 P kt fs f g) {v u:Value} {x y:List UInt8×List UInt8} (hv:dM G w ρ v (ti x)) (hu:dM G w ρ u (ti y)):(Op.equal kt v u).run P w = .ok (y==x) w:=by
 have ag:kF P kt=some true:=by simp [kF,h9.un]
 have st:∀z:List UInt8×List UInt8,(ti z).cs.all eb=true:=λz=>rfl;have hs1:=pU h9.fl ag (x:=ti x) rfl (.o hv) (st x);have hs2:=pU h9.fl ag (x:=ti y) rfl (.o hu) (st y);have he:pW [2,2] (ti x).cs (ti y).cs=some (x.1==y.1&&(x.2==y.2&&true)):=rfl;have:=sq 100 kt [2,2] _ _ _ _ _ 10000 h9.fl hs1 hs2 he (by decide);have e:(y==x)=(x.1==y.1&&(x.2==y.2&&true)):=by
  rw [de,e7];simp only [beq_iff_eq,aS];constructor
  ·rintro rfl;exact ⟨rfl,rfl⟩
  ·rintro ⟨e1,e2⟩;exact Prod.ext e1.symm e2.symm
 rw [e];exact this
theorem xT {kt:TypeId} {fs:Array Field} {f g:Field} (h9:K9 P kt fs f g) {v:Value} {x:List UInt8×List UInt8} (hv:dM G w ρ v (ti x)):∀(es:List ME) (l:List MapEntry) (i:Nat),l.length=es.length→(∀(j:Nat) (e:MapEntry) (y:ME),l[j]? = some e→es[j]? = some y→dM G w ρ e.key (ti y.1)) →
    (Instr.findAsking kt v l i).run P w = .ok ((pH x es).bind λm=>(l[m]?).map λe=>(i+m,e.val)) w
  |[],l,i,hl,_=>by
    cases l with
    |nil=>rfl
    |cons=>cases hl
  |y :: es,l,i,hl,hr=>by
    cases l with
    |nil=>cases hl
    |cons e l=>
      have h1:=J0 h9 hv (hr 0 e y rfl rfl)
      have ih:=xT h9 hv es l (i+1) (by simpa using hl) (λj e' y' a b=>hr (j+1) e' y' (by simpa using a) (by simpa using b))
      have e1:pH x (y :: es)=if (y.1==x)=true then some 0 else (pH x es).map (· + 1):=by
        simp only [pH,jQ]
      rw [Instr.findAsking,Sem.run_bind,h1,e1,Result.andThen_ok]
      cases hb:(y.1==x) with
      |true=>simp
      |false=>
        simp only [cj,if_false,ih]
        cases pH x es with
        |none=>rfl
        |some m=>simp [dc,Nat.add_comm 1 m]
theorem nF {kt:TypeId} {fs:Array Field} {f g:Field} (h9:K9 P kt fs f g) {v:Value} {x:List UInt8×List UInt8} (hv:dM G w ρ v (ti x)) {es:List ME} {l:List MapEntry} (hl:l.length=es.length) (hr:∀(j:Nat) (e:MapEntry) (y:ME),l[j]? = some e→es[j]? = some y→dM G w ρ e.key (ti y.1)) :
  (Instr.findKey kt v l).run P w = .ok ((pH x es).bind λm=>(l[m]?).map λe=>(m,e.val)) w:=by
 have h1:=xT h9 hv es l 0 hl hr;simp only [b8] at h1;unfold Instr.findKey;rw [Sem.run_bind,run_underlying h9.un,Result.andThen_ok];cases l with
 |nil=>
  cases es with
  |nil=>rfl
  |cons=>cases hl
 |cons e l=>
  have:Instr.findNow (.struct fs) v (e :: l) 0=none:=by
   obtain ⟨s1,s2,rfl,_⟩:=nM (.o hv);rfl
  rw [this];exact h1
theorem vt (hC:an E n G ρ t h a w) {v:Value} {id z:Nat} {es:List ME} {out:Option (Nat×V)} {it:Option (Nat×It)} (hv:a_ G w ρ v (.mp id)) (hx:h[id]? = some (.ms z es out it)) :
  ∃r arr clk,v = .map (some r)∧ρ[id]? = some (.map (some r))∧w.heap[r]? = some (.map arr clk)∧arr.size=es.length∧ord arr clk∧(∀(j:Nat) (e:MapEntry) (y:ME),arr.toList[j]? = some e→es[j]? = some y→dM G w ρ e.key (ti y.1)):=by
 cases hv with | o hv=>cases hv with | c hv=>cases hv with | k hv=>cases hv with | mp _ r hρ =>
 obtain ⟨⟨r',arr,clk,e,h1,h2,h3,h4,h5,_⟩,_⟩:=hC.ok.hr.rep id _ _ hρ hx;cases e;exact ⟨r,arr,clk,rfl,hρ,h1,h2,h3,λj e y a b=>(h5 j e y (by simpa using a) b).1.mono (λ_ h=>h) (λ_ _=>rfl) (λi hi=>by rw [AR] at hi;cases hi)⟩
theorem GJ {v:Value} {k:List UInt8×List UInt8} (hv:a_ G w ρ v (ti k)):dM G w ρ v (ti k):=by
 cases hv with
 |o h=>exact h
theorem F4 (hC:an E n G ρ t h a w) (hn:iI E n a o K bW) {ty kt e t2:TypeId} {x k:Operand} {ok':O} {ks:List Nat} {zv:V} {ok:Bool} {id:Nat} (ho:o.op = .lookup ty x k ok) (hu:P.underlying ty=some (.map kt e)) (hvx:a_ G w ρ (a.eval x) (.mp id)) (hkk:cX P t2 k=some ok')
    (hks:wy P kt=some ks) (hz:yn P e=some zv) (hok:ok=false) (hk:LO id t h λt h=>(match get? h id,DX (gv t ok') with
        |some (.ms z es none it),some key=>Nat.beq (ks.headD 0) 9=true ∧
          ((∃ i b rs, (pH key es = some i ∧ (es[i]?).map (·.2) = some (some (b, rs))) ∧ fl (h.set id (.ms z (fC i none es) (some (i, .os h.length)) it) ++ [.rows z rs]) fun h' => iT h.length fun n => K (.os n) t h') ∨
           ((pH key es=none∧Ri zv=true)∧fl (h ++ [.rows z []]) λh'=>iT h.length λn=>K (.os n) t h'))
        |_,_=>False)):o.wp P a w bW Q:=by
  subst hok
  obtain ⟨t,h,hC,hk⟩:=vN hC hk
  rw [get?_eq] at hk
  split at hk
  · rename_i z es it key hx hkey
    obtain ⟨h9,hk⟩:=hk
    obtain ⟨fs,f,g,h9⟩:=KF hks h9
    have hvk:=bG hC hkk
    rw [sP hkey] at hvk
    obtain ⟨r,arr,clk,he,hρ,hb,hsz,hor,hr⟩:=vt hC hvx hx
    have hf:=nF h9 (GJ hvk) (by simpa using hsz) hr
    obtain ⟨s1,s2,hs,_⟩:=nM hvk
    have hck:=lP (w:=w) h9 s1 s2 arr.isEmpty 9998
    rw [←hs] at hck
    have hl:=hC.ok.hr.len
    rcases hk with ⟨i,b,rs,⟨hi,hes⟩,hk⟩ | ⟨⟨hi,hnl⟩,hk⟩
    · simp only [bf,cZ] at hk
      rw [aG] at hes
      obtain ⟨⟨k',y⟩,he1,he2⟩:=hes
      subst he2
      obtain ⟨r',arr',clk',e',q1,q2,q3,q4,hC'⟩:=hC.taken hx he1
      rw [hρ] at q1
      cases q1
      rw [hb] at q2
      cases q2
      have hft:(Instr.findKey kt (a.eval k) arr.toList).run P w = .ok (some (i,e'.val)) w:=by
        rw [hf,hi]
        simp [q3]
      refine dU (v':=e'.val) (w':=w) ?_ (hn _ _ _ _ _ _ _ hC' ?_ hk)
      · simp only [execOp,ho]
        refine b_ ?_
        simp [Instr.lookup,run_underlying hu,he,MapKept.run_getObj_map hb,hck,hft]
      · generalize e'.val=u at q4 ⊢
        cases u<;>first | (cases q4;done) | skip
        exact .k (.os _ _ _ _ (by rw [←hl];simp))
    · simp only [bf,cZ] at hk
      obtain ⟨zz,hz1,hz2,_⟩:=vF (P:=P) (G:=G) (w:=w) (ρ := ρ) hz
      have hzz:zz = .slice none 0 0:=by
        cases zv<;>first | (cases hnl;done) | skip
        cases hz2 with
        |c h=>cases h with
          |k h=>cases h;rfl
      subst hzz
      have hft:(Instr.findKey kt (a.eval k) arr.toList).run P w = .ok none w:=by
        rw [hf,hi];rfl
      have hC':=hC.push (gU.refl w) (.slice none 0 0) (.rows z []) (by simp [fo]) (.inl ⟨rfl,rfl⟩)
      refine dU (v':=.slice none 0 0) (w':=w) ?_ (hn _ _ _ _ _ _ _ hC' (.k (.os _ _ _ _ (by rw [←hl];simp))) hk)
      simp only [execOp,ho]
      refine b_ ?_
      simp [Instr.lookup,run_underlying hu,he,MapKept.run_getObj_map hb,hck,hft,hz1]
  · exact hk.elim
theorem an.MS (hC:an E n G ρ t h a w) {id r z:Nat} {es es':List ME} {out out':Option (Nat×V)} {it it':Option (Nat×It)} {arr arr':Array MapEntry} {clk clk':Nat} (hρ:ρ[id]? = some (.map (some r))) (hx:h[id]? = some (.ms z es out it)) (hb:w.heap[r]? = some (.map arr clk))
    (hs:arr'.size=es'.length) (ho:ord arr' clk') (hg:∀b,b∈Db es'→b∈Db es) (hi:Ji es')
    (hr:∀(i:Nat) (e:MapEntry) (x:ME),arr'[i]? = some e→es'[i]? = some x→dM G w [] e.key (ti x.1)∧∀b rs,x.2=some (b,rs)→fo e.val=b∧ya G w e.val z rs)
    (hol:∀(i:Nat) (v:V),out'=some (i,v)→i<es'.length) (hov:∀(i:Nat) (v:V) (e:MapEntry),out'=some (i,v)→arr'[i]? = some e→dH G w ρ e.val v)
    (hit:it'=none∨(it'=it∧clk'=clk∧∀i:Nat,(arr'[i]?).map (·.born)=(arr[i]?).map (·.born))) :
    an E n G ρ t (h.set id (.ms z es' out' it')) a { w with heap:=w.heap.setIfInBounds r (.map arr' clk') }:=by
  have hh:=MapKept.heap_set (o':=.map arr' clk') hb
  have hG:∀b,G b→(w.heap.setIfInBounds r (.map arr' clk'))[b]? = w.heap[b]?:=λb hbG=>hh.2 b (λe=>hC.ok.hr.gd b hbG ⟨id,_,_,hρ,hx,by simp,by rw [e];exact bT.2 (.inl rfl)⟩)
  obtain ⟨⟨r',arr0,clk0,e0,h1,h2,h3,h4,h5,h6,h7⟩,hit0⟩:=hC.ok.hr.rep id _ _ hρ hx
  cases e0
  rw [hb] at h1
  cases h1
  have hne:∀b,b∈Db es→(w.heap.setIfInBounds r (.map arr' clk'))[b]? = w.heap[b]?:=λb hb2=>hh.2 b (λe=>h4.2 (e ▸ hb2))
  refine hC.rS (w':={ w with heap:=w.heap.setIfInBounds r (.map arr' clk') }) hρ hx (by simp) (by simp) (λb _ hbk=>hh.2 b (λe=>hbk (by rw [e];exact bT.2 (.inl rfl)))) rfl rfl rfl ?_ (λb hb2=>.inl ?_)
  · refine ⟨⟨r, arr', clk', rfl, hh.1, hs, ho, ⟨hi, fun h => h4.2 (hg r h)⟩, fun i e x he hx => ⟨(hr i e x he hx).1.mono (fun _ h => h) hG (fun _ _ => rfl), fun b rs hv => ?_⟩, hol, fun i v e hv he => (hov i v e hv he).mono (fun _ h => h) hG (fun _ _ => rfl)⟩, ?_⟩
    · obtain ⟨g1,g2⟩:=(hr i e x he hx).2 b rs hv
      refine ⟨g1,g2.mono (λ_ h=>h) hG λc hc=>hne c (hg c (eF.2 ⟨i,x.1,rs,?_⟩))⟩
      rw [hx,←hc,g1,←hv]
    · rcases hit with rfl | ⟨rfl,rfl,hbn⟩
      · trivial
      · match it',hit0 with
        |none,_=>trivial
        |some (q,l),hit0=>
          refine ⟨?_,λhb2=>hit0.2 (hg q hb2)⟩
          obtain ⟨m,arr1,clk1,seen,e0,g1,g2,g3,g6,g7,g8⟩:=hit0.1
          cases e0
          rw [hb] at g1
          cases g1
          have tr:∀(i:Nat) {e:MapEntry},arr'[i]? = some e→∃e',arr[i]? = some e'∧e'.born=e.born:=λi e h1=>by
            have:=hbn i
            rw [h1,bK,eq_comm,aG] at this
            exact this
          have tr':∀(i:Nat) {e:MapEntry},arr[i]? = some e→∃e',arr'[i]? = some e'∧e'.born=e.born:=λi e h1=>by
            have:=hbn i
            rw [h1,bK,aG] at this
            exact this
          refine ⟨r,arr',clk',seen,rfl,hh.1,g2,(hh.2 q (λe=>g2 e.symm)).trans g3,g6,λi=>(g7 i).trans ?_,λi hi=>?_⟩
          · constructor
            · rintro ⟨e,h1,h2⟩
              obtain ⟨e',h3,h4⟩:=tr' i h1
              exact ⟨e',h3,by rw [h4];exact h2⟩
            · rintro ⟨e,h1,h2⟩
              obtain ⟨e',h3,h4⟩:=tr i h1
              exact ⟨e',h3,by rw [h4];exact h2⟩
          · obtain ⟨e,sn,h1,h2⟩:=g8 i hi
            obtain ⟨e',h3,h4⟩:=tr' i h1
            exact ⟨e',sn,h3,by rw [h4];exact h2⟩
  · simp only [gh,aR] at hb2
    refine bT.2 (.inr ?_)
    simp only [gh,aR]
    rcases hb2 with hb2 | hb2
    · exact .inl (hg b hb2)
    · rcases hit with rfl | ⟨rfl,_⟩
      · cases hb2
      · exact .inr hb2
theorem v8 (s1 s2:ByteArray):Instr.sameBits 10000 (.agg #[.string s1,.string s2]) (.agg #[.string s1,.string s2])=true:=by
 simp [Instr.sameBits,bytes_beq]
theorem F3 (hC:an E n G ρ t h a w) (hn:iI E n a o K bW) {ty kt e t2 t3:TypeId} {x k v:Operand} {ok' ov:O} {ks:List Nat} {id z:Nat} {es:List ME} {out:Option (Nat×V)} {it:Option (Nat×It)} (ho:o.op = .mapUpdate ty x k v∨o.op = .insert ty x k v) (hu:P.underlying ty=some (.map kt e)) (hvx:a_ G w ρ (a.eval x) (.mp id)) (hkk:cX P t2 k=some ok') (hv:cX P t3 v=some ov)
    (hks:wy P kt=some ks) (hx:h[id]? = some (.ms z es out it)) (hk:(match DX (gv t ok'),Hf t ov with
        |some key,.os m=>(match get? h m with
          |some (.rows z' rs)=>(Nat.beq z z'=true∧Nat.beq (ks.headD 0) 9=true) ∧
            ((∃ i, (pH key es = some i ∧ ∀ j v, out = some (j, v) → j = i) ∧ ∀ b, A5 (jm m t) fun t => flb (((h.map (gO m)).set m .no).set id (.ms z (fC i (some (b, rs)) es) none it)) fun h => K .ud t h) ∨
             ((pH key es=none∧out=none∧it=none)∧∀b,A5 (jm m t) λt=>flb (((h.map (gO m)).set m .no).set id (.ms z (es ++ [(key,some (b,rs))]) none none)) λh=>K .ud t h))
          |_=>False)
        |some key,.nl z'=>(Nat.beq z z'=true∧Nat.beq (ks.headD 0) 9=true) ∧
            ((∃ i, (pH key es = some i ∧ ∀ j v, out = some (j, v) → j = i) ∧ K .ud t (h.set id (.ms z (fC i (some (none, [])) es) none it))) ∨
             ((pH key es=none∧out=none∧it=none)∧K .ud t (h.set id (.ms z (es ++ [(key,some (none,[]))]) none none))))
        |_,_=>False)):o.wp P a w bW Q:=by
  have hexec:∀w',(Instr.mapUpdate ty (a.eval x) (a.eval k) (a.eval v)).run P w = .ok () w'→(execOp a.eval o).run P w = .ok .skip w':=by
    intro w' hw
    rcases ho with ho | ho<;>simp [execOp,ho,hw]
  have hvk:=bG hC hkk
  have hvv:=Fc hC hv
  obtain ⟨r,arr,clk,he,hρ,hb,hsz,hor,hr⟩:=vt hC hvx hx
  obtain ⟨⟨r',arr0,clk0,e0,h1,h2,h3,h4,h5,h6,h7⟩,hit0⟩:=hC.ok.hr.rep id _ _ hρ hx
  cases e0
  rw [hb] at h1
  cases h1
  have found:∀{key:List UInt8×List UInt8} {i:Nat},DX (gv t ok')=some key→Nat.beq (ks.headD 0) 9=true→pH key es=some i→(Instr.mapUpdate ty (a.eval x) (a.eval k) (a.eval v)).run P w = .ok () { w with heap:=w.heap.setIfInBounds r (.map (arr.modify i λe=>{ e with key:=a.eval k,val:=a.eval v }) clk) }∧(es[i]?).map (·.1)=some key:=by
    intro key i hkey h9 hi
    obtain ⟨fs,f,g,h9⟩:=KF hks h9
    rw [sP hkey] at hvk
    have hf:=nF h9 (GJ hvk) (by simpa using hsz) hr
    obtain ⟨s1,s2,hs,e1,e2⟩:=nM hvk
    have hck:=lP (w:=w) h9 s1 s2 false 9998
    rw [←hs] at hck
    obtain ⟨hil,hp,_⟩:=List.findIdx?_eq_some_iff_getElem.1 hi
    have hia:i<arr.size:=by rw [hsz];exact hil
    have hkk:(es[i]).1=key:=by simpa using hp
    have hft:(Instr.findKey kt (a.eval k) arr.toList).run P w = .ok (some (i,arr[i].val)) w:=by
      rw [hf,hi];simp [hia]
    have hold:arr[i].key=a.eval k:=by
      have:=hr i arr[i] es[i] (by simp [hia]) (by simp [hil])
      rw [hkk] at this
      obtain ⟨u1,u2,hu0,g1,g2⟩:=nM (.o this)
      rw [hu0,hs]
      have pW:∀p q:ByteArray,p.data.toList=q.data.toList→p=q:=by
        rintro ⟨⟨p⟩⟩ ⟨⟨q⟩⟩ h
        simp only at h
        rw [h]
      rw [pW u1 s1 (g1.trans e1.symm),pW u2 s2 (g2.trans e2.symm)]
    have hks':(Instr.keyThatStays arr[i].key (a.eval k)).run P w = .ok (a.eval k) w:=by
      rw [hold]
      unfold Instr.keyThatStays
      rw [hs,v8]
      rfl
    refine ⟨?_,by simp [hil,hkk]⟩
    simp [Instr.mapUpdate,run_underlying hu,he,MapKept.run_getObj_map hb,hck,hft,hia,hks',MapKept.run_setObj_map _ hb]
  have fresh:∀{key:List UInt8×List UInt8},DX (gv t ok')=some key→Nat.beq (ks.headD 0) 9=true→pH key es=none→(Instr.mapUpdate ty (a.eval x) (a.eval k) (a.eval v)).run P w = .ok () { w with heap:=w.heap.setIfInBounds r (.map (arr.push { key:=a.eval k,val:=a.eval v,born:=clk }) (clk+1)) }:=by
    intro key hkey h9 hi
    obtain ⟨fs,f,g,h9⟩:=KF hks h9
    rw [sP hkey] at hvk
    have hf:=nF h9 (GJ hvk) (by simpa using hsz) hr
    obtain ⟨s1,s2,hs,e1,e2⟩:=nM hvk
    have hck:=lP (w:=w) h9 s1 s2 false 9998
    rw [←hs] at hck
    have hft:(Instr.findKey kt (a.eval k) arr.toList).run P w = .ok none w:=by
      rw [hf,hi];rfl
    simp [Instr.mapUpdate,run_underlying hu,he,MapKept.run_getObj_map hb,hck,hft,MapKept.run_setObj_map _ hb]
  have keyR:∀{key:List UInt8×List UInt8},DX (gv t ok')=some key→dM G w [] (a.eval k) (ti key):=λhkey=>by
    rw [sP hkey] at hvk
    exact (GJ hvk).mono (λ_ h=>h) (λ_ _=>rfl) (λi hi=>by rw [AR] at hi;cases hi)
  have setF:∀{key:List UInt8×List UInt8} {i:Nat} (ex:Option (Option Nat×List (List D))) (out':Option (Nat×V)),DX (gv t ok')=some key→(es[i]?).map (·.1)=some key→(∀b rs,ex=some (b,rs)→b=none∧fo (a.eval v)=none∧ya G w (a.eval v) z rs)→(∀j u,out'=some (j,u)→j=i∧dH G w ρ (a.eval v) u) →
      an E n G ρ t (h.set id (.ms z (fC i ex es) out' it)) a { w with heap:=w.heap.setIfInBounds r (.map (arr.modify i λe=>{ e with key:=a.eval k,val:=a.eval v }) clk) }:=by
    intro key i ex out' hkey hik hex hout
    refine hC.MS hρ hx hb (by rw [mT];simpa using hsz) (sA (λ_=>rfl) hor) (λb hb2=>?_) (sE h4.1 λb rs e=>by have:=(hex _ _ e).1;cases this) (λj e' y he' hj=>?_) (λj u hj=>?_) (λj u e' hj he'=>?_) (.inr ⟨rfl,rfl,λj=>?_⟩)
    · rcases lW hb2 with ⟨j,k',rs',_,hj⟩ | ⟨rs',e⟩
      · exact eF.2 ⟨j,k',rs',hj⟩
      · have:=(hex _ _ e).1;cases this
    · rw [fL] at he'
      rw [fy] at hj
      split at he'
      · rename_i e1
        subst e1
        rw [if_pos rfl,aG] at hj
        obtain ⟨y0,hy0,rfl⟩:=hj
        rw [hy0] at hik
        cases hik
        rw [aG] at he'
        obtain ⟨e0,_,rfl⟩:=he'
        refine ⟨keyR hkey,λb rs e2=>?_⟩
        obtain ⟨g1,g2,g3⟩:=hex b rs e2
        exact ⟨g2.trans g1.symm,g3⟩
      · rename_i e1
        rw [if_neg e1] at hj
        exact h5 j e' y he' hj
    · obtain ⟨rfl,_⟩:=hout j u hj
      rw [mT]
      cases hc:es[j]? with
      |none=>rw [hc] at hik;cases hik
      |some=>exact (aA.1 hc).1
    · obtain ⟨rfl,g⟩:=hout j u hj
      rw [fL,if_pos rfl,aG] at he'
      obtain ⟨e0,_,rfl⟩:=he'
      exact g
    · rw [fL]
      split
      · cases arr[j]?<;>rfl
      · rfl
  have setN:∀{key:List UInt8×List UInt8} (ex:Option (Option Nat×List (List D))) (out':Option (Nat×V)),DX (gv t ok')=some key→(∀b rs,ex=some (b,rs)→b=none∧fo (a.eval v)=none∧ya G w (a.eval v) z rs)→(∀j u,out'=some (j,u)→j=es.length∧dH G w ρ (a.eval v) u) →
      an E n G ρ t (h.set id (.ms z (es ++ [(key,ex)]) out' none)) a { w with heap:=w.heap.setIfInBounds r (.map (arr.push { key:=a.eval k,val:=a.eval v,born:=clk }) (clk+1)) }:=by
    intro key ex out' hkey hex hout
    have hnb:∀(j:Nat) (k':List UInt8×List UInt8) (b:Nat) (rs:List (List D)),(es ++ [(key,ex)])[j]? = some (k',some (some b,rs))→es[j]? = some (k',some (some b,rs)):=by
      intro j k' b rs hj
      rw [lG] at hj
      split at hj
      · exact hj
      · rename_i hlt
        cases hjj:j - es.length with
        |zero=>
          rw [hjj] at hj
          simp at hj
          have:=(hex _ _ hj.2).1
          cases this
        |succ=>rw [hjj] at hj;simp at hj
    refine hC.MS hρ hx hb (by simp [hsz]) (x6 rfl hor) (λb hb2=>?_) (λi j k1 k2 rs1 rs2 b g1 g2=>h4.1 i j k1 k2 rs1 rs2 b (hnb _ _ _ _ g1) (hnb _ _ _ _ g2)) (λj e' y he' hj=>?_) (λj u hj=>?_) (λj u e' hj he'=>?_) (.inl rfl)
    · obtain ⟨j,k',rs',hj⟩:=eF.1 hb2
      exact eF.2 ⟨j,k',rs',hnb _ _ _ _ hj⟩
    · rw [iv] at he'
      split at he'
      · rename_i hi
        cases he'
        rw [hi,hsz] at hj
        simp at hj
        subst hj
        refine ⟨keyR hkey,λb rs e2=>?_⟩
        obtain ⟨g1,g2,g3⟩:=hex b rs e2
        exact ⟨g2.trans g1.symm,g3⟩
      · have hi:j<arr.size:=(aM.1 he').1
        rw [aN (by omega)] at hj
        exact h5 j e' y he' hj
    · obtain ⟨rfl,_⟩:=hout j u hj
      simp
    · obtain ⟨rfl,g⟩:=hout j u hj
      rw [iv,if_pos hsz.symm] at he'
      cases he'
      exact g
  split at hk
  · rename_i key m hkey hval
    rw [get?_eq] at hk
    split at hk
    · rename_i z' rs hm
      obtain ⟨⟨hz,h9⟩,hk⟩:=hk
      have hne:m≠id:=λe=>by subst e;rw [hm] at hx;cases hx
      have hihl:id<h.length:=(aA.1 hx).1
      rw [hval] at hvv
      have hvc:dH G w ρ (a.eval v) (.os m):=by
        generalize a.eval v=u at hvv ⊢
        cases hvv with
        |o h=>cases h with
          |c h=>exact h
      rcases hk with ⟨i,⟨hi,_⟩,hk⟩ | ⟨⟨hi,_,rfl⟩,hk⟩
      · obtain ⟨hrun,hik⟩:=found hkey h9 hi
        have hC1:=setF none (some (i,.os m)) hkey hik (λb rs e=>by cases e) (λj u e=>by cases e;exact ⟨rfl,hvc⟩)
        obtain ⟨b,hC2⟩:=hC1.Mv (by rw [b9 hihl]) (by rw [eU (jx hne)];exact hm) (dA hz)
        have hk:=hk b
        simp only [jN,fz] at hk
        refine jX (hexec _ hrun) (hn _ _ _ _ _ _ _ hC2 (.k .ud) ?_)
        have e1:fC i (some (b,rs)) (fC i none es)=fC i (some (b,rs)) es:=by
          apply dD
          intro j
          simp only [fy]
          split
          · cases es[j]?<;>rfl
          · rfl
        have e2:(((List.map (gO m) (List.set h id (B.ms z (fC i none es) (some (i,.os m)) it))).set m B.no).set id (B.ms z (fC i (some (b,rs)) (fC i none es)) none it))=(((List.map (gO m) h).set m .no).set id (.ms z (fC i (some (b,rs)) es) none it)):=by
          rw [e1,fW,List.set_comm _ _ (jx hne),List.set_set]
        rw [e2]
        exact hk
      · have hC1:=setN none (some (es.length,.os m)) hkey (λb rs e=>by cases e) (λj u e=>by cases e;exact ⟨rfl,hvc⟩)
        obtain ⟨b,hC2⟩:=hC1.Mv (by rw [b9 hihl]) (by rw [eU (jx hne)];exact hm) (dA hz)
        have hk:=hk b
        simp only [jN,fz] at hk
        refine jX (hexec _ (fresh hkey h9 hi)) (hn _ _ _ _ _ _ _ hC2 (.k .ud) ?_)
        have e1:fC es.length (some (b,rs)) (es ++ [(key,none)])=es ++ [(key,some (b,rs))]:=by
          apply dD
          intro j
          rw [fy,lG,lG]
          split
          · rename_i e3
            subst e3
            simp
          · rename_i e3
            split
            · rfl
            · rename_i hlt
              cases hjj:j - es.length with
              |zero=>omega
              |succ=>simp
        have e2:(((List.map (gO m) (List.set h id (B.ms z (es ++ [(key,none)]) (some (es.length,.os m)) none))).set m B.no).set id (B.ms z (fC es.length (some (b,rs)) (es ++ [(key,none)])) none none))=(((List.map (gO m) h).set m .no).set id (.ms z (es ++ [(key,some (b,rs))]) none none)):=by
          rw [e1,fW,List.set_comm _ _ (jx hne),List.set_set]
        rw [e2]
        exact hk
    · exact hk.elim
  · rename_i key z' hkey hval
    obtain ⟨⟨hz,h9⟩,hk⟩:=hk
    rw [hval] at hvv
    have hvn:a.eval v = .slice none 0 0:=by
      generalize a.eval v=u at hvv
      cases hvv with
      |o h=>cases h with
        |c h=>cases h with
          |k h=>cases h;rfl
    have hex:∀b rs,(some (none,[]):Option (Option Nat×List (List D)))=some (b,rs)→b=none∧fo (a.eval v)=none∧ya G w (a.eval v) z rs:=λb rs e=>by
      cases e
      rw [hvn]
      exact ⟨rfl,rfl,.inl ⟨rfl,rfl⟩⟩
    rcases hk with ⟨i,⟨hi,_⟩,hk⟩ | ⟨⟨hi,_,rfl⟩,hk⟩
    · obtain ⟨hrun,hik⟩:=found hkey h9 hi
      exact jX (hexec _ hrun) (hn _ _ _ _ _ _ _ (setF (some (none,[])) none hkey hik hex (λj u e=>by cases e)) (.k .ud) hk)
    · exact jX (hexec _ (fresh hkey h9 hi)) (hn _ _ _ _ _ _ _ (setN (some (none,[])) none hkey hex (λj u e=>by cases e)) (.k .ud) hk)
  · exact hk.elim
end
end Go.Vx
