/- Lemmas. Conditions: none. -/
import Derived.Test.YtjpgfgajkjhonaaGreatDoorQRAG
namespace Go.Vx
section
variable {P:Program} {E:gL} {n:Nat} {G:Nat→Prop} {ρ:List Value} {t:T} {h:H} {a:Act} {w w':World} {o:Oper} {bV:Act→World→Prop} {Q:Exit→Act→World→Prop} {K KP:V→T→H→Prop}
theorem LC {G':Nat→Prop} {ρ':List Value} {v:Value} {x:B} (hv:cY G w ρ v x) (hs:yE x=true):cY G' w ρ' v x:=by
 cases x<;>simp only [yE,cj] at hs;rename_i z rs;simp only [aS] at hs;rcases hv with hv | ⟨b,cap,arr,ty,h0,h1,h2,h3,h4,h5⟩
 ·exact .inl hv
 ·exact .inr ⟨b,cap,arr,ty,h0,h1,h2,h3,h4,λi row hr=>⟨(h5 i row hr).1,λj x hx=>wO ((h5 i row hr).2 j x hx) (hs row (aJ hr) x (aJ hx))⟩⟩
theorem LB {G':Nat→Prop} {ρ':List Value} {f:Nat→Nat} {v:Value} {x:V} (hv:au G w ρ v x) (hs:Di x=true) (hf:∀i∈eT x,ρ'[f i]? = ρ[i]?):au G' w ρ' v (gS f x):=by
 have one:∀{v:Value} {x:V},dM G w ρ v x→GA x=true→(∀i∈jJ x,ρ'[f i]? = ρ[i]?)→dM G' w ρ' v (pK f x):=by
  intro v x hv hs hf;cases x<;>simp only [GA,Ph,cj] at hs
  ·exact AT (.o hv) hs
  ·cases hv with
   |c hv=>cases hv with
    |k hv=>cases hv with
     |os id a n c h=>exact .c (.k (.os _ a n c ((hf _ (aL.2 rfl)).trans h)))
 by_cases hx:∃c,x = .tu c
 ·obtain ⟨c,rfl⟩:=hx;obtain ⟨cs,rfl,h1,h2⟩:=hv.Uh;refine .tu cs _ (by grind) λi x hi=>?_;rw [aB,aG] at hi;obtain ⟨x0,hi,rfl⟩:=hi;exact one (h2 i x0 hi) (aS.1 hs x0 (aJ hi)) λj hj=>hf j (by simp only [eT,aO];grind)
 ·have e1:Di x=GA x:=by cases x<;>first | rfl | exact absurd ⟨_,rfl⟩ hx
  have e2:gS f x=pK f x:=by cases x<;>first | rfl | exact absurd ⟨_,rfl⟩ hx
  have e3:eT x=jJ x:=by cases x<;>first | rfl | exact absurd ⟨_,rfl⟩ hx
  rw [e2];cases hv with
  |o hv=>exact .o (one hv (e1 ▸ hs) (e3 ▸ hf))
  |tu=>grind
theorem ak.Sh (hC:ak E n G ρ t h a w) (hg:gK w w') {ρ1:List Value} {ns:List B} (hl:ρ1.length=ns.length) (rep:∀(k:Nat) (v:Value) (x:B),ρ1[k]? = some v→ns[k]? = some x→cY G w' (ρ++ρ1) v x)
  (fresh:∀b,own ρ1 ns b→w.heap.size≤b) (oB:∀(i j:Nat) (v u:Value) (x y:B) (b:Nat),ρ1[i]? = some v→ns[i]? = some x→x≠.no→ρ1[j]? = some u→ns[j]? = some y→y≠.no→b∈eU v x→b∈eU u y→i=j) :
  ak E n G (ρ++ρ1) t (h++ns) a w':=by
 have hO:=hC.ok;have hr:=hO.hr;have hpre:∀i,i<ρ.length→(ρ++ρ1)[i]? = ρ[i]?:=λi hi=>aT hi;have hw:∀b,G b→w'.heap[b]? = w.heap[b]?:=λb hb=>hg.iE b (hr.gl b hb);have get:∀(i:Nat) (v:Value) (y:B),(ρ++ρ1)[i]? = some v→(h++ns)[i]? = some y→(ρ[i]? = some v∧h[i]? = some y)∨∃k,i=h.length+k∧ρ1[k]? = some v∧ns[k]? = some y:=by
  intro i v y h1 h2
  by_cases hi:i<h.length
  ·rw [hpre i (by rw [hr.len];grind)] at h1
   grind
  ·rw [aY (by rw [hr.len];omega),hr.len] at h1
   grind
 have hown:∀b,own (ρ++ρ1) (h++ns) b→own ρ h b∨w.heap.size≤b:=by
  rintro b ⟨i,v,y,h1,h2,h3,h4⟩
  rcases get i v y h1 h2 with ⟨g1,g2⟩ | ⟨k,_,g1,g2⟩
  ·exact .inl ⟨i,v,y,g1,g2,h3,h4⟩
  ·exact .inr (fresh b ⟨k,v,y,g1,g2,h3,h4⟩)
 refine ⟨⟨⟨by simp [hr.len,hl],λi v y h1 h2=>?_,λi j v u x y b h1 h2 h3 h4 h5 h6 h7 h8=>?_,λb hb=>b9 (hr.gl b hb) hg.size,λb hb ho=>?_,hr.sF.mono (λ_ h=>h) hw⟩,hO.gm,λb hb=>(hO.go b hb).imp (λh=>h) λh2=>⟨h2.1.same (hw b hb),h2.2⟩,λb hb=>?_,
  λb hb hn=>(hg.iE b (b9 hb hO.size)).trans (hO.frame b hb hn),aV hO.size hg.size,hg.os.trans hO.os,hg.tape.trans hO.tape,hg.out.trans hO.out,λid v hv hs=>?_,by have:=hO.hl;grind,λr hr'=>?_⟩,hC.df,hC.sz,
  λi=>(hC.tm i).mono (λ_ h=>h) hw (λj hj=>hpre j ((hC.tm i).lt j hj))⟩
 ·rcases get i v y h1 h2 with ⟨g1,g2⟩ | ⟨k,_,g1,g2⟩
  ·have hrep:=hr.rep i v y g1 g2
   by_cases hy:y = .no
   ·subst hy;trivial
   ·exact hrep.mono (λ_ h=>h) hw (λb hb=>hg.iE b (hr.lt g1 g2 hy hb)) (λj hj=>hpre j (hrep.lt j hj))
  grind
 ·rcases get i v x h1 h2 with ⟨g1,g2⟩ | ⟨k,rfl,g1,g2⟩<;>rcases get j u y h4 h5 with ⟨k1,k2⟩ | ⟨k',rfl,k1,k2⟩
  ·exact hr.oB i j v u x y b g1 g2 h3 k1 k2 h6 h7 h8
  ·have:=hr.lt g1 g2 h3 h7;have:=fresh b ⟨k',u,y,k1,k2,h6,h8⟩;omega
  ·have:=hr.lt k1 k2 h6 h8;have:=fresh b ⟨k,v,x,g1,g2,h3,h7⟩;omega
  grind
 ·rcases hown b ho with h1 | h1
  ·exact hr.gd b hb h1
  ·have:=hr.gl b hb;omega
 ·rcases hown b hb with h1 | h1
  ·exact hO.oo b h1
  ·exact .inl (aV hO.size h1)
 ·have:=hO.hand id v hv hs
  grind
 ·obtain ⟨h1,h2,h3⟩:=hO.sC r hr';have hlt:=(aQ.1 h1).1;refine ⟨(hg.iE r hlt).trans h1,h2,λh4=>?_⟩
  grind
theorem yr (as:Array Value) (i:Nat):as.toList.getD i undef=as.getD i undef:=by
 simp_all
theorem EN (hC:ak E n G ρ t h a w) {f:Nat} (hlt:f<5000000) {as:Array Value} {vs:List V} (hrun:eo P f=true→(execOp a.eval o).run P w = .ok (.enter f as) w) (hl:as.size=vs.length)
  (hv:∀(i:Nat) (x:V),vs[i]? = some x→au G w ρ (as.getD i undef) x) {r:V} {ns:List B} (hS:Sat P f (vs.map (rY h)) [] λout h'=>out = .ret r∧h'=ns) (hns:ns.all yE=true) (hr:Di r=true)
  (hnx:∀(v:Value) (w':World) (ρ':List Value),ak E n G ρ' t (h++ns) a w'→au G w' ρ' v (gS (λk=>h.length+k) r)→bV (a.put o.dst v) w'):o.wp P a w bV Q:=by
 obtain ⟨hok,hS⟩:=hS.fn hlt;have hr0:HR (all w) w [] []:=⟨rfl,by simp,by simp,λ_ h=>h,(λb _ ho=>by obtain ⟨_,_,_,h1,_⟩:=ho;grind),hC.ok.hr.sF.mono (λb hb=>hC.ok.hr.gl b hb) (λ_ _=>rfl)⟩
 have hc:=hS (all w) w [] as.toList hr0 (by grind) (λi x hx=>by
  rw [yr];rw [aB] at hx;cases hc:vs[i]? with
  |none=>grind
  |some x0=>rw [hc] at hx;cases hx;exact DK hC.ok.hr (hv i x0 hc))
 rw [cr] at hc;unfold Oper.wp;rw [hrun hok,Oper.upon_enter];refine hc.mono λe w' hr'=>?_;obtain ⟨G',ρ1,h',out,hO,hR,rfl,rfl⟩:=hr';obtain ⟨v,rfl,hv'⟩:=hR;have hno:∀b,¬own ([]:List Value) ([]:H) b:=λb ho=>by obtain ⟨_,_,_,h1,_⟩:=ho;grind
 have hg:gK w w':=⟨hO.size,λb hb=>hO.frame b hb (hno b),hO.os,hO.tape,hO.out⟩
 have hC':=hC.Sh hg (ρ1:= ρ1) hO.hr.len (λk v x g1 g2=>LC (hO.hr.rep k v x g1 g2) (aS.1 hns x (aJ g2))) (λb hb=>(hO.oo b hb).resolve_right (hno b)) hO.hr.oB;refine hnx v w' _ hC' (LB hv' hr λi hi=>?_);rw [aY (by rw [hC.ok.hr.len];omega),hC.ok.hr.len]
 grind
def gone (ids:List Nat) (h:H):H:=h.zipIdx.map λp=>bif has ids p.2 then .no else p.1
theorem lR (ids:List Nat) (h:H):(gone ids h).length=h.length:=by simp [gone]
theorem nG {ids:List Nat} {h:H} {i:Nat}:(gone ids h)[i]? = if i∈ids then (h[i]?).map λ_=>.no else h[i]?:=by
 simp only [gone,aB,lW];cases h[i]? with
 |none=>simp
 |some x=>
  simp only [bE,cF];split
  ·rename_i hi;rw [cK.2 hi];rfl
  ·rename_i hi;have:has ids i=false:=by
    rw [o5];exact λh=>hi (cK.1 h)
   grind
theorem D8 (hC:ak E n G ρ t h a w) {f:Nat} (hlt:f<5000000) {as:Array Value} {vs:List V} (hrun:eo P f=true→(execOp a.eval o).run P w = .ok (.enter f as) w) (hl:as.size=vs.length)
  (hv:∀(i:Nat) (x:V),vs[i]? = some x→au G w ρ (as.getD i undef) x) {ids:List Nat} (hids:∀x∈vs,∀j∈eT x,j∈ids) (hnd:ids.Nodup) (hrw:∀i∈ids,∃z rs,h[i]? = some (.rows z rs)) {r:V} {ns:List B}
  (hS:Sat P f (vs.map (gS (pos ids))) (ids.map λi=>eR (pos ids) ((get? h i).getD .no)) λout h'=>out = .ret r∧h'=List.replicate ids.length .no++ns)
  (hns:∀b∈ns,∀k∈eZ b,ids.length≤k) (hr:∀k∈eT r,ids.length≤k)
  (hnx:∀(v:Value) (w':World) (G':Nat→Prop) (ρ':List Value),ak E n G' ρ' t (gone ids h++ns.map (eR λk=>h.length+k - ids.length)) a w'→au G' w' ρ' v (gS (λk=>h.length+k - ids.length) r)→bV (a.put o.dst v) w'):o.wp P a w bV Q:=by
 obtain ⟨hok,hS⟩:=hS.fn hlt;have hlts:∀i∈ids,i<h.length:=λi hi=>by grind
 have jb:∀i∈ids,∀x,h[i]? = some x→∀j∈eZ x,j∈ids:=λi hi x hx j hj=>by
  obtain ⟨z,rs,e⟩:=hrw i hi;rw [e] at hx;cases hx;cases hj
 obtain ⟨hP,hown⟩:=hC.ok.hr.part hnd hlts jb;have hr0:=hC.ok.hr;have hρl:=hr0.len;have hc:=hS G w _ as.toList hP (by grind) (λk x hx=>by
  rw [aB] at hx;cases hx0:vs[k]? with
  |none=>grind
  |some x0=>
   rw [hx0] at hx;cases hx;rw [yr];refine (hv k x0 hx0).pL (λj hj=>?_);have hjm:=hids x0 (aJ hx0) j hj;have hjl:=hlts j hjm;rw [aB,iA hjm,bE,aA (by omega)];rfl)
 rw [cr] at hc;unfold Oper.wp;rw [hrun hok,Oper.upon_enter];refine hc.mono λe w' hr'=>?_;obtain ⟨G',ρ',h',out,hO,hR,rfl,rfl⟩:=hr';obtain ⟨v,rfl,hv'⟩:=hR;generalize (ids.map λi=>(ρ[i]?).getD undef)=ρc at *;generalize (ids.map λi=>eR (pos ids) ((get? h i).getD .no))=hB at *;have hoc:∀b,own ρc hB b→own ρ h b:=λb hb=>by
  obtain ⟨i,v,x,_,g1,g2,g3,g4⟩:=hown b hb;exact ⟨i,v,x,g1,g2,g3,g4⟩
 have hold:∀b,b<w.heap.size→¬own ρc hB b→w'.heap[b]? = w.heap[b]?:=hO.frame;have hGb:∀b,G b→w'.heap[b]? = w.heap[b]?:=λb hb=>hold b (hr0.gl b hb) (λho=>hr0.gd b hb (hoc b ho));have hsz:w.heap.size≤w'.heap.size:=hO.size;have hoth:∀(i:Nat) (v:Value) (x:B) (b:Nat),i∉ids→ρ[i]? = some v→h[i]? = some x→x≠.no→b∈eU v x→b<w.heap.size∧(¬own ρc hB b)∧¬G' b∧¬own ρ' (List.replicate ids.length .no++ns) b:=by
  intro i v x b hi g1 g2 g3 g4;have hb:=hr0.lt g1 g2 g3 g4;have hno:¬own ρc hB b:=λho=>by
   obtain ⟨i',v',x',hm,k1,k2,k3,k4⟩:=hown b ho;exact hi (by rw [hr0.oB i i' v v' x x' b g1 g2 g3 k1 k2 k3 g4 k4];grind)
  refine ⟨hb,hno,λhg=>?_,λho=>?_⟩
  ·rcases hO.go b hg with h1 | ⟨_,h1 | h1⟩
   ·exact hr0.gd b h1 ⟨i,v,x,g1,g2,g3,g4⟩
   grind
   grind
  ·rcases hO.oo b ho with h1 | h1
   grind
   grind
 have hlen:=hO.hr.len;rw [aK,List.length_replicate] at hlen;have hpre:∀i,i<ρ.length→(ρ++ρ'.drop ids.length)[i]? = ρ[i]?:=λi hi=>aT hi;have hren:∀k,ids.length≤k→(ρ++ρ'.drop ids.length)[h.length+k - ids.length]? = ρ'[k]?:=λk hk=>by
  rw [aY (by omega),bF];congr 1;omega
 have get:∀(i:Nat) (v:Value) (y:B),(ρ++ρ'.drop ids.length)[i]? = some v→(gone ids h++ns.map (eR λk=>h.length+k - ids.length))[i]? = some y→y≠.no →
   (i∉ids∧ρ[i]? = some v∧h[i]? = some y)∨∃k x,i=h.length+k∧ρ'[ids.length+k]? = some v∧ns[k]? = some x∧(List.replicate ids.length B.no++ns)[ids.length+k]? = some x∧y=eR (λk=>h.length+k - ids.length) x:=by
  intro i v y h1 h2 h3
  by_cases hi:i<h.length
  ·rw [hpre i (by grind)] at h1;rw [aT (by rw [lR];grind),nG] at h2
   grind
  ·rw [aY (by omega),bF,hρl] at h1;rw [aY (by rw [lR];omega),lR,aB,aG] at h2;obtain ⟨x,hx,rfl⟩:=h2;refine .inr ⟨i - h.length,x,by omega,h1,hx,?_,rfl⟩;rw [aY (by simp),List.length_replicate,Nat.add_sub_cancel_left]
   grind
 have hnb:∀(k:Nat) (x:B) {v:Value} {b:Nat},eR (λk=>h.length+k - ids.length) x≠.no→b∈eU v (eR (λk=>h.length+k - ids.length) x)→x≠.no∧b∈eU v x:=λk x v b h1 h2=>⟨λe=>h1 ((ka _ _).2 e),by rw [eU,nH] at h2;exact h2⟩
 have hownb:∀b,own (ρ++ρ'.drop ids.length) (gone ids h++ns.map (eR λk=>h.length+k - ids.length)) b→(own ρ h b∨w.heap.size≤b)∧¬G' b:=by
  rintro b ⟨i,v,y,h1,h2,h3,h4⟩
  rcases get i v y h1 h2 h3 with ⟨g0,g1,g2⟩ | ⟨k,x,rfl,g1,_,g2,rfl⟩
  ·exact ⟨.inl ⟨i,v,y,g1,g2,h3,h4⟩,(hoth i v y b g0 g1 g2 h3 h4).2.2.1⟩
  ·obtain ⟨x1,x2⟩:=hnb k x h3 h4;have ho:own ρ' (List.replicate ids.length .no++ns) b:=⟨_,v,x,g1,g2,x1,x2⟩
   refine ⟨?_,λhg=>hO.hr.gd b hg ho⟩;rcases hO.oo b ho with h5 | h5
   grind
   grind
 have hO2:=hC.ok;refine hnx v w' G' _ ⟨⟨⟨by rw [aK,aK,lR,aH,eJ];omega,λi v y h1 h2=>?_,λi j v u x y b h1 h2 h3 h4 h5 h6 h7 h8=>?_,hO.hr.gl,λb hb ho=>(hownb b ho).2 hb,hO.hr.sF⟩,λb hb=>hO.gm b (hO2.gm b hb),λb hb=>?_,λb hb=>?_,
   λb hb hnb=>?_,aV hO2.size hsz,hO.os.trans hO2.os,hO.tape.trans hO2.tape,hO.out.trans hO2.out,λi v hv hs=>?_,by rw [aK,lR];have:=hO2.hl;omega,λq hq=>?_⟩,hC.df,hC.sz,λi=>?_⟩ ?_
 ·by_cases hy:y = .no
  ·subst hy;trivial
  ·rcases get i v y h1 h2 hy with ⟨g0,g1,g2⟩ | ⟨k,x,rfl,g1,g3,g2,rfl⟩
   ·have hrep:=hr0.rep i v y g1 g2;exact hrep.mono hO.gm hGb (λb hb=>by
    grind) (λj hj=>hpre j (hrep.lt j hj))
   ·exact (hO.hr.rep _ v x g1 g2).pL λj hj=>hren j (hns x (aJ g3) j hj)
 ·rcases get i v x h1 h2 h3 with ⟨g0,g1,g2⟩ | ⟨k,x',rfl,g1,_,g2,rfl⟩<;>rcases get j u y h4 h5 h6 with ⟨k0,k1,k2⟩ | ⟨k',y',rfl,k1,_,k2,rfl⟩
  ·exact hr0.oB i j v u x y b g1 g2 h3 k1 k2 h6 h7 h8
  ·obtain ⟨y1,y2⟩:=hnb k' y' h6 h8;exact absurd ⟨_,u,y',k1,k2,y1,y2⟩ (hoth i v x b g0 g1 g2 h3 h7).2.2.2
  ·obtain ⟨x1,x2⟩:=hnb k x' h3 h7;exact absurd ⟨_,v,x',g1,g2,x1,x2⟩ (hoth j u y b k0 k1 k2 h6 h8).2.2.2
  ·obtain ⟨x1,x2⟩:=hnb k x' h3 h7;obtain ⟨y1,y2⟩:=hnb k' y' h6 h8;have:=hO.hr.oB _ _ v u x' y' b g1 g2 x1 k1 k2 y1 x2 y2;omega
 ·rcases hO.go b hb with h1 | ⟨hc,h1 | h1⟩
  ·exact (hO2.go b h1).imp (λh=>h) λh2=>⟨h2.1.same (hGb b h1),h2.2⟩
  ·exact .inr ⟨hc,.inl (aV hO2.size h1)⟩
  ·exact .inr ⟨hc,hO2.oo b (hoc b h1)⟩
 ·rcases (hownb b hb).1 with h1 | h1
  ·exact hO2.oo b h1
  ·exact .inl (aV hO2.size h1)
 ·rw [hold b (b9 hb hO2.size) (λho=>?_)]
  ·exact hO2.frame b hb hnb
  ·rcases hO2.oo b (hoc b ho) with h1 | h1
   grind
   grind
 ·have h0:=hO2.hand i v hv hs
  grind
 ·obtain ⟨h1,h2,h3⟩:=hO2.sC q hq;have hlt:=(aQ.1 h1).1;refine ⟨(hold q hlt λho=>h3 (hoc q ho)).trans h1,λh4=>?_,λh4=>?_⟩
  ·rcases hO.go q h4 with h5 | ⟨_,h5 | h5⟩
   grind
   grind
   grind
  grind
 ·exact (hC.tm i).mono hO.gm hGb (λj hj=>hpre j ((hC.tm i).lt j hj))
 ·exact hv'.pL λj hj=>hren j (hr j hj)
theorem pv (hC:ak E n G ρ t h a w) (hn:iQ E n a o K bV) (hp:SE E n a KP Q) {f:Nat} (hlt:f<5000000) {as:Array Value} {vs:List V} (hrun:eo P f=true→(execOp a.eval o).run P w = .ok (.enter f as) w) (hl:as.size=vs.length)
  (hv:∀(i:Nat) (x:V),vs[i]? = some x→au G w ρ (as.getD i undef) x) (hk:px (Sat P) f vs t h K KP):o.wp P a w bV Q:=by
 unfold px at hk;split at hk
 ·exact xS hC hn hp hlt hrun hl hv hk
 ·rcases hk with ⟨r,hkS,hs,hk⟩ | hk
  ·obtain ⟨hok,hS⟩:=hkS.fn hlt;have hr0:HR (all w) w [] []:=⟨rfl,by simp,by simp,λ_ h=>h,(λb _ ho=>by obtain ⟨_,_,_,h1,_⟩:=ho;grind),hC.ok.hr.sF.mono (λb hb=>hC.ok.hr.gl b hb) (λ_ _=>rfl)⟩
   have hget:∀i,as.toList.getD i undef=as.getD i undef:=by
    simp_all
   have hc:=hS (all w) w [] as.toList hr0 (by grind) (λi x hx=>by
    rw [hget];rw [aB] at hx;cases hc:vs[i]? with
    |none=>grind
    |some x0=>rw [hc] at hx;cases hx;exact DK hC.ok.hr (hv i x0 hc))
   rw [cr] at hc;unfold Oper.wp;rw [hrun hok,Oper.upon_enter];refine hc.mono λe w' hr=>?_;obtain ⟨G',ρ',h',out,hO,hR,rfl,rfl⟩:=hr;obtain ⟨v,rfl,hv'⟩:=hR;have hg:gK w w':=⟨hO.size,λb hb=>hO.frame b hb (λho=>by obtain ⟨_,_,_,h1,_⟩:=ho;grind),hO.os,hO.tape,hO.out⟩
   exact hn v w' G ρ t h r (hC.grow hg (λ_ h=>h) (λ_ h=>.inl h)) (LD hv' hs) hk
  ·rcases Qd hk with hk | ⟨r,ns,hS,hc,hk⟩
   ·rw [bf] at hk;obtain ⟨G',t',h',vs',k1,k2,k3,k4⟩:=sG _ G t h _ (λi=>as.getD i undef) hC hv hk;exact xS k1 hn hp hlt hrun (by grind) k3 k4
   ·rw [bf] at hk;simp only [aP] at hc;exact EN hC hlt hrun hl hv hS hc.1 hc.2 λv w' ρ' hC' hr=>hn v w' G ρ' t _ _ hC' hr hk
variable (ow:Nat→Bool)
theorem TY (hC:ak E n G ρ t h a w) (hn:iQ E n a o K bV) (hp:SE E n a KP Q) {f:Nat} (hlt:f<5000000) {c:Call} {oa:List O} (ho:o.op = .call c) (hcf:c.callee = .value (.func f)) (ha:args P c.args.toList c.argTypes.toList=some oa)
  (hk:bq (Sat P) ow (.cf f oa) t h K KP):o.wp P a w bV Q:=by
 obtain ⟨g1,g2⟩:=oG hC _ _ _ ha;have hrun:eo P f=true→(execOp a.eval o).run P w = .ok (.enter f (c.args.map a.eval)) w:=λhok=>by
  have:=gC (P:=P) (w:=w) (as:=c.args.map a.eval) hok;simp [execOp,ho,resolve,hcf,Act.eval,Deferred.ofValue,invoke,this]
 have hU:∀(i:Nat) (x:V),(oa.map λx=>cH (gv t x))[i]? = some x→au G w ρ ((c.args.map a.eval).getD i undef) x:=by
  intro i x hx;rw [aB] at hx;cases hc:oa[i]? with
  |none=>grind
  |some y=>
   rw [hc] at hx;cases hx;have:=g2 i y hc;rw [a8,aB,bt] at this;rw [aF,gQ];exact qd this
 simp only [bq,bf] at hk;cases how:ow f<;>rw [how] at hk
 ·simp only [ε] at hk;exact pv hC hn hp hlt hrun (by grind) hU hk
 ·simp only [δ] at hk;exact xS hC hn hp hlt hrun (by grind) hU hk
theorem QD {x:D} {v:Value} (h:bp G w v x):dL G w ρ v (Sm x):=by
 cases h with
 |pt b o off row U h1 h2 h3=>exact .e b o off row U h1 h2 h3
 |int k n=>exact .d (.int k n)
 |bool b=>exact .d (.bool b)
 |str s hs=>exact .d (.str s hs)
 |xg z=>exact .d (.xg z)
 |sle a z=>exact .d (.sle a z)
 |sl b o cap z rows U h1 h2 h3 h4 h5 h6=>exact .d (.sl b o cap z rows U h1 h2 h3 h4 h5 h6)
 |np=>exact .d .np
 |nf=>exact .d .nf
 |ni=>exact .d .ni
 |nm=>exact .d .nm
 |fn f=>exact .d (.fn f)
 |fc F _ cs caps h1 h2 h3=>exact .d (.fc F _ cs caps h1 h2 h3)
theorem Qy {x:V} {v:Value} (h:au G w ρ v x):au G w ρ v (Vv x):=by
 unfold Vv;split
 ·rename_i f caps;cases h.qu with
  |fc F _ cs _ h1 h2 h3=>
   refine .o (.c (.fc _ _ cs _ h1 (by grind) λi x hx=>?_));rw [aB,aG] at hx;obtain ⟨y,hy,rfl⟩:=hx;exact QD (h3 i y hy)
 grind
theorem TZ (hC:ak E n G ρ t h a w) (hn:iQ E n a o K bV) (hp:SE E n a KP Q) {c:Call} {x:Operand} {ox:O} {oa:List O} {t1:TypeId} (ho:o.op = .call c) (hcf:c.callee = .value x) (hx:cX P t1 x=some ox) (ha:args P c.args.toList c.argTypes.toList=some oa)
  (hk:bq (Sat P) ow (.cc ox oa) t h K KP):o.wp P a w bV Q:=by
 obtain ⟨g1,g2⟩:=oG hC _ _ _ ha;have hvx:=Qy (bG hC hx);have hA:∀(i:Nat) (x:V),(oa.map λx=>cH (gv t x))[i]? = some x→au G w ρ ((c.args.map a.eval).getD i undef) x:=by
  intro i x hx;rw [aB] at hx;cases hc:oa[i]? with
  |none=>grind
  |some y=>
   rw [hc] at hx;cases hx;have:=g2 i y hc;rw [a8,aB,bt] at this;rw [aF,gQ];exact qd this
 simp only [bq,bf] at hk;split at hk
 ·rename_i f caps hg;rw [hg] at hvx;obtain ⟨cs,hv0,jb,hcr⟩:=hvx.Nv;cases hb:Nat.blt f 1000000<;>rw [hb] at hk
  ·simp only [ε] at hk;cases hb2:Nat.blt f 2000000<;>rw [hb2] at hk
   grind
   simp only [δ] at hk;have hv:=BX hv0 (λhl=>by rw [←fH,hb] at hl;grind) (by simp_all);have hrun:eo P (f - 1000000)=true→(execOp a.eval o).run P w = .ok (.enter (f - 1000000) (cs++c.args.map a.eval)) w:=λhok=>by
    have:=gC (P:=P) (w:=w) (as:=cs++c.args.map a.eval) hok;simp [execOp,ho,resolve,hcf,hv,Deferred.ofValue,invoke,this]
   have hU:∀(i:Nat) (x:V),(caps++(oa.map λx=>cH (gv t x)))[i]? = some x→au G w ρ ((cs++c.args.map a.eval).getD i undef) x:=by
    intro i x hx
    by_cases hi:i<caps.length
    ·rw [aT hi] at hx;have:=hcr i x hx;rw [aF] at this ⊢;rw [cp (by omega)];exact .k this
    ·rw [aY (by omega)] at hx;have:=hA _ x hx;rw [aF] at this ⊢
     grind
   exact pv hC hn hp (by have:=hb2;simp [] at this;omega) hrun (by grind) hU hk
  simp only [δ] at hk;have hv:=uB hv0 (by simp_all);have hrun:eo P f=true→(execOp a.eval o).run P w = .ok (.enter f (c.args.map a.eval++cs)) w:=λhok=>by
   have:=gC (P:=P) (w:=w) (as:=c.args.map a.eval++cs) hok;simp [execOp,ho,resolve,hcf,hv,Deferred.ofValue,invoke,this]
  have hU:∀(i:Nat) (x:V),((oa.map λx=>cH (gv t x))++caps)[i]? = some x→au G w ρ ((c.args.map a.eval++cs).getD i undef) x:=by
   intro i x hx;have hsz:(c.args.map a.eval).size=(oa.map λx=>cH (gv t x)).length:=by grind
   by_cases hi:i<(oa.map λx=>cH (gv t x)).length
   ·rw [aT hi] at hx;have:=hA i x hx;rw [aF] at this ⊢
    grind
   ·rw [aY (by omega)] at hx;have:=hcr _ x hx;rw [aF] at this ⊢;rw [Array.getElem?_append_right (by omega),hsz];exact .k this
  exact pv hC hn hp (by have:=hb;simp [] at this;omega) hrun (by grind) hU hk
 ·rename_i f hg;rw [hg] at hvx;have hv:=BR hvx.qu;have hrun:eo P f=true→(execOp a.eval o).run P w = .ok (.enter f (c.args.map a.eval)) w:=λhok=>by
   have:=gC (P:=P) (w:=w) (as:=c.args.map a.eval) hok;simp [execOp,ho,resolve,hcf,hv,Deferred.ofValue,invoke,this]
  cases hb:Nat.blt f 5000000<;>rw [hb] at hk
  grind
  ·rw [δ] at hk;exact pv hC hn hp (by simp_all) hrun (by grind) hA hk
 grind
end
section
variable {P:Program} {E:gL} {n:Nat} {G:Nat→Prop} {ρ:List Value} {t:T} {h:H} {a:Act} {w:World} {o:Oper} {bV:Act→World→Prop} {Q:Exit→Act→World→Prop} {K KP:V→T→H→Prop}
variable (S:Nat→List V→H→(Out→H→Prop)→Prop) (ow:Nat→Bool)
theorem N6 (hC:ak E n G ρ t h a w) (hn:iQ E n a o K bV) {ne:Bool} {ty e t1 t2:TypeId} {x:Operand} {ox:O} (ho:o.op = .binOp (bif ne then .neq else .eql) ty x (.const (.slice none 0 0)) t2) (hu:P.underlying ty=some (.slice e)) (hx:cX P t1 x=some ox)
  (hk:bq S ow (.nq ne ox) t h K KP):o.wp P a w bV Q:=by
 have hv:=bG hC hx;have run:∀(ad:Option Addr) (m c:Nat),a.eval x = .slice ad m c→(execOp a.eval o).run P w = .ok (.value (.bool (bif ne then !ad.isNone else ad.isNone))) w:=by
  intro ad m c he;have e0:a.eval (.const (.slice none 0 0)) = .slice none 0 0:=rfl;have heq:∀k,(Op.equalIn (k+1) ty (.slice ad m c) (.slice none 0 0)).run P w = .ok ad.isNone w:=λk=>by
   cases ad<;>simp [Op.equalIn,run_underlying hu]
  have heq:(Op.equal ty (.slice ad m c) (.slice none 0 0)).run P w = .ok ad.isNone w:=heq 9999;cases ne<;>simp only [δ,ε] at ho ⊢<;>simp only [execOp,ho,he,e0]
  ·refine cT ?_;simp [eqGuard,binOp,heq]
  ·refine cT ?_;simp [eqGuard,binOp,heq]
 have both:∀(ad:Option Addr) (m c:Nat),a.eval x = .slice ad m c→K (.d (.bool true)) t h∧K (.d (.bool false)) t h→o.wp P a w bV Q:=by
  intro ad m c he hk;refine an hC hn (v:=.d (.bool (bif ne then !ad.isNone else ad.isNone))) (run ad m c he) (.d (.bool _)) ?_;cases (bif ne then !ad.isNone else ad.isNone)
  grind
  grind
 have one:∀(ad:Addr) (m c:Nat),a.eval x = .slice (some ad) m c→K (.d (.bool ne)) t h→o.wp P a w bV Q:=by
  intro ad m c he hk;have:=run (some ad) m c he;exact an hC hn this (.d (.bool _)) (by grind)
 have data:∀(z:Nat) (r:List (List D)),bp G w (a.eval x) (.sl z r)→(match r with | []=>K (.d (.bool true)) t h∧K (.d (.bool false)) t h | _ :: _=>K (.d (.bool ne)) t h)→o.wp P a w bV Q:=by
  intro z r hD hk;cases r with
  |nil=>
   obtain ⟨ad,c,he,_⟩:=hD.len
   grind
  |cons r0 rs=>
   rcases hD.Rp with ⟨_,h2⟩ | ⟨b,o,cap,U,he,_⟩
   grind
   grind
 simp only [bq] at hk;split at hk
 ·rename_i z r hg;rw [hg] at hv;exact data z r hv.qu hk
 ·rename_i z r hg;rw [hg] at hv;obtain ⟨ad,m,he,hD⟩:=hv.PA
  grind
 ·rename_i id hg;rw [hg] at hv;rw [get?_eq] at hk;split at hk
  ·rename_i z r hcs;obtain ⟨ad,c,he,_,hρ⟩:=w9 hC hv hcs;cases r with
   |nil=>grind
   |cons r0 rs=>
    rcases hC.ok.hr.rep id _ _ hρ hcs with ⟨_,h2⟩ | ⟨b,cap,arr,ty',hb,_⟩
    grind
    grind
  grind
 grind
theorem TC (hC:ak E n G ρ t h a w) (hn:iQ E n a o K bV) {ty e:TypeId} {zs:List V} (ho:o.op = .buildSlice ty 0 #[]) (hu:P.underlying ty=some (.slice e)) (hz:rM P e=some zs) (hk:bq S ow (.ns (P.cellsOf e)) t h K KP):o.wp P a w bV Q:=by
 obtain ⟨i,z,hi,_⟩:=jf (G:=G) (w:=w) (ρ := ρ) hz;simp only [bq,bf,cZ] at hk;have hC2:=hC.push (gK.alloc w (.cells #[] e)) (.slice (some ⟨w.heap.size,0,none⟩) 0 0) (.rows (P.cellsOf e) []) (by intro b hb;simp only [fO,aE] at hb;omega)
  (.inr ⟨w.heap.size,0,#[],e,rfl,heap_alloc_new w _,aM _,by simp,by simp,by simp⟩)
 refine dU (v':=.slice (some ⟨w.heap.size,0,none⟩) 0 0) ?_ (hn _ _ _ _ _ _ _ hC2 (.k (.os h.length _ 0 0 (by rw [←hC.ok.hr.len];simp))) hk);have hrun:(Instr.buildSlice ty 0 #[]).run P w = .ok (.slice (some ⟨w.heap.size,0,none⟩) 0 0) (w.alloc (.cells #[] e)):=by
  simp [Instr.buildSlice,Instr.fill,run_underlying hu,sizeOf,typeInfo,hi,newRow]
  grind
 simp only [execOp,ho];simp_all
theorem TR (hC:ak E n G ρ t h a w) (hn:iQ E n a o K bV) {ty t1 t2:TypeId} {x i:Operand} {ox oi:O} (ho:o.op = .index ty x i) (hu:P.underlying ty=some .string) (hx:cX P t1 x=some ox) (hi:cX P t2 i=some oi)
  (hk:bq S ow (.ix ox oi) t h K KP):o.wp P a w bV Q:=by
 have hvx:=bG hC hx;have hvi:=bG hC hi;simp only [bq] at hk;split at hk
 ·rename_i s k m hgx hgi;rw [hgx] at hvx;rw [hgi] at hvi;obtain ⟨sv,e1,rfl,_⟩:=hvx.str;have e2:=hvi.int;obtain ⟨b,⟨h1,h2⟩,hk⟩:=hk;have hb:sv[m.toNat]? = some b:=by
   rw [bt] at h2;exact h2
  refine an hC hn (v':=.int .u8 b.toNat) ?_ (.d (.int _ _)) hk;simp [execOp,ho,e1,e2,Instr.index,asIntOf,run_underlying hu,h1,hb]
 grind
theorem au.X5 {v:Value} {id z i:Nat} (h:au G w ρ v (.ov id z i)):∃a n c,ρ[id]? = some (.slice a n c)∧v=sliced a i n c z:=by
 cases h with | o h=>cases h with | c h=>cases h with | k h=>cases h with | ov _ _ _ _ a n c h1 h2=>grind
theorem vU {α β:Type} {f:α→Option β}:∀{l:List α} {r:List β},l.mapM f=some r→r.length=l.length∧∀(k:Nat) (x:α) (y:β),l[k]? = some x→r[k]? = some y→f x=some y:=by
 intro l
 induction l with
 |nil=>grind
 |cons x l ih=>
  intro r h;simp only [iU,aI,aD,jK,aE] at h
  grind
theorem JS {v:Value} {x:V} {d:D} (hv:dL G w ρ v x) (hd:SB x=some d):bp G w v d:=by
 cases hv<;>simp only [SB,reduceCtorEq,aE] at hd
 grind
 ·subst hd;exact .xg _
theorem QN (hC : ak E n G ρ t h a w) (hn : iQ E n a o K bV) {ty e t1 : TypeId} {zs : List V} {ds : List D} {x : Operand} {ox : O} (ho : o.op = .call { callee := .builtin .clear, args := #[x], argTypes := #[ty] }) (hu : P.underlying ty = some (.slice e)) (hz : rM P e = some zs)
    (hd:zs.mapM SB=some ds) (hzl:zs.length=P.cellsOf e) (hz0:P.cellsOf e≠0) (hx:cX P t1 x=some ox) (hk:bq S ow (.fo ox ds (P.cellsOf e)) t h K KP):o.wp P a w bV Q:=by
  have hv:=bG hC hx
  obtain ⟨it,z,hi,hz1,hzs,hst,hzr⟩:=jf (G:=G) (w:=w) (ρ := ρ) hz
  obtain ⟨hdl,hdg⟩:=vU hd
  have hci:P.cellsOf e=it.size:=by simp [Program.cellsOf,hi]
  generalize hzz:P.cellsOf e=zz at *
  simp only [bq] at hk
  split at hk
  · rename_i id z' i hg
    rw [hg] at hv
    rw [get?_eq] at hk
    split at hk
    · rename_i z'' r hcs
      obtain ⟨⟨k1,k2,k3⟩,hk⟩:=hk
      obtain rfl:=kH k1
      obtain rfl:=kH k2
      have k3:=bA k3
      rw [bf] at hk
      obtain ⟨ad,m,c,hρ,hval⟩:=hv.X5
      have hrep:=hC.ok.hr.rep id _ _ hρ hcs
      have hlc:m=r.length∧m≤c:=by
        rcases hrep with ⟨he,rfl⟩ | ⟨b,cap,arr,ty,he,h1,h2,_⟩
        grind
        grind
      obtain ⟨rfl,hmc⟩:=hlc
      have runs:∀(v:Value) (w':World),a.eval x=v→(Builtin.clear_ #[ty] o.type #[v]).run P w = .ok (.tuple #[]) w'→(execOp a.eval o).run P w = .ok (.value (.tuple #[])) w':=by
        intro v w' he hr
        simp [execOp,ho,resolve,invoke,builtin,he,hr]
      by_cases hil:i=r.length
      · have hsame:h.set id (.rows z'' (r.take i++List.replicate (r.length - i) ds))=h:=by
          rw [hil,cO,qm,List.replicate_zero,cV]
          exact mh hcs
        rw [hsame] at hk
        refine dU (runs _ w hval ?_) (hn _ _ _ _ _ _ _ hC (.tu #[] [] rfl (by simp)) hk)
        subst hil
        simp only [sliced,qm]
        cases (if c=r.length then ad else ad.map (·.add (r.length*z'')))<;>simp [Builtin.clear_,run_underlying hu]
      · have hil:i<r.length:=by omega
        rcases hrep with ⟨_,rfl⟩ | ⟨b,cap,arr,ty',he,h1,h2,h3,h4,h5⟩
        grind
        simp only [Value.slice.injEq] at he
        obtain ⟨rfl,_,rfl⟩:=he
        have hv2:a.eval x = .slice (some ⟨b,i*z'',none⟩) (r.length - i) (c - i):=by
          rw [hval]
          simp [sliced,show ¬c=i by omega,dx]
        have hz'':it.size=z'':=hci.symm
        have hzc:z.cells.size=z'':=by grind
        have hzpos:0<z'':=by omega
        have hmul:(r.length - i)*z''+i*z''=r.length*z'':=by rw [←iT];grind
        have hle:r.length*z''≤c*z'':=bB _ h2
        have hnl:(Builtin.zeroCells z.cells (r.length - i)).toList.length=(r.length - i)*z'':=by simp [Builtin.zeroCells,hzc]
        have hng:∀k,k<(r.length - i)*z''→(Builtin.zeroCells z.cells (r.length - i)).toList[k]? = some (z.cells.getD (k % z'') undef):=by
          intro k hk
          have hml:k % z''<z.cells.size:=by rw [hzc];exact Nat.mod_lt _ hzpos
          simp only [Builtin.zeroCells,bt,gQ,hzc,Array.getElem?_range,hk,if_true,bE,aE]
          rw [getElem!_pos z.cells _ hml,aF,aN hml]
          rfl
        have hzj:∀j,j<z''→∃x,zs[j]? = some x∧dL G w ρ (z.cells.getD j undef) x:=λj hj=>by
          have hjl:j<zs.length:=by grind
          exact ⟨zs[j],aA hjl,(hzr j _ (aA hjl)).1⟩
        have hone:∀u∈(Builtin.zeroCells z.cells (r.length - i)).toList,u.oneCell'=true:=by
          intro u hu
          obtain ⟨k,hk⟩:=aj.1 hu
          have hkl:k<(r.length - i)*z'':=by grind
          rw [hng k hkl] at hk
          cases hk
          obtain ⟨y,hy,hr⟩:=hzj (k % z'') (Nat.mod_lt _ hzpos)
          exact A9 (.k hr) (aS.1 hst y (aJ hy))
        have hrun:=run_storeCells_at (P:=P) b (i*z'') ty' (Builtin.zeroCells z.cells (r.length - i)).toList 0 arr w h1 (by grind) hone
        rw [eQ,hnl] at hrun
        have hC':=hC.F3 (w':=w.setRow b (arr.toList.take (i*z'')++(Builtin.zeroCells z.cells (r.length - i)).toList++arr.toList.drop (i*z''+(r.length - i)*z'')).toArray) (x1:=.rows z'' (r.take i++List.replicate (r.length - i) ds)) hρ hcs (by simp) (by simp)
          (λc hc=>setRow_other w b c _ (by simp only [fO,ne_eq,aE] at hc;omega)) rfl rfl rfl
          (.inr ⟨b,c,_,ty',by grind,setRow_heap w b arr _ ty' _ h1,by grind,h3,by
            grind,λi' row hi'=>by
            have hs':∀c,G c→(w.setRow b (arr.toList.take (i*z'')++(Builtin.zeroCells z.cells (r.length - i)).toList++arr.toList.drop (i*z''+(r.length - i)*z'')).toArray).heap[c]? = w.heap[c]?:=λc hc=>setRow_other w b c _ (λe=>by
              subst e;exact hC.ok.hr.gd c hc ⟨id,_,_,hρ,hcs,by simp,bR.2 (.inl rfl)⟩)
            have hgetr:=λk=>nh (arr:=arr) (off:=i*z'') hnl (by omega) k
            by_cases hii:i'<i
            · rw [aT (by grind),ao,ζ hii] at hi'
              obtain ⟨g1,g2⟩:=h5 i' row hi'
              refine ⟨g1,λj x hj=>?_⟩
              have hjl:j<z'':=by grind
              have:i'*z''+z''≤i*z'':=by
                have:=bB z'' (show i'+1≤i by omega)
                grind
              rw [hgetr,η (by omega)]
              exact (g2 j x hj).mono (λ_ h=>h) hs'
            · rw [aY (by grind)] at hi'
              have hmin:(r.take i).length=i:=by grind
              rw [hmin,List.getElem?_replicate] at hi'
              split at hi'
              · rename_i hlt
                cases hi'
                refine ⟨by grind,λj x hj=>?_⟩
                have hjl:j<z'':=by grind
                have hi1:i'*z''=i*z''+(i' - i)*z'':=by rw [←iT];grind
                have hi2:(i' - i)*z''+z''≤(r.length - i)*z'':=by
                  have:=bB z'' (show (i' - i)+1≤r.length - i by omega)
                  grind
                rw [hgetr,ζ ⟨by omega,by omega⟩]
                have hk:i'*z''+j - i*z''=j+(i' - i)*z'':=by omega
                rw [hk,a8,hng _ (by omega),Nat.add_mul_mod_self_right,dQ hjl]
                obtain ⟨y,hy,hr⟩:=hzj j hjl
                exact (JS hr (hdg j y x hy hj)).mono (λ_ h=>h) hs'
              grind⟩)
        refine dU (runs _ _ hv2 ?_) (hn _ _ _ _ _ _ _ hC' (.tu #[] [] rfl (by simp)) hk)
        have hn0:¬(r.length - i=0):=by omega
        obtain ⟨k,hk⟩:=Nat.exists_eq_succ_of_ne_zero hn0
        rw [hk] at hrun ⊢
        simp [Builtin.clear_,run_underlying hu,zeroValue,typeInfo,hi,hz1,hrun]
    grind
  grind
end
open Go.MapKept
section
variable {P:Program} {E:gL} {n:Nat} {G:Nat→Prop} {ρ ρ':List Value} {t:T} {h:H} {a:Act} {w:World} {o:Oper} {bV:Act→World→Prop} {Q:Exit→Act→World→Prop} {K KP:V→T→H→Prop}
variable (S:Nat→List V→H→(Out→H→Prop)→Prop) (ow:Nat→Bool)
theorem Gt {v:Value} (h:bp G w v .nm):v = .map none:=by cases h;rfl
theorem Am {α β:Type} (g:α→β) (f:α→α) (hg:∀x,g (f x)=g x):∀(l:List α) (i:Nat),(l.modify i f).map g=l.map g:=by
 intro l
 induction l with
 |nil=>grind
 |cons x l ih=>
  grind
theorem s_ {arr:Array MapEntry} {clk i:Nat} {f:MapEntry→MapEntry} (hf:∀e,(f e).born=e.born) (h:ord arr clk):ord (arr.modify i f) clk:=by
 have e:((arr.modify i f).toList.map (·.born))=arr.toList.map (·.born):=by
  rw [Array.toList_modify];exact Am _ _ hf _ _
 refine ⟨λx hx=>?_,by rw [e];exact h.2⟩;have:x.born∈(arr.modify i f).toList.map (·.born):=bJ.2 ⟨x,hx,rfl⟩;rw [e] at this;obtain ⟨y,hy,hxy⟩:=bJ.1 this;rw [←hxy];exact h.1 y hy
theorem yQ {arr:Array MapEntry} {clk:Nat} {e:MapEntry} (he:e.born=clk) (h:ord arr clk):ord (arr.push e) (clk+1):=by
 refine ⟨λx hx=>?_,?_⟩
 ·rw [Array.toList_push] at hx;rcases aR.1 hx with hx | hx
  ·have:=h.1 x hx;omega
  grind
 ·rw [Array.toList_push,bZ,List.pairwise_append];refine ⟨h.2,by simp,λx hx y hy=>?_⟩;simp at hy;subst hy;obtain ⟨z,hz,rfl⟩:=bJ.1 hx;have:=h.1 z hz;omega
theorem vP {arr:Array MapEntry} {clk i:Nat} (h:ord arr clk):ord (arr.eraseIdxIfInBounds i) clk:=by
 have hs:(arr.eraseIdxIfInBounds i).toList.Sublist arr.toList:=by
  unfold Array.eraseIdxIfInBounds;split
  ·simp only [Array.toList_eraseIdx];grind
  grind
 exact ⟨λx hx=>h.1 x (hs.subset hx),h.2.sublist (hs.map _)⟩
theorem vu {ty:TypeId} {zv:V} (hz:zk P ty=some zv):∃z,(zeroValue ty).run P w = .ok z w∧dM G w ρ z zv∧jJ zv = []:=by
 simp only [zk,aI,aD] at hz;obtain ⟨zs,hzs,i,hi,z,hz0,hm⟩:=hz;obtain ⟨i',z',hi',hz',h1,hstor,h3⟩:=jf (G:=G) (w:=w) (ρ := ρ) hzs;rw [hi] at hi';cases hi';rw [hz0] at hz';cases hz';refine ⟨z,by simp [zeroValue,typeInfo,hi,hz0],?_⟩;have hid:∀(v:V),ij v = []→(∀f c,v≠.fc f c)→kI v = []:=λv hv hf=>by cases v<;>first | exact hv | exact absurd rfl (hf _ _)
 have hnf:∀{v:Value} {x:V},dL G w ρ v x→∀f c,x≠.fc f c:=by
  intro v x hx f c e;subst e;cases hx
 have hna:∀{v:Value} {x:V},dL G w ρ v x→∀c,x≠.ag c:=by
  intro v x hx c e;subst e;cases hx
 clear hstor;split at hm
 ·cases hm;refine ⟨.ag _ _ (by assumption) (λj x hx=>.k (by simpa [Value.cells] using (h3 j x hx).1)),?_⟩;simp only [jJ,br];intro x hx;obtain ⟨j,hj⟩:=aj.1 hx
  grind
 ·rename_i x hna';cases hm;have hx:=h3 0 _ rfl;have hc:z.cells = #[z]:=by
   cases z<;>first | rfl | exact absurd rfl (hna' _)
  rw [hc] at hx;refine ⟨.c (.k hx.1),?_⟩;have h0:=hid _ hx.2 (hnf hx.1);have h1:=hna hx.1;cases zv<;>first | exact h0 | exact absurd rfl (h1 _)
 grind
theorem Ok.view (hO:Ok E G w ρ h) {h':H} (hp:∀(i:Nat) (v:Value),ρ[i]? = some v→ρ'[i]? = some v) (hl:ρ'.length=h'.length) (hle:h.length≤h'.length)
  (rep:∀(i:Nat) (v:Value) (y:B),ρ'[i]? = some v→h'[i]? = some y→y≠.no→cY G w ρ' v y)
  (src:∀(i:Nat) (v:Value) (y:B) (b:Nat),ρ'[i]? = some v→h'[i]? = some y→y≠.no→b∈eU v y→∃(j:Nat) (u:Value) (x:B),ρ[j]? = some u∧h[j]? = some x∧x≠.no∧b∈eU u x ∧
   ∀(i':Nat) (v':Value) (y':B),ρ'[i']? = some v'→h'[i']? = some y'→y'≠.no→b∈eU v' y'→i'=i):Ok E G w ρ' h':=by
 have hown:∀b,own ρ' h' b→own ρ h b:=λb ⟨i,v,y,h1,h2,h3,h4⟩=>by
  obtain ⟨j,u,x,g1,g2,g3,g4,_⟩:=src i v y b h1 h2 h3 h4;exact ⟨j,u,x,g1,g2,g3,g4⟩
 refine ⟨⟨hl,λi v y h1 h2=>?_,λi i' v v' y y' b h1 h2 h3 h4 h5 h6 h7 h8=>?_,hO.hr.gl,λb hb ho=>hO.hr.gd b hb (hown b ho),hO.hr.sF⟩,hO.gm,hO.go,λb hb=>hO.oo b (hown b hb),hO.frame,hO.size,hO.os,hO.tape,hO.out,
  λi v hv hs=>hp i v (hO.hand i v hv hs),aV hO.hl hle,λr hr=>let ⟨g1,g2,g3⟩:=hO.sC r hr;⟨g1,g2,λg4=>g3 (hown r g4)⟩⟩
 ·by_cases hy:y = .no
  ·subst hy;trivial
  grind
 grind
theorem fT {i j:Nat} {x:Option (Option Nat×List (List D))} {es:List ME}:(eM i x es)[j]? = if i=j then (es[j]?).map λe=>(e.1,x) else es[j]?:=by
 unfold eM
 grind
theorem my {i:Nat} {x:Option (Option Nat×List (List D))} {es:List ME}:(eM i x es).length=es.length:=by simp [eM]
theorem ly {i b:Nat} {x:Option (Option Nat×List (List D))} {es:List ME} (h:b∈BM (eM i x es)):(∃(j:Nat) (k:List UInt8×List UInt8) (rs:List (List D)),j≠i∧es[j]? = some (k,some (some b,rs)))∨∃rs,x=some (some b,rs):=by
 obtain ⟨j,k,rs,hj⟩:=eI.1 h;rw [fT] at hj
 grind
theorem tE {i:Nat} {x:Option (Option Nat×List (List D))} {es:List ME} (hi:Gm es) (hx:∀b rs,x=some (some b,rs)→∀(j:Nat) (k:List UInt8×List UInt8) (rs':List (List D)),j≠i→es[j]?≠some (k,some (some b,rs'))) :
  Gm (eM i x es):=by
 intro i' j k k' rs rs' b h1 h2;rw [fT] at h1 h2;split at h1<;>split at h2
 grind
 grind
 grind
 ·exact hi _ _ _ _ _ _ _ h1 h2
theorem ak.Pz (hC:ak E n G ρ t h a w) {id m z z' i:Nat} {es:List ME} {it:Option (Nat×It)} {rs:List (List D)} (hx:h[id]? = some (.ms z es (some (i,.os m)) it)) (hm:h[m]? = some (.rows z' rs)) (hz:z=z') :
    ∃b,ak E n G ρ (ju m t) (((h.map (gV m)).set m .no).set id (.ms z (eM i (some (b,rs)) es) none it)) a w:=by
  subst hz
  have hO:=hC.ok
  have hr:=hO.hr
  have hil:id<ρ.length:=by rw [hr.len];grind
  have hml:m<ρ.length:=by rw [hr.len];grind
  have hne:m≠id:=λe=>by grind
  have hv:=aA hil
  have hv0:=aA hml
  have hrm:=hr.rep m _ _ hv0 hm
  obtain ⟨⟨r,arr,clk,e0,h1,h2,h3,h4,h5,h6,h7⟩,hit⟩:=hr.rep id _ _ hv hx
  generalize hgm:ρ[m]=v0 at *
  generalize hgi:ρ[id]=v at *
  have hsl:kN v0=true:=by
    rcases hrm with ⟨e,_⟩ | ⟨_,_,_,_,e,_⟩<;>rw [e]<;>rfl
  have hpb:∀b,fO v0=some b→b∉eU v (.ms z es (some (i,.os m)) it):=λb hb hb2=>hne (hr.oB m id v0 v _ _ b hv0 hm (by simp) hv hx (by simp) (bR.2 (.inl hb)) hb2)
  have hset:=mh hv0
  have get:∀(j:Nat) (y:B),(((h.map (gV m)).set m .no).set id (.ms z (eM i (some (fO v0,rs)) es) none it))[j]? = some y→y≠.no→(j=id∧y = .ms z (eM i (some (fO v0,rs)) es) none it)∨(j≠id∧j≠m∧∃y0,h[j]? = some y0∧y=gV m y0):=by
    grind
  have kno:∀y0:B,gV m y0≠.no→y0≠.no:=λy0 h e=>h (by rw [e];rfl)
  have new:∀b,b∈eU v (.ms z (eM i (some (fO v0,rs)) es) none it)→b∈eU v (.ms z es (some (i,.os m)) it)∨fO v0=some b:=by
    intro b hb
    rcases bR.1 hb with hb | hb
    · exact .inl (bR.2 (.inl hb))
    · simp only [gh,aR] at hb
      rcases hb with hb | hb
      · rcases ly hb with ⟨j,k,rs',_,hj⟩ | ⟨rs',e⟩
        · exact .inl (bR.2 (.inr (by simp only [gh,aR];exact .inl (eI.2 ⟨j,k,rs',hj⟩))))
        grind
      · exact .inl (bR.2 (.inr (by simp only [gh,aR];grind)))
  have hrep:cY G w ρ v (.ms z (eM i (some (fO v0,rs)) es) none it):=by
    have hgE:∀b,b∈BM es→b∈eU v (.ms z es (some (i,.os m)) it):=λb hb=>bR.2 (.inr (by simp only [gh,aR];grind))
    refine ⟨⟨r,arr,clk,e0,h1,by rw [my];grind,h3,⟨tE h4.1 λb rs' e j k rs2 _ hj=>?_,λhb=>?_⟩,λj e x he hj=>?_,λj v h=>(by cases h),λj v e h=>by cases h⟩,?_⟩
    · obtain ⟨e,_⟩:=Prod.mk.inj (aq e)
      exact hpb b e (hgE b (eI.2 ⟨j,k,rs2,hj⟩))
    · rcases ly hb with ⟨j,k,rs',_,hj⟩ | ⟨rs',e⟩
      · exact h4.2 (eI.2 ⟨j,k,rs',hj⟩)
      · obtain ⟨e,_⟩:=Prod.mk.inj (aq e)
        exact hpb r e (bR.2 (.inl (by rw [e0];rfl)))
    · rw [fT] at hj
      split at hj
      · rename_i e1
        subst e1
        rw [aG] at hj
        obtain ⟨x0,hx0,rfl⟩:=hj
        refine ⟨(h5 i e x0 he hx0).1,λb rs' e2=>?_⟩
        cases e2
        have h8:=h7 i _ e rfl he
        have h9:e.val=v0:=by
          generalize e.val=u at h8
          cases h8 with
          |k h8=>cases h8 with
            |os _ a n c h8=>grind
        rw [h9]
        exact ⟨rfl,hrm⟩
      grind
    · match it,hit,hpb with
      |none,_,_=>trivial
      |some (q,l),hit,hpb=>
        refine ⟨hit.1,λhb=>?_⟩
        rcases ly hb with ⟨j,k,rs',_,hj⟩ | ⟨rs',e⟩
        · exact hit.2 (eI.2 ⟨j,k,rs',hj⟩)
        · obtain ⟨e,_⟩:=Prod.mk.inj (aq e)
          exact hpb q e (bR.2 (.inr (by simp [gh,Np])))
  refine ⟨fO v0,⟨hO.view (ρ':= ρ) (λ_ _ h=>h) (by simp [hr.len]) (by simp) (λj u y g1 g2 g3=>?_) (λj u y b g1 g2 g3 g4=>?_),hC.df,hC.sz,λj=>?_⟩⟩
  · rcases get j y g2 g3 with ⟨rfl,rfl⟩ | ⟨_,_,y0,k1,rfl⟩
    grind
    · have:=(hr.rep j u y0 g1 k1).tX (v1:=v0) hv0 hsl
      grind
  · rcases get j y g2 g3 with ⟨rfl,rfl⟩ | ⟨hj1,hj2,y0,k1,rfl⟩
    · rw [hv] at g1; cases g1
      rcases new b g4 with hb | hb
      · refine ⟨j,v,_,hv,hx,by simp,hb,λj' u' y' q1 q2 q3 q4=>?_⟩
        rcases get j' y' q2 q3 with ⟨rfl,_⟩ | ⟨_,_,y1,p1,rfl⟩
        rfl
        · rw [eU,ny] at q4
          exact hr.oB j' j u' v y1 _ b q1 p1 (kno _ q3) hv hx (by simp) q4 hb
      · refine ⟨m,v0,_,hv0,hm,by simp,bR.2 (.inl hb),λj' u' y' q1 q2 q3 q4=>?_⟩
        rcases get j' y' q2 q3 with ⟨rfl,_⟩ | ⟨_,p0,y1,p1,rfl⟩
        rfl
        · rw [eU,ny] at q4
          exact absurd (hr.oB j' m u' v0 y1 _ b q1 p1 (kno _ q3) hv0 hm (by simp) q4 (bR.2 (.inl hb))) p0
    · rw [eU,ny] at g4
      refine ⟨j,u,y0,g1,k1,kno _ g3,g4,λj' u' y' q1 q2 q3 q4=>?_⟩
      rcases get j' y' q2 q3 with ⟨rfl,rfl⟩ | ⟨_,_,y1,p1,rfl⟩
      · rw [hv] at q1;cases q1
        rcases new b q4 with hb | hb
        · exact hr.oB j' j v u _ y0 b hv hx (by simp) g1 k1 (kno _ g3) hb g4
        · exact absurd (hr.oB m j v0 u _ y0 b hv0 hm (by simp) g1 k1 (kno _ g3) (bR.2 (.inl hb)) g4).symm hj2
      · rw [eU,ny] at q4
        exact hr.oB j' j u' u y1 y0 b q1 p1 (kno _ q3) g1 k1 (kno _ g3) q4 g4
  · rw [ju,q6 _ rfl]
    have:=(hC.tm j).tX (v1:=v0) hv0 hsl
    grind
theorem ak.WA (hC:ak E n G ρ t h a w) {id:Nat} {x x1:B} (hx:h[id]? = some x) (hn:x≠.no) (h1:∀v,ρ[id]? = some v→cY G w ρ v x→cY G w ρ v x1) (hg:∀b∈gh x1,b∈gh x):ak E n G ρ t (h.set id x1) a w:=by
 have hil:id<ρ.length:=by rw [hC.ok.hr.len];grind
 have hv:=aA hil;exact hC.sP hv hx hn (aM _) (λ_ _ _=>rfl) rfl rfl rfl (h1 _ hv (hC.ok.hr.rep id _ _ hv hx)) (λb hb=>.inl (bR.2 (.inr (hg b hb))))
theorem wC {KK:T→H→Prop} (hC:ak E n G ρ t h a w) {id:Nat} (hk:NQ id t h KK):∃t' h',ak E n G ρ t' h' a w∧KK t' h':=by
 unfold NQ at hk;rw [get?_eq] at hk;split at hk
 ·rename_i z es i v it hx;split at hk
  ·rename_i m;rw [get?_eq] at hk;split at hk
   ·rename_i z' rs hm;obtain ⟨hz,hk⟩:=hk;obtain ⟨b,hC'⟩:=hC.Pz hx hm (eH hz);have hk:=hk b;simp only [jR,f_] at hk
    grind
   grind
  ·simp only [f_] at hk;exact ⟨_,_,hC.WA (x1:=.ms z es none it) hx (by simp) (λv _ hr=>⟨hr.1.drop,hr.2⟩) (λb hb=>hb),hk⟩
 grind
theorem wB {KK:T→H→Prop}:∀(l:List Nat) {t:T} {h:H},ak E n G ρ t h a w→Fg l t h KK→∃t' h',ak E n G ρ t' h' a w∧KK t' h'
 |[],_,_,hC,hk=>⟨_,_,hC,hk⟩
 |i :: l,t,h,hC,hk=>by
  rw [Df] at hk;obtain ⟨t',h',hC',hk'⟩:=wC hC hk;exact wB l hC' hk'
theorem Qe {KK:T→H→Prop} {l:List Nat} {t:T} {h:H} (hC:ak E n G ρ t h a w) (hk:Tw l t h KK):∃t' h',ak E n G ρ t' h' a w∧KK t' h':=by
 cases l with
 |nil=>exact ⟨_,_,hC,hk⟩
 |cons i r=>exact hk.elim (λhk=>⟨_,_,hC,hk⟩) λhk=>wB _ hC hk
theorem ak.taken (hC:ak E n G ρ t h a w) {id z i:Nat} {es:List ME} {it:Option (Nat×It)} {k:List UInt8×List UInt8} {b:Option Nat} {rs:List (List D)} (hx:h[id]? = some (.ms z es none it)) (hi:es[i]? = some (k,some (b,rs))) :
  ∃r arr clk e,ρ[id]? = some (.map (some r))∧w.heap[r]? = some (.map arr clk)∧arr[i]? = some e∧kN e.val=true∧ak E n G (ρ ++ [e.val]) t (h.set id (.ms z (eM i none es) (some (i,.os h.length)) it) ++ [.rows z rs]) a w:=by
 have hO:=hC.ok;have hr:=hO.hr;have hil:id<ρ.length:=by rw [hr.len];grind
 have hihl:id<h.length:=by grind
 have hv:=aA hil;obtain ⟨⟨r,arr,clk,e0,h1,h2,h3,h4,h5,h6,h7⟩,hit⟩:=hr.rep id _ _ hv hx;have hia:i<arr.size:=by grind
 have he:=aN hia;generalize hge:arr[i]=e at he;obtain ⟨hke,hrs⟩:=h5 i e _ he hi;obtain ⟨hb,hrs⟩:=hrs b rs rfl;have hsl:kN e.val=true:=by
  rcases hrs with ⟨e,_⟩ | ⟨_,_,_,_,e,_⟩<;>rw [e]<;>rfl
 refine ⟨r,arr,clk,e,by grind,h1,he,hsl,?_⟩;rw [e0] at hv;have hpre:∀j,j<ρ.length→(ρ ++ [e.val])[j]? = ρ[j]?:=λj hj=>aT hj;have hnew:(ρ ++ [e.val])[h.length]? = some e.val:=by rw [←hr.len];simp
 have get:∀(j:Nat) (u:Value) (y:B),(ρ ++ [e.val])[j]? = some u→(h.set id (.ms z (eM i none es) (some (i,.os h.length)) it) ++ [.rows z rs])[j]? = some y →
   (j=id∧u = .map (some r)∧y = .ms z (eM i none es) (some (i,.os h.length)) it)∨(j=h.length∧u=e.val∧y = .rows z rs)∨(j≠id∧j<h.length∧ρ[j]? = some u∧h[j]? = some y):=by
  intro j u y g1 g2
  by_cases hj:j<h.length
  grind
  grind
 have iE:∀c,c∈eU (.map (some r)) (.ms z (eM i none es) (some (i,.os h.length)) it)→c∈eU (.map (some r)) (.ms z es none it)∧b≠some c:=by
  intro c hc;have hib:∀k' rs' j,j≠i→es[j]? = some (k',some (some c,rs'))→b≠some c:=λk' rs' j hj h8 e1=>hj (by subst e1;exact h4.1 _ _ _ _ _ _ _ h8 hi);rcases bR.1 hc with hc | hc
  ·refine ⟨bR.2 (.inl hc),λe1=>?_⟩;subst e1;simp only [fO,aE] at hc;subst hc;exact h4.2 (eI.2 ⟨i,k,rs,hi⟩)
  ·simp only [gh,aR] at hc;rcases hc with hc | hc
   ·rcases ly hc with ⟨j,k',rs',hj,h8⟩ | ⟨_,e1⟩
    ·exact ⟨bR.2 (.inr (by simp only [gh,aR];exact .inl (eI.2 ⟨j,k',rs',h8⟩))),hib k' rs' j hj h8⟩
    grind
   ·refine ⟨bR.2 (.inr (by simp only [gh,aR];grind)),λe1=>?_⟩;subst e1
    match it,hit,hc with
    |some (q,l),hit,hc=>
     simp only [Np,aL] at hc;subst hc;exact hit.2 (eI.2 ⟨i,k,rs,hi⟩)
 have new:∀c,c∈eU e.val (.rows z rs)→c∈eU (.map (some r)) (.ms z es none it)∧b=some c:=by
  intro c hc;have hc:=(fi).1 hc;rw [hb] at hc;subst hc;exact ⟨bR.2 (.inr (by simp only [gh,aR];exact .inl (eI.2 ⟨i,k,rs,hi⟩))),rfl⟩
 have hmono:∀(v:Value) (y:B),cY G w ρ v y→y≠.no→cY G w (ρ ++ [e.val]) v y:=λv y hy hn=>hy.mono (λ_ h=>h) (λ_ _=>rfl) (λ_ _=>rfl) (λj hj=>hpre j (hy.lt j hj));refine ⟨hO.view (ρ':= ρ ++ [e.val]) (λj u hu=>by grind) (by simp [hr.len]) (by simp) (λj u y g1 g2 g3=>?_) (λj u y c g1 g2 g3 g4=>?_),hC.df,hC.sz,λj=>(hC.tm j).mono (λ_ h=>h) (λ_ _=>rfl) (λq hq=>hpre q ((hC.tm j).lt q hq))⟩
 ·rcases get j u y g1 g2 with ⟨rfl,rfl,rfl⟩ | ⟨rfl,rfl,rfl⟩ | ⟨_,_,k1,k2⟩
  ·refine ⟨⟨r,arr,clk,rfl,h1,by rw [my];grind,h3,⟨tE h4.1 λb rs' e=>(by cases e),λhb=>?_⟩,λj e' x he' hj=>?_,λj v h=>?_,λj v e' h he'=>?_⟩,?_⟩
   ·rcases ly hb with ⟨j,k',rs',_,hj⟩ | ⟨rs',e⟩
    ·exact h4.2 (eI.2 ⟨j,k',rs',hj⟩)
    grind
   ·rw [fT] at hj
    grind
   ·cases h;rw [my];grind
   ·cases h;rw [he] at he';cases he';refine .k ?_;generalize e.val=u at hsl hnew;cases u<;>first | (cases hsl;done) | skip
    exact .os _ _ _ _ hnew
   ·match it,hit with
    |none,_=>trivial
    |some (q,l),hit=>
     refine ⟨?_,λhb=>?_⟩
     ·rw [←e0];exact hit.1
     rcases ly hb with ⟨j,k',rs',_,hj⟩ | ⟨rs',e⟩
     ·exact hit.2 (eI.2 ⟨j,k',rs',hj⟩)
     grind
  ·exact hrs
  ·exact hmono _ _ (hr.rep j u y k1 k2) g3
 ·rcases get j u y g1 g2 with ⟨rfl,rfl,rfl⟩ | ⟨rfl,rfl,rfl⟩ | ⟨hj,hjl,k1,k2⟩
  ·obtain ⟨o1,o2⟩:=iE c g4;refine ⟨j,_,_,hv,hx,by simp,o1,λj' u' y' q1 q2 q3 q4=>?_⟩;rcases get j' u' y' q1 q2 with ⟨rfl,rfl,rfl⟩ | ⟨rfl,rfl,rfl⟩ | ⟨_,_,p1,p2⟩
   rfl
   grind
   ·exact hr.oB j' j u' _ y' _ c p1 p2 q3 hv hx (by simp) q4 o1
  ·obtain ⟨o1,o2⟩:=new c g4;refine ⟨id,_,_,hv,hx,by simp,o1,λj' u' y' q1 q2 q3 q4=>?_⟩;rcases get j' u' y' q1 q2 with ⟨rfl,rfl,rfl⟩ | ⟨rfl,rfl,rfl⟩ | ⟨p0,_,p1,p2⟩
   grind
   rfl
   ·exact absurd (hr.oB j' id u' _ y' _ c p1 p2 q3 hv hx (by simp) q4 o1) p0
  ·refine ⟨j,u,y,k1,k2,g3,g4,λj' u' y' q1 q2 q3 q4=>?_⟩;rcases get j' u' y' q1 q2 with ⟨rfl,rfl,rfl⟩ | ⟨rfl,rfl,rfl⟩ | ⟨_,_,p1,p2⟩
   ·exact hr.oB j' j _ u _ y c hv hx (by simp) k1 k2 g3 (iE c q4).1 g4
   ·exact absurd (hr.oB id j _ u _ y c hv hx (by simp) k1 k2 g3 (new c q4).1 g4) (λe=>hj e.symm)
   ·exact hr.oB j' j u' u y' y c p1 p2 q3 k1 k2 g3 q4 g4
end
end Go.Vx
