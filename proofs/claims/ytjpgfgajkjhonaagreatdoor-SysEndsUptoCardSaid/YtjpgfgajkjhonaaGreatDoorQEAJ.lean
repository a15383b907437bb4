/- Iterators over maps: the operations. Conditions: none; lemmas on the definitions before. -/
import Derived.Test.YtjpgfgajkjhonaaGreatDoorQEAI
namespace Go.Vx
open Go.MapKept
section
variable {P:Program} {E:gC} {n:Nat} {G:Nat→Prop} {ρ ρ':List Value} {t:T} {h:H} {a:Act} {w:World} {o:Oper} {bU:Act→World→Prop} {Q:Exit→Act→World→Prop} {K KP:V→T→H→Prop}
variable (S:Nat→List V→H→(Out→H→Prop)→Prop) (ow:Nat→Bool)
theorem Ep (hC:an E n G ρ t h a w) (hn:iA E n a o K bU) {ty kt e ty2 t2:TypeId} {x k:Operand} {ok':O} {ks:List Nat} {id z:Nat} {es:List ME} (ho:o.op = .call { callee:=.builtin .delete,args:= #[x,k],argTypes:= #[ty,ty2] }) (hu:P.underlying ty=some (.map kt e)) (hvx:a_ G w ρ (a.eval x) (.mp id)) (hkk:cV P t2 k=some ok')
  (hks:wP P kt=some ks) (hx:h[id]? = some (.ms z es none none)) (hk:match Cj (gv t ok') with
    |some key=>Nat.beq (ks.headD 0) 9=true∧∃r,oY key es=r∧(match r with
     |some i=>K (.tu []) t (h.set id (.ms z (es.eraseIdx i) none none))
     |none=>K (.tu []) t h)
    |none=>False):o.wp P a w bU Q:=by
 have hvk:=bG hC hkk;have hexec:∀w',(Builtin.delete_ #[ty,ty2] o.type #[a.eval x,a.eval k]).run P w = .ok (.tuple #[]) w'→(execOp a.eval o).run P w = .ok (.value (.tuple #[])) w':=by
  intro w' hw;simp [execOp,ho,resolve,invoke,builtin,hw]
 obtain ⟨r,arr,clk,he,hρ,hb,hsz,hor,hr⟩:=vS hC hvx hx;obtain ⟨⟨r',arr0,clk0,e0,h1,h2,h3,h4,h5,h6,h7⟩,hit0⟩:=hC.ok.hr.rep id _ _ hρ hx;cases e0;rw [hb] at h1;cases h1;split at hk
 ·rename_i key hkey;obtain ⟨h9,rr,hi,hk⟩:=hk;subst hi;obtain ⟨fs,f,g,h9⟩:=J3 hks h9;rw [rp hkey] at hvk;have hf:=mg h9 (F2 hvk) (by simpa using hsz) hr;obtain ⟨s1,s2,hs,e1,e2⟩:=m_ hvk;have hck:=λb=>lD (w:=w) h9 s1 s2 b 9998;rw [←hs] at hck;cases hi:oY key es with
  |none=>
   rw [hi] at hk hf
   replace hf:(Instr.findKey kt (a.eval k) arr.toList).run P w = .ok none w:=hf
   refine aw hC hn (v':=.tuple #[]) (hexec _ ?_) (.tu #[] [] rfl (by simp)) hk;have hset:w.heap.setIfInBounds r (.map arr clk)=w.heap:=by
    apply Array.ext
    ·simp
    ·intro i h1 h2;rw [Array.getElem_setIfInBounds];split
     ·rename_i hi;subst hi;exact (aM.1 hb).2.symm
     ·rfl
   simp [Builtin.delete_,run_underlying hu,he,MapKept.run_getObj_map hb,hck,hf,MapKept.run_setObj_map _ hb,hset]
  |some i=>
   rw [hi] at hk hf;obtain ⟨hil,_,_⟩:=List.findIdx?_eq_some_iff_getElem.1 hi;have hia:i<arr.size:=by rw [hsz];exact hil
   replace hf:(Instr.findKey kt (a.eval k) arr.toList).run P w = .ok (some (i,arr[i].val)) w:=by
    rw [hf];simp [hia]
   have hge:∀(j:Nat) (y:ME),(es.eraseIdx i)[j]? = some y→es[if j<i then j else j+1]? = some y:=by
    intro j y hj;rw [List.getElem?_eraseIdx] at hj;split at hj
    ·rename_i h;rw [if_pos h];exact hj
    ·rename_i h;rw [if_neg h];exact hj
   have hC2:=hC.La (es':=es.eraseIdx i) (out':=none) (it':=none) (arr':=arr.eraseIdxIfInBounds i) (clk':=clk) hρ hx hb (by
     rw [Array.eraseIdxIfInBounds,dif_pos hia,List.length_eraseIdx];simp [←hsz,hia]) (uF hor) (λb hb2=>by
     obtain ⟨j,k',rs',hj⟩:=eE.1 hb2;exact eE.2 ⟨_,k',rs',hge _ _ hj⟩) (λi' j k1 k2 rs1 rs2 b g1 g2=>by
     have:=h4.1 _ _ k1 k2 rs1 rs2 b (hge _ _ g1) (hge _ _ g2);split at this<;>split at this<;>omega) (λj e' y he' hj=>by
     have hj':=hge j y hj;rw [Array.eraseIdxIfInBounds,dif_pos hia,Array.getElem?_eraseIdx] at he';split at he'
     ·rename_i h;rw [if_pos h] at hj';exact h5 _ e' y he' hj'
     ·rename_i h;rw [if_neg h] at hj';exact h5 _ e' y he' hj') (λj u h=>by cases h) (λj u e h=>by cases h) (.inl rfl)
   refine dS (hexec _ ?_) (hn _ _ _ _ _ _ _ hC2 (.tu #[] [] rfl (by simp)) hk);simp [Builtin.delete_,run_underlying hu,he,MapKept.run_getObj_map hb,hck,hf,MapKept.run_setObj_map _ hb]
 ·exact hk.elim
theorem wz {arr:Array MapEntry} {clk m r:Nat} {w:World} (hb:w.heap[m]? = some (.map arr clk)) (hr:w.heap[r]? = some (.mapIter (some m) clk #[] clk)) (hne:m≠r) {k:Nat} (hk:arr.size=k):nT w (.map (some m)) r (List.range k,none):=by
 refine ⟨m,arr,clk,#[],rfl,hb,hne,hr,List.nodup_range,λi=>?_,λi h=>by cases h⟩;subst hk;constructor
 ·intro hi;have hi:i<arr.size:=by simpa using hi
  exact ⟨arr[i],aI hi,by simp⟩
 ·rintro ⟨e,h1,_⟩
  simpa using (aM.1 h1).1
theorem Pv (hC:an E n G ρ t h a w) (hn:iA E n a o K bU) {ty kt e t1:TypeId} {x:Operand} {ox:O} (ho:o.op = .range ty x) (hu:P.underlying ty=some (.map kt e)) (hx:cV P t1 x=some ox) (hk:bu S ow (.rg ox) t h K KP):o.wp P a w bU Q:=by
 have hvx:=bG hC hx;have run:∀{m clk:Nat} {arr:Array MapEntry},a.eval x = .map (some m)→w.heap[m]? = some (.map arr clk)→(execOp a.eval o).run P w = .ok (.value (.pointer (some ⟨w.heap.size,0,none⟩))) (w.alloc (.mapIter (some m) clk #[] clk)):=by
  intro m clk arr he hb;simp only [execOp,ho];refine cA ?_;simp [Instr.range,run_underlying hu,he,MapKept.run_getObj_map hb]
 simp only [bu] at hk;split at hk
 ·rename_i id hg;rw [hg] at hvx;rw [get?_eq] at hk;split at hk
  ·rename_i es hes;generalize hax:a.eval x=v at hvx;cases hvx with | o hv=>cases hv with | c hv=>cases hv with | k hv=>cases hv with | mp _ m hρ =>
   obtain ⟨m',arr,clk,e0,h1,h2,h3,h4⟩:=hC.ok.hr.rep id _ _ hρ hes;cases e0;have hk:=hk w.heap.size;simp only [bh,cX] at hk;have hg:=gO.alloc w (.mapIter (some m) clk #[] clk);have hlt:=(aM.1 h1).1;have hrep:l6 G w ρ (.map (some m)) (ga es):=⟨m,arr,clk,rfl,h1,h2,h3,h4⟩
   have hC':=hC.qz (w':=w.alloc (.mapIter (some m) clk #[] clk)) (x1:=.di es w.heap.size (List.range es.length,none)) hρ hes (by simp) hg.size (λb hb _=>hg.gu b hb) hg.os hg.tape hg.out
    ⟨hrep.mono (λ_ h=>h) (λb hb=>hg.gu b (hC.ok.hr.gl b hb)) (λb hb=>by cases hb;exact hg.gu _ hlt) (λ_ _=>rfl),wz ((hg.gu m hlt).trans h1) (heap_alloc_new w _) (by omega) (by rw [h2];exact aL _)⟩
    (λb hb=>by simp only [gh,aO] at hb;subst hb;exact .inr (aQ _))
   exact dS (run hax h1) (hn _ _ _ _ _ _ _ hC' (.k (.it id _ m hρ)) hk)
  ·obtain ⟨t,h,hC,hk⟩:=um hC hk;rw [get?_eq] at hk;split at hk
   ·rename_i z es hes;generalize hax:a.eval x=v at hvx;cases hvx with | o hv=>cases hv with | c hv=>cases hv with | k hv=>cases hv with | mp _ m hρ =>
    obtain ⟨hms,_⟩:=hC.ok.hr.rep id _ _ hρ hes;obtain ⟨m',arr,clk,e0,h1,h2,h3,h4⟩:=have:=hms;this;cases e0;have hk:=hk w.heap.size;simp only [bh,cX] at hk;have hg:=gO.alloc w (.mapIter (some m) clk #[] clk);have hlt:=(aM.1 h1).1;have hgl:∀b,b∈Cz es→b<w.heap.size:=λb hb=>hC.ok.hr.lt hρ hes (by simp) (bS.2 (.inr (by simp only [gh,aT];exact .inl hb)));have hC':=hC.qz (w':=w.alloc (.mapIter (some m) clk #[] clk)) (x1:=.ms z es none (some (w.heap.size,List.range es.length,none))) hρ hes (by simp) hg.size (λb hb _=>hg.gu b hb) hg.os hg.tape hg.out
     ⟨hms.mono (λ_ h=>h) (λb hb=>hg.gu b (hC.ok.hr.gl b hb)) (λb hb=>by cases hb;exact hg.gu _ hlt) (λb hb=>hg.gu b (hgl b hb)) (λi v h=>by cases h),wz ((hg.gu m hlt).trans h1) (heap_alloc_new w _) (by omega) h2,λhb=>by have:=hgl _ hb;omega⟩
     (λb hb=>by
      simp only [gh,LH,aT,aO] at hb;rcases hb with hb | rfl
      ·exact .inl (bS.2 (.inr (by simp only [gh,aT];exact .inl hb)))
      ·exact .inr (aQ _))
    exact dS (run hax h1) (hn _ _ _ _ _ _ _ hC' (.k (.it id _ m hρ)) hk)
   ·exact hk.elim
  ·exact hk.elim
 ·exact hk.elim
theorem BM {v:Value} {r:Nat} {l:List Nat} {c:Option Nat} {m clk:Nat} {arr:Array MapEntry} (hit:nT w v r (l,c)) (hv:v = .map (some m)) (hb:w.heap[m]? = some (.map arr clk)) (hor:ord arr clk) (ty:TypeId) :
  (l = []∧(Instr.next (.pointer (some ⟨r,0,none⟩)) false ty).run P w = .ok (.tuple #[.bool false]) w) ∨
  ∃i e w',i∈l∧arr[i]? = some e∧(Instr.next (.pointer (some ⟨r,0,none⟩)) false ty).run P w = .ok (.tuple #[.bool true,e.key,e.val]) w'∧w'.heap.size=w.heap.size∧(∀b,b≠r→w'.heap[b]? = w.heap[b]?)∧w'.os=w.os∧w'.tape=w.tape∧w'.output=w.output∧nT w' v r (l.erase i,some i):=by
 subst hv;obtain ⟨m',arr',clk',seen,e0,g1,g2,g3,g6,g7,_⟩:=hit;cases e0;rw [hb] at g1;cases g1;have hold:∀x∈arr.toList,x.born<clk:=λx hx=>hor.1 x hx;rcases run_next_at (P:=P) w ty r m clk clk seen arr clk g3 hb hold (aQ _) with ⟨h1,h2⟩ | ⟨e,he,w1,hw1,hrun⟩
 ·left;refine ⟨?_,h2⟩;cases l with
  |nil=>rfl
  |cons i l=>
   obtain ⟨e,h3,h4⟩:=(g7 i).1 (by simp);have:e∈leftOf arr seen:=by
    unfold leftOf;rw [Array.mem_filter];exact ⟨gW h3,by simp only [h4,Bool.not_false]⟩
   have h5:=Array.size_pos_of_mem this;omega
 ·right;have he':e∈leftOf arr seen:=by simpa using he
  unfold leftOf at he';rw [Array.mem_filter] at he';obtain ⟨h1,h2⟩:=he';obtain ⟨i,hi⟩:=Array.getElem?_of_mem h1;have hs:seen.contains e.born=false:=by simpa using h2
  have hw:w1.heap=w.heap∧w1.os=w.os∧w1.tape=w.tape∧w1.output=w.output:=by
   rcases hw1 with rfl | rfl<;>exact ⟨rfl,rfl,rfl,rfl⟩
  obtain ⟨q1,q2,q3,q4⟩:=hw;have hrl:r<w.heap.size:=(aM.1 g3).1;have hsb:∀b,b≠r→(ChangeMaps.setBlock w1 r (.mapIter (some m) clk (seen.push e.born) clk)).heap[b]? = w.heap[b]?:=λb hb=>by
   simp only [ChangeMaps.setBlock,q1];rw [cU,if_neg (λe=>hb e.symm)]
  refine ⟨i,e,_,(g7 i).2 ⟨e,hi,hs⟩,hi,hrun,by simp [ChangeMaps.setBlock,q1],hsb,q2,q3,q4,?_⟩;refine ⟨m,arr,clk,seen.push e.born,rfl,(hsb m g2).trans hb,g2,?_,g6.erase _,λj=>?_,λj hj=>⟨e,seen,by cases hj;exact hi,rfl⟩⟩
  ·simp only [ChangeMaps.setBlock,q1];rw [cU,if_pos rfl,if_pos hrl]
  ·show j∈l.erase i↔_;rw [g6.mem_erase_iff,g7 j];constructor
   ·rintro ⟨hj,e',h3,h4⟩
    refine ⟨e',h3,?_⟩;rw [Array.contains_push,h4,Bool.false_or,beq_eq_false_iff_ne];intro hbn;refine hj ?_;have hp:=hor.2;have l1:(arr.toList.map (·.born))[j]? = some e'.born:=by simp [h3]
    have l2:(arr.toList.map (·.born))[i]? = some e.born:=by simp [hi]
    rcases fP i j with hlt | rfl | hlt
    ·have:=List.pairwise_iff_getElem.1 hp i j (aA.1 l2).1 (aA.1 l1).1 hlt;rw [(aA.1 l1).2,(aA.1 l2).2] at this;omega
    ·rfl
    ·have:=List.pairwise_iff_getElem.1 hp j i (aA.1 l1).1 (aA.1 l2).1 hlt;rw [(aA.1 l1).2,(aA.1 l2).2] at this;omega
   ·rintro ⟨e',h3,h4⟩
    rw [Array.contains_push,kq,beq_eq_false_iff_ne] at h4;refine ⟨λe1=>?_,e',h3,h4.1⟩;subst e1;rw [hi] at h3;cases h3;exact h4.2 rfl
theorem Py (hC:an E n G ρ t h a w) (hn:iA E n a o K bU) {t1:TypeId} {x:Operand} {ox:O} (ho:o.op = .next x false) (hx:cV P t1 x=some ox) (hk:bu S ow (.nx ox) t h K KP):o.wp P a w bU Q:=by
 have hvx:=bG hC hx;have run:∀{v':Value} {w':World} {r:Nat},a.eval x = .pointer (some ⟨r,0,none⟩)→(Instr.next (.pointer (some ⟨r,0,none⟩)) false o.type).run P w = .ok v' w'→(execOp a.eval o).run P w = .ok (.value v') w':=by
  intro v' w' r he hr;simp only [execOp,ho];refine cA ?_;rw [he];exact hr
 simp only [bu] at hk;split at hk
 ·rename_i id r hg;rw [hg] at hvx;have hvx:a.eval x = .pointer (some ⟨r,0,none⟩):=by
   generalize a.eval x=v at hvx;cases hvx with | o hv=>cases hv with | c hv=>cases hv with | k hv=>cases hv;rfl
  rw [get?_eq] at hk;split at hk
  ·rename_i es r' l c hes;obtain ⟨rfl,hk1,hk2⟩:=hk;have hil:id<ρ.length:=by rw [hC.ok.hr.len];exact (aA.1 hes).1
   have hρ :=aB hil;obtain ⟨hM,hI⟩:=hC.ok.hr.rep id _ _ hρ hes;obtain ⟨m,arr,clk,e0,h1,h2,h3,h4⟩:=have:=hM;this;have hmr:m≠r:=by
    obtain ⟨m',_,_,_,e1,_,e2,_⟩:=hI;rw [e0] at e1;cases e1;exact e2
   rcases BM (P:=P) hI e0 h1 h3 o.type with ⟨hl,hr⟩ | ⟨i,e,w',hi,he,hr,hs,hsame,h5,h6,h7,hI'⟩
   ·have hk:=hk1 hl;simp only [bh] at hk;exact dS (run hvx hr) (hn _ _ _ _ _ _ _ (hC.TB (x1:=.dm es) hes (by simp) (λv _ hv=>hv.1) (λb hb=>by cases hb)) (.tu #[.bool false] _ rfl (λj y hy=>by
     match j,hy with
     |0,hy=>cases hy;exact .c (.k (.d (.bool false))))) hk)
   ·have hk:=hk2 i hi;simp only [bh] at hk;have hgr:¬G r:=λhg=>hC.ok.hr.gd r hg ⟨id,_,_,hρ,hes,by simp,bS.2 (.inr (aO.2 rfl))⟩;have hGs:∀b,G b→w'.heap[b]? = w.heap[b]?:=λb hb=>hsame b (λe=>hgr (e ▸ hb));have hC':=hC.qz (w':=w') (x1:=.di es r (l.erase i,some i)) hρ hes (by simp) (by omega) (λb _ hb=>hsame b (λe=>hb (bS.2 (.inr (aO.2 e))))) h5 h6 h7
     ⟨hM.mono (λ_ h=>h) hGs (λb hb=>by rw [e0] at hb;cases hb;exact hsame _ hmr) (λ_ _=>rfl),hI'⟩ (λb hb=>.inl (bS.2 (.inr hb)))
    refine dS (run hvx hr) (hn _ _ _ _ _ _ _ hC' (.tu #[.bool true,e.key,e.val] _ rfl (λj y hy=>?_)) hk)
    match j,hy with
    |0,hy=>cases hy;exact .c (.k (.d (.bool true)))
    |1,hy=>cases hy;exact .c (.k (.un _))
    |2,hy=>cases hy;exact .c (.k (.un _))
  ·obtain ⟨t,h,hC,hk⟩:=um hC hk;rw [get?_eq] at hk;split at hk
   ·rename_i z es r' l c hes;obtain ⟨rfl,hk1,hk2⟩:=hk;have hil:id<ρ.length:=by rw [hC.ok.hr.len];exact (aA.1 hes).1
    have hihl:id<h.length:=(aA.1 hes).1;have hρ :=aB hil;obtain ⟨hM,hI,hrE⟩:=hC.ok.hr.rep id _ _ hρ hes;obtain ⟨m,arr,clk,e0,h1,h2,h3,h4,hent,_⟩:=have:=hM;this;have hmr:m≠r:=by
     obtain ⟨m',_,_,_,e1,_,e2,_⟩:=hI;rw [e0] at e1;cases e1;exact e2
    rcases BM (P:=P) hI e0 h1 h3 o.type with ⟨hl,hr⟩ | ⟨i,e,w',hi,he,hr,hs,hsame,h5,h6,h7,hI'⟩
    ·have hk:=hk1 hl;simp only [bh] at hk;exact dS (run hvx hr) (hn _ _ _ _ _ _ _ (hC.TB (x1:=.ms z es none none) hes (by simp) (λv _ hv=>⟨hv.1,trivial⟩) (λb hb=>by simp only [gh,LH,cO] at hb;simp only [gh,aT];exact .inl hb)) (.tu #[.bool false] _ rfl (λj y hy=>by
      match j,hy with
      |0,hy=>cases hy;exact .c (.k (.d (.bool false))))) hk)
    ·have hk:=hk2 i hi;simp only [bh] at hk;have hbr:r∈eO ρ[id] (.ms z es none (some (r,l,c))):=bS.2 (.inr (by simp [gh,LH]));have hgr:¬G r:=λhg=>hC.ok.hr.gd r hg ⟨id,_,_,hρ,hes,by simp,hbr⟩;have hGs:∀b,G b→w'.heap[b]? = w.heap[b]?:=λb hb=>hsame b (λe=>hgr (e ▸ hb));have hC':=hC.qz (w':=w') (x1:=.ms z es none (some (r,l.erase i,some i))) hρ hes (by simp) (by omega) (λb _ hb=>hsame b (λe=>hb (e ▸ hbr))) h5 h6 h7
      ⟨hM.mono (λ_ h=>h) hGs (λb hb=>by rw [e0] at hb;cases hb;exact hsame _ hmr) (λb hb=>hsame b (λe=>hrE (e ▸ hb))) (λi v h=>by cases h),hI',hrE⟩ (λb hb=>.inl (bS.2 (.inr hb)))
     refine dS (run hvx hr) (hn _ _ _ _ _ _ _ hC' (.tu #[.bool true,e.key,e.val] _ rfl (λj y hy=>?_)) hk)
     match j,hy with
     |0,hy=>cases hy;exact .c (.k (.d (.bool true)))
     |1,hy=>cases hy;exact .c (.k (.un _))
     |2,hy=>cases hy;exact .c (.k (.un _))
   ·exact hk.elim
  ·exact hk.elim
 ·exact hk.elim
theorem LF {v:Value} {r i:Nat} {l:List Nat} {m clk:Nat} {arr:Array MapEntry} (hit:nT w v r (l,some i)) (hv:v = .map (some m)) (hb:w.heap[m]? = some (.map arr clk)) (hor:ord arr clk) :
  ∃e,arr[i]? = some e∧(Instr.entry (.pointer (some ⟨r,0,none⟩))).run P w = .ok (.tuple #[e.key,e.val]) w:=by
 subst hv;obtain ⟨m',arr',clk',seen,e0,g1,g2,g3,g6,g7,g8⟩:=hit;cases e0;rw [hb] at g1;cases g1;obtain ⟨e,s,h1,rfl⟩:=g8 i rfl;exact ⟨e,h1,run_entry_at w r m clk s arr clk e g3 hb (by simpa using gW h1) (hor.2.imp λh=>Nat.ne_of_lt h)⟩
theorem QU (hC:an E n G ρ t h a w) (hn:iA E n a o K bU) {t1:TypeId} {x:Operand} {ox:O} (ho:o.op = .entry x) (hx:cV P t1 x=some ox) (hk:bu S ow (.en ox) t h K KP):o.wp P a w bU Q:=by
 have hvx:=bG hC hx;have run:∀{v':Value} {r:Nat},a.eval x = .pointer (some ⟨r,0,none⟩)→(Instr.entry (.pointer (some ⟨r,0,none⟩))).run P w = .ok v' w→(execOp a.eval o).run P w = .ok (.value v') w:=by
  intro v' r he hr;simp only [execOp,ho];refine cA ?_;rw [he];exact hr
 simp only [bu] at hk;split at hk
 ·rename_i id r hg;rw [hg] at hvx;have hvx:a.eval x = .pointer (some ⟨r,0,none⟩):=by
   generalize a.eval x=v at hvx;cases hvx with | o hv=>cases hv with | c hv=>cases hv with | k hv=>cases hv;rfl
  rw [get?_eq] at hk;split at hk
  ·rename_i es r' l i hes;obtain ⟨e,⟨rfl,hi⟩,hk⟩:=hk;have hil:id<ρ.length:=by rw [hC.ok.hr.len];exact (aA.1 hes).1
   have hρ :=aB hil;obtain ⟨hM,hI⟩:=hC.ok.hr.rep id _ _ hρ hes;obtain ⟨m,arr,clk,e0,h1,h2,h3,h4⟩:=hM;obtain ⟨u,he,hr⟩:=LF (P:=P) hI e0 h1 h3;have hm:(ga es)[i]? = some (.d e.1,K3 e.2):=by simp [ga,hi]
   obtain ⟨k1,k2⟩:=h4 i u _ he hm;refine aw hC hn (run hvx hr) (.tu #[u.key,u.val] _ rfl (λj y hy=>?_)) hk
   match j,hy with
   |0,hy=>cases hy;exact k1
   |1,hy=>cases hy;exact k2
  ·rename_i z es r' l i hes;obtain ⟨k,b,rs,⟨rfl,hi⟩,hk⟩:=hk;simp only [bh,cX] at hk;obtain ⟨m,arr,clk,e,q1,q2,q3,q4,hC2⟩:=hC.taken hes hi;obtain ⟨⟨m',arr',clk',e0,h1,h2,h3,h4,hent,_⟩,hI,hrE⟩:=hC.ok.hr.rep id _ _ q1 hes;cases e0;rw [q2] at h1;cases h1;obtain ⟨u,he,hr⟩:=LF (P:=P) hI rfl q2 h3;rw [q3] at he;cases he;have hkr:=(hent i e _ q3 hi).1;have hl:=hC.ok.hr.len;refine dS (w':=w) (run hvx hr) (hn _ _ _ _ _ _ _ hC2 (.tu #[e.key,e.val] _ rfl (λj y hy=>?_)) hk)
   match j,hy with
   |0,hy=>cases hy;exact hkr.mono (λ_ h=>h) (λ_ _=>rfl) (λi hi=>by rw [z8] at hi;cases hi)
   |1,hy=>
    cases hy;generalize e.val=u at q4 ⊢;cases u<;>first | (cases q4;done) | skip
    exact .c (.k (.os _ _ _ _ (by rw [←hl];simp)))
  ·exact hk.elim
 ·exact hk.elim
end
end Go.Vx
namespace Go.Vx
open Go.MapKept
section
variable {P:Program} {E:gC} {n:Nat} {G:Nat→Prop} {ρ:List Value} {t:T} {h:H} {a:Act} {w:World} {o:Oper} {bU:Act→World→Prop} {Q:Exit→Act→World→Prop} {K KP:V→T→H→Prop}
variable (S:Nat→List V→H→(Out→H→Prop)→Prop) (ow:Nat→Bool)
theorem vY {j k:IntKind} (h:Nat.beq (kn j) (kn k)=true):j=k:=by revert h;cases j<;>cases k<;>simp [kn]
theorem lM {ks:List Nat} {x:V} (h:kb ks x=true):(∃j k n,ks = [0,j]∧x = .d (.int k n)∧Nat.beq (kn k) j=true)∨(∃b,ks = [1]∧x = .d (.bool b))∨(∃s,ks = [2]∧x = .d (.str s)):=by
 unfold kb at h;split at h
 ·exact .inl ⟨_,_,_,rfl,rfl,h⟩
 ·exact .inr (.inl ⟨_,rfl,rfl⟩)
 ·exact .inr (.inr ⟨_,rfl,rfl⟩)
 ·cases h
theorem o4 {kt:TypeId} {ks:List Nat} (hks:wP P kt=some ks):(∃k,P.underlying kt=some (.int k)∧ks = [0,kn k])∨(P.underlying kt=some .bool∧ks = [1])∨(P.underlying kt=some .string∧ks = [2])∨ks = [9]:=by
 unfold wP at hks;split at hks
 ·cases hks;exact .inl ⟨_,‹_›,rfl⟩
 ·cases hks;exact .inr (.inl ⟨‹_›,rfl⟩)
 ·cases hks;exact .inr (.inr (.inl ⟨‹_›,rfl⟩))
 ·split at hks
  ·split at hks
   ·cases hks;exact .inr (.inr (.inr rfl))
   ·cases hks
  ·cases hks
 ·cases hks
theorem vZ {kt:TypeId} {ks:List Nat} (hks:wP P kt=some ks) {v:Value} {x:V} (hb:kb ks x=true) (hv:a_ G w ρ v x):∃d,P.underlying kt=some d∧IsKey d v:=by
 rcases o4 hks with ⟨k,hd,rfl⟩ | ⟨hd,rfl⟩ | ⟨hd,rfl⟩ | rfl
 case inr.inr.inr=>cases x<;>cases hb
 all_goals refine ⟨_,hd,?_⟩
 all_goals rcases lM hb with ⟨j,k',n,e,rfl,hj⟩ | ⟨b,e,rfl⟩ | ⟨s,e,rfl⟩<;>simp at e<;>try (cases e;done)
 ·subst e;rw [hv.int];exact vY hj
 ·rw [hv.bool];trivial
 ·obtain ⟨sv,rfl,_⟩:=hv.str;trivial
theorem U5 {kt:TypeId} {ks:List Nat} {d:TypeDesc} (hks:wP P kt=some ks) (hd:P.underlying kt=some d) {v u:Value} {x y:V} {b:Bool} (hx:kb ks x=true) (hy:kb ks y=true) (hv:a_ G w ρ v x) (hu:a_ G w ρ u y)
  (he:pB (ks.take 1) x.cs y.cs=some b):Instr.sameNow d v u=some b∧(b=true→v=u):=by
 rcases lM hx with ⟨j,k,m,rfl,rfl,hj⟩ | ⟨b1,rfl,rfl⟩ | ⟨s1,rfl,rfl⟩<;>rcases lM hy with ⟨j',k',m',e,rfl,hj'⟩ | ⟨b2,e,rfl⟩ | ⟨s2,e,rfl⟩<;>simp at e<;>try (cases e;done)
 ·subst e;rcases o4 hks with ⟨kk,hd',e⟩ | ⟨_,e⟩ | ⟨_,e⟩ | e<;>simp at e
  rw [hd] at hd';cases hd';subst e;obtain rfl:=vY hj;obtain rfl:=vY hj';rw [hv.int,hu.int];have hkk:∀q:IntKind,Nat.beq (kn q) (kn q)=true:=λq=>by cases q<;>rfl
  simp only [V.cs,dT,List.take_zero,pB,Fz,hkk,cond_true,dc,aF] at he;subst he;simp [Instr.sameNow]
 ·rcases o4 hks with ⟨kk,hd',e⟩ | ⟨hd',e⟩ | ⟨_,e⟩ | e<;>simp at e
  rw [hd] at hd';cases hd';rw [hv.bool,hu.bool];simp only [V.cs,dT,List.take_zero,pB,Fz,dc,aF] at he;subst he;simp [Instr.sameNow]
 ·rcases o4 hks with ⟨kk,hd',e⟩ | ⟨hd',e⟩ | ⟨hd',e⟩ | e<;>simp at e
  rw [hd] at hd';cases hd';obtain ⟨v1,rfl,rfl,_⟩:=hv.str;obtain ⟨u1,rfl,rfl,_⟩:=hu.str;simp only [V.cs,dT,List.take_zero,pB,Fz,dc,aF] at he;subst he;have e1:(v1==u1)=(v1.data.toList==u1.data.toList):=by
   rw [Bool.eq_iff_iff,bytes_beq,beq_iff_eq];constructor
   ·rintro rfl;rfl
   ·intro h;obtain ⟨⟨l⟩⟩:=v1;obtain ⟨⟨l'⟩⟩:=u1;simp only at h;rw [h]
  refine ⟨by simp only [Instr.sameNow,e1],λh=>?_⟩;rw [←e1,bytes_beq] at h;rw [h]
theorem zr {kt:TypeId} {ks:List Nat} {d:TypeDesc} (hks:wP P kt=some ks) (hd:P.underlying kt=some d) {k:Value} {kx:V} (hk:a_ G w ρ k kx) (hkb:kb ks kx=true) :
    ∀(es:List (V×V)) (l:List MapEntry) (i:Nat) (r:Option (Nat×V)),l.length=es.length→(∀(j:Nat) (e:MapEntry) (x:V×V),l[j]? = some e→es[j]? = some x→dL G w ρ e.key x.1∧dL G w ρ e.val x.2)→pI ks kx.cs es i=some r →
      match r with
      |none=>Instr.findNow d k l i=some none
      |some (j,y)=>∃m e x,j=i+m∧l[m]? = some e∧es[m]? = some x∧x.2=y∧e.key=k∧Instr.findNow d k l i=some (some (j,e.val)):=by
  intro es
  induction es with
  |nil=>
    intro l i r hl _ hf
    cases l with
    |cons _ _=>simp at hl
    |nil=>cases hf;rfl
  |cons x es ih=>
    intro l i r hl hr hf
    cases l with
    |nil=>simp at hl
    |cons e l=>
      have h0:=hr 0 e x rfl rfl
      simp only [pI] at hf
      cases hkx:kb ks x.1<;>rw [hkx] at hf
      · cases hf
      simp only [cond_true] at hf
      split at hf
      · rename_i b hb
        obtain ⟨g1,g2⟩:=U5 hks hd hkb hkx hk (.o h0.1) hb
        cases b
        · simp only [cond_false] at hf
          have:=ih l (i+1) r (by simpa using hl) (λj e' x' he hx=>hr (j+1) e' x' (by simpa using he) (by simpa using hx)) hf
          cases r with
          |none=>simp only at this ⊢;simp only [Instr.findNow,g1,this]
          |some p=>
            obtain ⟨p1,p2⟩:=p
            obtain ⟨m,e',x',hp,h1,h2,h3,h4,h5⟩:=this
            exact ⟨m+1,e',x',by omega,by simpa using h1,by simpa using h2,h3,h4,by simp only [Instr.findNow,g1,h5]⟩
        · simp only [cond_true,aF] at hf
          subst hf
          exact ⟨0,e,x,rfl,rfl,rfl,rfl,(g2 rfl).symm,by simp only [Instr.findNow,g1]⟩
      · cases hf
theorem rX (hC:an E n G ρ t h a w) {v:Value} {id:Nat} {es:List (V×V)} (hv:a_ G w ρ v (.mp id)) (hx:h[id]? = some (.mp es)) :
  ∃r arr clk,v = .map (some r)∧ρ[id]? = some (.map (some r))∧w.heap[r]? = some (.map arr clk)∧arr.size=es.length∧ord arr clk∧∀(i:Nat) (e:MapEntry) (x:V×V),arr[i]? = some e→es[i]? = some x→dL G w ρ e.key x.1∧dL G w ρ e.val x.2:=by
 cases hv with | o hv=>cases hv with | c hv=>cases hv with | k hv=>cases hv with | mp _ r hρ =>
 obtain ⟨r',arr,clk,e,h1,h2,h3,h4⟩:=hC.ok.hr.rep id _ _ hρ hx;cases e;exact ⟨r,arr,clk,rfl,hρ,h1,h2,h3,h4⟩
theorem sQ (hC:an E n G ρ t h a w) {v:Value} {id:Nat} {es:List (D×Bool×List D)} (hv:a_ G w ρ v (.mp id)) (hx:h[id]? = some (.dm es)) :
  ∃r arr clk,v = .map (some r)∧ρ[id]? = some (.map (some r))∧w.heap[r]? = some (.map arr clk)∧arr.size=(ga es).length∧ord arr clk∧∀(i:Nat) (e:MapEntry) (x:V×V),arr[i]? = some e→(ga es)[i]? = some x→dL G w ρ e.key x.1∧dL G w ρ e.val x.2:=by
 cases hv with | o hv=>cases hv with | c hv=>cases hv with | k hv=>cases hv with | mp _ r hρ =>
 obtain ⟨r',arr,clk,e,h1,h2,h3,h4⟩:=hC.ok.hr.rep id _ _ hρ hx;cases e;exact ⟨r,arr,clk,rfl,hρ,h1,h2,h3,h4⟩
theorem GJ (hC:an E n G ρ t h a w) {v:Value} {id r:Nat} {l:It} {es:List (D×Bool×List D)} (hv:a_ G w ρ v (.mp id)) (hx:h[id]? = some (.di es r l)) :
  ∃r arr clk,v = .map (some r)∧ρ[id]? = some (.map (some r))∧w.heap[r]? = some (.map arr clk)∧arr.size=(ga es).length∧ord arr clk∧∀(i:Nat) (e:MapEntry) (x:V×V),arr[i]? = some e→(ga es)[i]? = some x→dL G w ρ e.key x.1∧dL G w ρ e.val x.2:=by
 cases hv with | o hv=>cases hv with | c hv=>cases hv with | k hv=>cases hv with | mp _ r hρ =>
 obtain ⟨⟨r',arr,clk,e,h1,h2,h3,h4⟩,_⟩:=hC.ok.hr.rep id _ _ hρ hx;cases e;exact ⟨r,arr,clk,rfl,hρ,h1,h2,h3,h4⟩
theorem Ai {v:Value} {x:V} (hv:a_ G w ρ v x) (hs:CH x=true):dL G w ρ v x:=by
 cases hv with
 |o h=>exact h
 |tu=>cases hs
theorem EW {ks:List Nat} {v:Value} {x:V} (hv:a_ G w ρ v x) (hs:kb ks x=true):dL G w ρ v x:=by
 rcases lM hs with ⟨_,_,_,_,rfl,_⟩ | ⟨_,_,rfl⟩ | ⟨_,_,rfl⟩<;>exact .c (.k (.d hv.qL))
theorem J9 (k:Nat):eZ (Gw k) = []:=by
 match k with
 |0=>rfl
 |1=>rfl
 |_+2=>rfl
theorem FE (k:Nat):gh (Gw k) = []:=by
 match k with
 |0=>rfl
 |1=>rfl
 |_+2=>rfl
theorem BC (k:Nat) {m:Nat} (hm:w.heap[m]? = some (.map #[] 0)):cW G w ρ (.map (some m)) (Gw k):=by
 have h0:l6 G w ρ (.map (some m)) []:=⟨m,#[],0,rfl,hm,rfl,⟨by simp,by simp⟩,by simp⟩
 match k with
 |0=>exact h0
 |1=>exact h0
 |z+2=>exact ⟨⟨m,#[],0,rfl,hm,rfl,⟨by simp,by simp⟩,⟨λi j k k' rs rs' b h=>by simp at h,by simp [Cz]⟩,λi e x h=>by simp at h,(λi v h=>by cases h),λi v e h=>by cases h⟩,trivial⟩
theorem QC (hC:an E n G ρ t h a w) (hn:iA E n a o K bU) {ty:TypeId} {pl:Nat} (ho:o.op = .makeMap ty none) (hk:bu S ow (.mm pl) t h K KP):o.wp P a w bU Q:=by
 simp only [bu,bh,cX] at hk;have hC2:=hC.push (gO.alloc w (.map #[] 0)) (.map (some w.heap.size)) (Gw pl) (by intro b hb;simp only [fh,aF] at hb;omega) (BC pl (heap_alloc_new w _)) (FE pl);refine dS (v':=.map (some w.heap.size)) ?_ (hn _ _ _ _ _ _ _ hC2 (.k (.mp h.length _ (by rw [←hC.ok.hr.len];simp))) hk);simp only [execOp,ho];exact cA (by simp [Instr.makeMap])
theorem QD (hC:an E n G ρ t h a w) (hn:iA E n a o K bU) {ty kt e t1 t2:TypeId} {x k:Operand} {ox ok':O} {ks:List Nat} {zv:V} {ok:Bool} (ho:o.op = .lookup ty x k ok) (hu:P.underlying ty=some (.map kt e)) (hx:cV P t1 x=some ox) (hkk:cV P t2 k=some ok')
  (hks:wP P kt=some ks) (hz:yM P e=some zv) (hk:bu S ow (.ml ox ok' ks zv ok) t h K KP):o.wp P a w bU Q:=by
 have hvx:=bG hC hx;have hvk:=bG hC hkk;obtain ⟨z,hz1,hz2,_⟩:=ub (P:=P) (G:=G) (w:=w) (ρ := ρ) hz;have tup:∀(v:Value) (y:V) (b:Bool),dL G w ρ v y→a_ G w ρ (if ok then .tuple #[v,.bool b] else v) (bif ok then .tu [y,.d (.bool b)] else y):=by
  intro v y b hv;cases ok
  ·exact .o hv
  ·refine .tu #[v,.bool b] _ rfl (λi x hx=>?_)
   match i,hx with
   |0,hx=>cases hx;exact hv
   |1,hx=>cases hx;exact .c (.k (.d (.bool b)))
 have key:∀(id:Nat) (es:List (V×V)),(∃r arr clk,a.eval x = .map (some r)∧ρ[id]? = some (.map (some r))∧w.heap[r]? = some (.map arr clk)∧arr.size=es.length∧ord arr clk∧∀(i:Nat) (e:MapEntry) (x:V×V),arr[i]? = some e→es[i]? = some x→dL G w ρ e.key x.1∧dL G w ρ e.val x.2) →
   (kb ks (gv t ok')=true∧∃r,pI ks (gv t ok').cs es 0=some r∧(match r with
    |some (_,v)=>(CH v=true)∧K (bif ok then .tu [v,.d (.bool true)] else v) t h
    |none=>K (bif ok then .tu [zv,.d (.bool false)] else zv) t h))→o.wp P a w bU Q:=by
  intro id es hval hk;obtain ⟨hkb,r,hf,hk⟩:=hk;obtain ⟨m,arr,clk,he,hρ,hb,hsz,_,hr⟩:=hval;obtain ⟨d,hd,hik⟩:=vZ hks hkb hvk;have hf':=zr hks hd hvk hkb es arr.toList 0 r (by simpa using hsz) (λj e x h1 h2=>hr j e x (by simpa using h1) h2) hf;cases r with
  |none=>
   refine aw hC hn (v':=if ok then .tuple #[z,.bool false] else z) ?_ (tup z zv false hz2) hk;simp only [execOp,ho];refine cA ?_;simp [Instr.lookup,run_underlying hu,he,MapKept.run_getObj_map hb,MapKept.run_checkKey hd hik,MapKept.run_findKey hd hf',hz1]
  |some p=>
   obtain ⟨i,y⟩:=p;obtain ⟨m',e',x',rfl,h1,h2,rfl,h4,h5⟩:=hf';have hv:=(hr m' e' x' (by simpa using h1) h2).2;refine aw hC hn (v':=if ok then .tuple #[e'.val,.bool true] else e'.val) ?_ (tup e'.val x'.2 true hv) hk.2;simp only [execOp,ho];refine cA ?_;simp [Instr.lookup,run_underlying hu,he,MapKept.run_getObj_map hb,MapKept.run_checkKey hd hik,MapKept.run_findKey hd h5]
 simp only [bu] at hk;split at hk
 ·rename_i id hg;rw [hg] at hvx;rw [get?_eq] at hk;split at hk
  ·rename_i es hes;exact key id es (rX hC hvx hes) hk
  ·rename_i es hes;exact key id _ (sQ hC hvx hes) hk
  ·rename_i es r l hes;exact key id _ (GJ hC hvx hes) hk
  ·rename_i z es out it hes;exact Eo hC hn ho hu hvx hkk hks hz hk.1 hk.2
  ·exact hk.elim
 ·rename_i hg;rw [hg] at hvx;have he:a.eval x = .map none:=Ey hvx.qL;obtain ⟨hkb,hk⟩:=hk;obtain ⟨d,hd,hik⟩:=vZ hks hkb hvk;refine aw hC hn (v':=if ok then .tuple #[z,.bool false] else z) ?_ (tup z zv false hz2) hk;simp only [execOp,ho];refine cA ?_;simp [Instr.lookup,run_underlying hu,he,MapKept.run_checkKey hd hik,MapKept.run_findKey (l:=[]) (a:=none) hd rfl,hz1]
 ·exact hk.elim
theorem an.Lc (hC:an E n G ρ t h a w) {id r:Nat} {x0 x1:B} {es':List (V×V)} {arr arr':Array MapEntry} {clk clk':Nat} (hρ:ρ[id]? = some (.map (some r))) (hx:h[id]? = some x0) (hn:x0≠.no) (hx1:∀(G:Nat→Prop) (w:World) (ρ:List Value) (hd:Value),l6 G w ρ hd es'→cW G w ρ hd x1) (hb:w.heap[r]? = some (.map arr clk)) (hs:arr'.size=es'.length) (ho:ord arr' clk')
  (hr:∀(i:Nat) (e:MapEntry) (x:V×V),arr'[i]? = some e→es'[i]? = some x→dL G w ρ e.key x.1∧dL G w ρ e.val x.2) (hgx:gh x1 = []:=by rfl) :
  an E n G ρ t (h.set id x1) a { w with heap:=w.heap.setIfInBounds r (.map arr' clk') }:=by
 have hh:=MapKept.heap_set (o':=.map arr' clk') hb;have hG:∀b,G b→(w.heap.setIfInBounds r (.map arr' clk'))[b]? = w.heap[b]?:=λb hbG=>hh.2 b (λe=>hC.ok.hr.gd b hbG ⟨id,_,_,hρ,hx,hn,by rw [e];exact bS.2 (.inl rfl)⟩);refine hC.Dk (w':={ w with heap:=w.heap.setIfInBounds r (.map arr' clk') }) hρ hx hn (by simp) (λb hbk=>hh.2 b (λe=>hbk (by rw [e];rfl))) rfl rfl rfl ?_ hgx;exact hx1 _ _ _ _ ⟨r,arr',clk',rfl,hh.1,hs,ho,λi e x h1 h2=>⟨(hr i e x h1 h2).1.mono (λ_ h=>h) hG (λ_ _=>rfl),(hr i e x h1 h2).2.mono (λ_ h=>h) hG (λ_ _=>rfl)⟩⟩
theorem A_ {G1:Nat→Prop} {ρ1:List Value} {t1:T} {h1:H} (hC:an E n G1 ρ1 t1 h1 a w) (hn:iA E n a o K bU) {ty kt e:TypeId} {x k v:Operand} {ks:List Nat} {kx vx:V} {id:Nat} {es:List (V×V)} {x0 x1:B} (ho:o.op = .mapUpdate ty x k v∨o.op = .insert ty x k v) (hu:P.underlying ty=some (.map kt e))
  (hks:wP P kt=some ks) (hvk:a_ G1 w ρ1 (a.eval k) kx) (hkb:kb ks kx=true) (hvv1:dL G1 w ρ1 (a.eval v) vx) (hx:h1[id]? = some x0) (hn0:x0≠.no)
  (hval:∃r arr clk,a.eval x = .map (some r)∧ρ1[id]? = some (.map (some r))∧w.heap[r]? = some (.map arr clk)∧arr.size=es.length∧ord arr clk∧∀(i:Nat) (e:MapEntry) (x:V×V),arr[i]? = some e→es[i]? = some x→dL G1 w ρ1 e.key x.1∧dL G1 w ρ1 e.val x.2)
  {r:Option (Nat×V)} (hf:pI ks kx.cs es 0=some r) (hx1:∀(G:Nat→Prop) (w:World) (ρ:List Value) (hd:Value),l6 G w ρ hd (match r with
   |some (i,_)=>es.set i (kx,vx)
   |none=>es ++ [(kx,vx)])→cW G w ρ hd x1) (hk:K .ud t1 (h1.set id x1)) (hgx:gh x1 = []:=by rfl):o.wp P a w bU Q:=by
 have hexec:∀w',(Instr.mapUpdate ty (a.eval x) (a.eval k) (a.eval v)).run P w = .ok () w'→(execOp a.eval o).run P w = .ok .skip w':=by
  intro w' hw;rcases ho with ho | ho<;>simp [execOp,ho,hw]
 obtain ⟨m,arr,clk,he,hρ,hb,hsz,hor,hr⟩:=hval;obtain ⟨d,hd,hik⟩:=vZ hks hkb hvk;have hf':=zr hks hd hvk hkb es arr.toList 0 r (by simpa using hsz) (λj e x h1 h2=>hr j e x (by simpa using h1) h2) hf;have hvk1:=EW hvk hkb;cases r with
 |none=>
  have hC2:=hC.Lc (es':=es ++ [(kx,vx)]) (arr':=arr.push { key:=a.eval k,val:=a.eval v,born:=clk }) (clk':=clk+1) hρ hx hn0 hx1 hb (by simp [hsz]) (xE rfl hor) (hgx:=hgx) (λi e' x' h1 h2=>by
   rw [iV] at h1;split at h1
   ·rename_i hi;cases h1;rw [hi,hsz] at h2;simp at h2;subst h2;exact ⟨hvk1,hvv1⟩
   ·have hi:i<arr.size:=(aM.1 h1).1;rw [aN (by omega)] at h2;exact hr i e' x' h1 h2)
  refine jL (hexec _ ?_) (hn _ _ _ _ _ _ _ hC2 (.k .ud) hk);simp [Instr.mapUpdate,run_underlying hu,he,MapKept.run_getObj_map hb,MapKept.run_checkKey hd hik,MapKept.run_findKey hd hf',MapKept.run_setObj_map _ hb]
 |some p=>
  obtain ⟨i,y⟩:=p;obtain ⟨m',e',x',rfl,h1,h2,rfl,h4,h5⟩:=hf';have h1':arr[m']? = some e':=by simpa using h1
  have hm':m'<arr.size:=(aM.1 h1').1;have hC2:=hC.Lc (es':=es.set (0+m') (kx,vx)) (arr':=arr.modify (0+m') λe=>{ e with key:=a.eval k,val:=a.eval v }) (clk':=clk) hρ hx hn0 hx1 hb (by simp [hsz]) (rS (λ_=>rfl) hor) (hgx:=hgx) (λi e'' x'' h1 h2=>by
   rw [b8] at h1 h2;rw [fF] at h1;rw [bH] at h2;split at h1
   ·rename_i hi;subst hi;rw [if_pos rfl] at h2;rw [h1'] at h1;cases h1;split at h2
    ·cases h2;exact ⟨hvk1,hvv1⟩
    ·cases h2
   ·rename_i hi;rw [if_neg hi] at h2;exact hr i e'' x'' h1 h2)
  refine jL (hexec _ ?_) (hn _ _ _ _ _ _ _ hC2 (.k .ud) hk);have hae:(arr[0+m']?.map (·.key)).getD (a.eval k)=a.eval k:=by rw [b8,h1'];exact h4
  simp [Instr.mapUpdate,run_underlying hu,he,MapKept.run_getObj_map hb,MapKept.run_checkKey hd hik,MapKept.run_findKey hd h5];simp only [b8] at hae;simp [hae,MapKept.run_keyThatStays hik,MapKept.run_setObj_map _ hb]
theorem pP {v:Value} {x:V} (h:a_ G w ρ v x) (h1:e7 x=true) (h2:sT x=true):dK G w ρ v x∧v.cells = #[v]:=by
 cases h with
 |o h=>cases h with
  |c h=>cases h with
   |k h=>
    refine ⟨h,?_⟩;cases h with
    |un=>cases h1
    |ud=>cases h1
    |d h=>exact h.cells
    |ov id z i v a n c _ h=>subst h;unfold sliced;(repeat' split)<;>rfl
    |_=>rfl
   |fc=>cases h2
  |ag=>cases h1
 |tu=>cases h1
theorem Kr (hC:an E n G ρ t h a w) (hn:iA E n a o K bU) {ty kt e t1 t2 t3:TypeId} {x k v:Operand} {ox ok' ov:O} {ks:List Nat} (ho:o.op = .mapUpdate ty x k v∨o.op = .insert ty x k v) (hu:P.underlying ty=some (.map kt e)) (hx:cV P t1 x=some ox) (hkk:cV P t2 k=some ok') (hv:cV P t3 v=some ov)
    (hks:wP P kt=some ks) (hk:bu S ow (.mu ox ok' ov ks) t h K KP):o.wp P a w bU Q:=by
  have hvx:=bG hC hx
  have hvk:=bG hC hkk
  have hvv:=bG hC hv
  simp only [bu,bh] at hk
  split at hk
  · rename_i id hg
    rw [hg] at hvx
    rw [get?_eq] at hk
    split at hk
    · rename_i es hes
      obtain ⟨⟨hst,hkb⟩,r,hf,hk⟩:=hk
      cases r with
      |none=>exact A_ (x1:=.mp (es ++ [(gv t ok',gv t ov)])) hC hn ho hu hks hvk hkb (Ai hvv hst) hes (by simp) (rX hC hvx hes) hf (λ_ _ _ _ h=>h) hk
      |some q=>exact A_ (x1:=.mp (es.set q.1 (gv t ok',gv t ov))) hC hn ho hu hks hvk hkb (Ai hvv hst) hes (by simp) (rX hC hvx hes) hf (λ_ _ _ _ h=>h) hk
    · rename_i es0 hes
      split at hk
      · rename_i kd hgk
        obtain ⟨⟨hst,hkb⟩,hk⟩:=hk
        simp only [aS,cP] at hst
        obtain ⟨hst,hsc⟩:=hst
        obtain ⟨c1,c2⟩:=ib hvv hst
        obtain ⟨G',t',h',ds,hC1,hG',hdl,hds,hk⟩:=zp (gv t ov).cs G t h (λi=>(a.eval v).cells.getD i undef) hC c2 hk
        rw [get?_eq] at hk
        split at hk
        · rename_i es hes'
          obtain ⟨r,hf,hk⟩:=hk
          rw [hgk] at hvk
          have hvk':a_ G' w ρ (a.eval k) (.d kd):=.d (hvk.qL.mono hG' (λ_ _=>rfl))
          have hvx':a_ G' w ρ (a.eval x) (.mp id):=hvx.mono hG' (λ_ _=>rfl) (λ_ _=>rfl)
          have hvv1:dL G' w ρ (a.eval v) (K3 ((gv t ov).nM,ds)):=by
            cases hag:(gv t ov).nM with
            |true=>
              cases hgv:gv t ov with
              |ag cs=>
                rw [hgv] at hvv
                obtain ⟨cs',h1,h2,h3⟩:=hvv.N8
                rw [h1] at hds ⊢
                refine .ag cs' _ (by rw [hgv] at hdl;simp [h2,hdl,V.cs]) (λi y hy=>?_)
                rw [aC] at hy
                cases hd:ds[i]? with
                |none=>rw [hd] at hy;cases hy
                |some d=>
                  rw [hd] at hy;cases hy
                  exact .k (.d (hds i d hd))
              |_=>rw [hgv] at hag;cases hag
            |false=>
              have hca:sT (gv t ov)=true:=hsc.resolve_left (by rw [hag];simp)
              have hcs:(gv t ov).cs = [gv t ov]:=by cases hgv:gv t ov<;>rw [hgv] at hag<;>first | rfl | cases hag
              have hs1:e7 (gv t ov)=true:=by rw [hcs] at hst;simpa using hst
              obtain ⟨_,hcell⟩:=pP hvv hs1 hca
              rw [hcs] at hdl
              match ds,hdl with
              |[d],_=>
                have:=hds 0 d rfl
                rw [hcell] at this
                exact .c (.k (.d this))
          cases r with
          |none=>exact A_ (x1:=.dm (es ++ [(kd,(gv t ov).nM,ds)])) hC1 hn ho hu hks hvk' hkb hvv1 hes' (by simp) (sQ hC1 hvx' hes') hf (λG w ρ hd hM=>by
              show l6 G w ρ hd (ga (es ++ [(kd,(gv t ov).nM,ds)]))
              have e:ga (es ++ [(kd,(gv t ov).nM,ds)])=ga es ++ [(.d kd,K3 ((gv t ov).nM,ds))]:=by simp [ga]
              rw [e]
              exact hM) hk
          |some q=>exact A_ (x1:=.dm (es.set q.1 (kd,(gv t ov).nM,ds))) hC1 hn ho hu hks hvk' hkb hvv1 hes' (by simp) (sQ hC1 hvx' hes') hf (λG w ρ hd hM=>by
              show l6 G w ρ hd (ga (es.set q.1 (kd,(gv t ov).nM,ds)))
              have e:ga (es.set q.1 (kd,(gv t ov).nM,ds))=(ga es).set q.1 (.d kd,K3 ((gv t ov).nM,ds)):=by simp [ga]
              rw [e]
              exact hM) hk
        · exact hk.elim
      · exact hk.elim
    · rename_i z es out it hes
      exact Em hC hn ho hu hvx hkk hv hks hes hk
    · exact hk.elim
  · exact hk.elim
theorem uV {α β:Type} (f:α→β):∀(l:List α) (i:Nat),(l.eraseIdx i).map f=(l.map f).eraseIdx i
 |[],_=>rfl
 |_ :: _,0=>rfl
 |x :: l,i+1=>by simp [uV f l i]
theorem QF (hC:an E n G ρ t h a w) (hn:iA E n a o K bU) {ty kt e ty2 t1 t2:TypeId} {x k:Operand} {ox ok':O} {ks:List Nat} (ho:o.op = .call { callee:=.builtin .delete,args:= #[x,k],argTypes:= #[ty,ty2] }) (hu:P.underlying ty=some (.map kt e)) (hx:cV P t1 x=some ox) (hkk:cV P t2 k=some ok')
  (hks:wP P kt=some ks) (hk:bu S ow (.md ox ok' ks) t h K KP):o.wp P a w bU Q:=by
 have hvx:=bG hC hx;have hvk:=bG hC hkk;have hexec:∀w',(Builtin.delete_ #[ty,ty2] o.type #[a.eval x,a.eval k]).run P w = .ok (.tuple #[]) w'→(execOp a.eval o).run P w = .ok (.value (.tuple #[])) w':=by
  intro w' hw;simp [execOp,ho,resolve,invoke,builtin,hw]
 have key:∀(id:Nat) (x0:B) (x1:Nat→B) (es:List (V×V)),h[id]? = some x0→x0≠.no→(∀(i:Nat) (G:Nat→Prop) (w:World) (ρ:List Value) (hd:Value),l6 G w ρ hd (es.eraseIdx i)→cW G w ρ hd (x1 i))→(∀i,gh (x1 i) = [])→(∃r arr clk,a.eval x = .map (some r)∧ρ[id]? = some (.map (some r))∧w.heap[r]? = some (.map arr clk)∧arr.size=es.length∧ord arr clk∧∀(i:Nat) (e:MapEntry) (x:V×V),arr[i]? = some e→es[i]? = some x→dL G w ρ e.key x.1∧dL G w ρ e.val x.2) →
   (kb ks (gv t ok')=true∧∃r,pI ks (gv t ok').cs es 0=some r∧(match r with
    |some (i,_)=>K (.tu []) t (h.set id (x1 i))
    |none=>K (.tu []) t h))→o.wp P a w bU Q:=by
  intro id x0 x1 es hes hn0 hx1 hgx hval hk;obtain ⟨hkb,r,hf,hk⟩:=hk;obtain ⟨m,arr,clk,he,hρ,hb,hsz,hor,hr⟩:=hval;obtain ⟨d,hd,hik⟩:=vZ hks hkb hvk;have hf':=zr hks hd hvk hkb es arr.toList 0 r (by simpa using hsz) (λj e x h1 h2=>hr j e x (by simpa using h1) h2) hf;cases r with
  |none=>
   refine aw hC hn (v':=.tuple #[]) (hexec _ ?_) (.tu #[] [] rfl (by simp)) hk;have hset:w.heap.setIfInBounds m (.map arr clk)=w.heap:=by
    apply Array.ext
    ·simp
    ·intro i h1 h2;rw [Array.getElem_setIfInBounds];split
     ·rename_i hi;subst hi;have:=(aM.1 hb).2;exact this.symm
     ·rfl
   simp [Builtin.delete_,run_underlying hu,he,MapKept.run_getObj_map hb,MapKept.run_checkKey hd hik,MapKept.run_findKey hd hf',MapKept.run_setObj_map _ hb,hset]
  |some p=>
   obtain ⟨i,y⟩:=p;obtain ⟨m',e',x',rfl,h1,h2,rfl,h4,h5⟩:=hf';have h1':arr[m']? = some e':=by simpa using h1
   have hm':m'<arr.size:=(aM.1 h1').1;have hC2:=hC.Lc (es':=es.eraseIdx (0+m')) (arr':=arr.eraseIdxIfInBounds (0+m')) (clk':=clk) hρ hes hn0 (hx1 _) hb (hgx:=hgx _) (by
     rw [b8,Array.eraseIdxIfInBounds,dif_pos hm',List.length_eraseIdx];simp [←hsz,hm']) (uF hor) (λi e'' x'' h1 h2=>by
    rw [b8] at h1 h2;rw [Array.eraseIdxIfInBounds,dif_pos hm',Array.getElem?_eraseIdx] at h1;rw [List.getElem?_eraseIdx] at h2;split at h1
    ·rename_i hi;rw [if_pos hi] at h2;exact hr _ _ _ h1 h2
    ·rename_i hi;rw [if_neg hi] at h2;exact hr _ _ _ h1 h2)
   refine dS (hexec _ ?_) (hn _ _ _ _ _ _ _ hC2 (.tu #[] [] rfl (by simp)) hk);simp [Builtin.delete_,run_underlying hu,he,MapKept.run_getObj_map hb,MapKept.run_checkKey hd hik,MapKept.run_findKey hd h5,MapKept.run_setObj_map _ hb]
 simp only [bu,bh] at hk;split at hk
 ·rename_i id hg;rw [hg] at hvx;rw [get?_eq] at hk;split at hk
  ·rename_i es hes;exact key id _ (λi=>.mp (es.eraseIdx i)) es hes (by simp) (λ_ _ _ _ _ h=>h) (λ_=>rfl) (rX hC hvx hes) hk
  ·rename_i es hes;exact key id _ (λi=>.dm (es.eraseIdx i)) _ hes (by simp) (λi G w ρ hd hM=>by
    show l6 G w ρ hd (ga (es.eraseIdx i));have e:ga (es.eraseIdx i)=(ga es).eraseIdx i:=uV _ es i;rw [e];exact hM) (λ_=>rfl) (sQ hC hvx hes) hk
  ·rename_i z es hes;exact Ep hC hn ho hu hvx hkk hks hes hk
  ·exact hk.elim
 ·exact hk.elim
theorem QI (hC:an E n G ρ t h a w) (hn:iA E n a o K bU) {ty kt e t1:TypeId} {x:Operand} {ox:O} (ho:o.op = .call { callee:=.builtin .len,args:= #[x],argTypes:= #[ty] }) (hu:P.underlying ty=some (.map kt e)) (hx:cV P t1 x=some ox)
  (hk:bu S ow (.lm ox) t h K KP):o.wp P a w bU Q:=by
 have hvx:=bG hC hx;simp only [bu] at hk;split at hk
 ·rename_i id hg;rw [hg] at hvx;rw [get?_eq] at hk;split at hk
  ·rename_i es hes;obtain ⟨m,arr,clk,he,hρ,hb,hsz,hor,hr⟩:=rX hC hvx hes;refine aw hC hn (v':=.int .i64 es.length) ?_ (.d (.int _ _)) hk;simp [execOp,ho,resolve,invoke,builtin,Builtin.len_,run_underlying hu,he,MapKept.run_getObj_map hb,goInt,hsz]
  ·rename_i es hes;obtain ⟨m,arr,clk,he,hρ,hb,hsz,hor,hr⟩:=sQ hC hvx hes;have hsz:arr.size=es.length:=by rw [hsz];simp [ga]
   refine aw hC hn (v':=.int .i64 es.length) ?_ (.d (.int _ _)) hk;simp [execOp,ho,resolve,invoke,builtin,Builtin.len_,run_underlying hu,he,MapKept.run_getObj_map hb,goInt,hsz]
  ·rename_i es r l hes;obtain ⟨m,arr,clk,he,hρ,hb,hsz,hor,hr⟩:=GJ hC hvx hes;have hsz:arr.size=es.length:=by rw [hsz];simp [ga]
   refine aw hC hn (v':=.int .i64 es.length) ?_ (.d (.int _ _)) hk;simp [execOp,ho,resolve,invoke,builtin,Builtin.len_,run_underlying hu,he,MapKept.run_getObj_map hb,goInt,hsz]
  ·rename_i z es out it hes;obtain ⟨m,arr,clk,he,hρ,hb,hsz,hor,hr⟩:=vS hC hvx hes;refine aw hC hn (v':=.int .i64 es.length) ?_ (.d (.int _ _)) hk;simp [execOp,ho,resolve,invoke,builtin,Builtin.len_,run_underlying hu,he,MapKept.run_getObj_map hb,goInt,hsz]
  ·exact hk.elim
 ·rename_i hg;rw [hg] at hvx;have he:a.eval x = .map none:=Ey hvx.qL;refine aw hC hn (v':=.int .i64 0) ?_ (.d (.int _ _)) hk;simp [execOp,ho,resolve,invoke,builtin,Builtin.len_,run_underlying hu,he,goInt]
 ·exact hk.elim
theorem QO (hC:an E n G ρ t h a w) (hn:iA E n a o K bU) {ty e t1 t2:TypeId} {m:Nat} {x i:Operand} {ox oi:O} (ho:o.op = .indexAddr ty x i) (hu:P.underlying ty=some (.array m e)) (hc0:P.cellsOf e≠0) (hx:cV P t1 x=some ox) (hi:cV P t2 i=some oi)
  (hk:bu S ow (.ja ox oi (P.cellsOf e) m) t h K KP):o.wp P a w bU Q:=by
 have hvx:=bG hC hx;have hvi:=bG hC hi;have hrun:∀(b off:Nat) (k:IntKind) (j:Int),a.eval x = .pointer (some ⟨b,off,none⟩)→a.eval i = .int k j→0≤j→j<m →
   (execOp a.eval o).run P w = .ok (.value (.pointer (some ⟨b,off+j.toNat*P.cellsOf e,none⟩))) w:=by
  intro b off k j h1 h2 h3 h4;unfold Program.cellsOf at hc0 ⊢;cases hie:P.info? e with
  |none=>rw [hie] at hc0;simp at hc0
  |some ie=>
   simp [execOp,ho,h1,h2,Instr.indexAt,asIntOf,run_underlying hu,h3,h4,sizeOf,typeInfo,hie,dy,Instr.sureAddr]
 simp only [bu,cX] at hk;split at hk
 ·rename_i k j hgi;rw [hgi] at hvi;have hei:=hvi.int;split at hk
  ·rename_i row off hg;rw [hg] at hvx;obtain ⟨b,oo,U,hp,hGb,hU,hD⟩:=hvx.el;obtain ⟨sub,⟨h0,hs,hle⟩,hk⟩:=hk;have hle:=az hle;have hj:j.toNat<m:=by
    have:=(aA.1 hs).1;rwa [iT] at this
   rw [p8 _ _ _ _ hj] at hs;cases hs;refine aw hC hn (hrun b (oo+off) k j hp hei h0 (by omega)) ?_ hk;have hget:∀(q:Nat) (y:D),((List.drop (j.toNat*P.cellsOf e) (List.drop off row)).take (P.cellsOf e))[q]? = some y→row[off+j.toNat*P.cellsOf e+q]? = some y:=by
    intro q y hq;rw [a8] at hq;split at hq
    ·rw [ao,ao] at hq;rw [←hq];congr 1;omega
    ·cases hq
   have:=dK.e (ρ := ρ) b (oo+off+j.toNat*P.cellsOf e) 0 _ (λq=>U (off+j.toNat*P.cellsOf e+q)) hGb (λq y hq=>by
     have:=hU _ _ (hget q y hq);rw [←this];congr 2;omega) (λq y hq=>hD _ _ (hget q y hq))
   exact .k this
  ·rename_i id off hg;rw [hg] at hvx;obtain ⟨b,hp,hρ⟩:=hvx.pt;exact aw hC hn (hrun b off k j hp hei hk.1.1 hk.1.2) (.k (.p id _ b hρ)) hk.2
  ·exact hk.elim
 ·exact hk.elim
end
end Go.Vx
