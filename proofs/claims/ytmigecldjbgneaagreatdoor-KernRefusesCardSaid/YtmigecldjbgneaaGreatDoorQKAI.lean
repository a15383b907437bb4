/- Lemmas. Conditions: none. -/
import Derived.Test.YtmigecldjbgneaaGreatDoorQKAH
namespace Go.Vx
open Go.MapKept
section
variable{P:Program}{E:gG}{n:Nat}{G:Nat->Prop}{ρ ρ':List Value}{t:T}{h:H}{a:Act}{w:World}{o:Oper}{bS:Act->World->Prop}{Q:Exit->Act->World->Prop}{K KP:V->T->H->Prop}
variable(S:Nat->List V->H->(Out->H->Prop)->Prop)(ow:Nat->Bool)
theorem Hm(hC:an E n G ρ t h a w)(hn:gq E n a o K bS){ty kt e ty2 t2:TypeId}{x k:Operand}{ok':O}{ks:List Nat}{id z:Nat}{es:List ME}(ho:o.op=.call {callee:=.builtin .delete,args:= #[x,k],argTypes:= #[ty,ty2]})(hu:P.underlying ty=some (.map kt e))(hvx:az G w ρ (a.eval x) (.mp id))(hkk:cO P t2 k=some ok')
  (hks:yU P kt=some ks) (hx:h[id]?=some (.ms z es none none)) (hk:match Ew (gv t ok') with
    |some key=>Nat.beq (ks.headD 0) 9=true/\∃r,lW key es=r/\(match r with
     |some i=>K (.tu []) t (h.set id (.ms z (es.eraseIdx i) none none))
     |none=>K (.tu []) t h)
    |none=>False):o.wp P a w bS Q:=by
 have hvk:=bG hC hkk;have hexec:∀w',(Builtin.delete_ #[ty,ty2] o.type #[a.eval x,a.eval k]).run P w=.ok (.tuple #[]) w'->(execOp a.eval o).run P w=.ok (.value (.tuple #[])) w':=by
  intro w' hw;simp[execOp,ho,resolve,invoke,builtin,hw]
 obtain⟨r,arr,clk,he,hρ,hb,hsz,hor,hr⟩:=xX hC hvx hx;obtain⟨⟨r',arr0,clk0,e0,h1,h2,h3,h4,h5,h6,h7⟩,hit0⟩:=hC.ok.hr.rep id _ _ hρ hx;cases e0;rw[hb]at h1;cases h1;split at hk
 .rename_i key hkey;obtain⟨h9,rr,hi,hk⟩:=hk;subst hi;obtain⟨fs,f,g,h9⟩:=Mn hks h9;rw[uO hkey]at hvk;have hf:=oZ h9 (JR hvk) (by grind) hr;obtain⟨s1,s2,hs,e1,e2⟩:=qY hvk;have hck:=λb=>mD (w:=w) h9 s1 s2 b 9998;rw[<-hs]at hck;cases hi:lW key es with
  |none=>
   rw[hi]at hk hf
   replace hf:(Instr.findKey kt (a.eval k) arr.toList).run P w=.ok none w:=hf
   refine au hC hn (v':=.tuple #[]) (hexec _ ?_) (.tu #[] [] rfl (by simp)) hk;have hset:w.heap.setIfInBounds r (.map arr clk)=w.heap:=by
    grind
   simp[Builtin.delete_,run_underlying hu,he,MapKept.run_getObj_map hb,hck,hf,MapKept.run_setObj_map _ hb,hset]
  |some i=>
   rw[hi]at hk hf;obtain⟨hil,_,_⟩:=List.findIdx?_eq_some_iff_getElem.1 hi;have hia:i<arr.size:=by grind
   replace hf:(Instr.findKey kt (a.eval k) arr.toList).run P w=.ok (some (i,arr[i].val)) w:=by
    grind
   have hge:∀(j:Nat)(y:ME),(es.eraseIdx i)[j]?=some y->es[if j<i then j else j+1]?=some y:=by
    grind
   have hC2:=hC.QG (es':=es.eraseIdx i) (out':=none) (it':=none) (arr':=arr.eraseIdxIfInBounds i) (clk':=clk) hρ hx hb (by
     grind) (vu hor) (λb hb2=>by
     obtain⟨j,k',rs',hj⟩:=eL.1 hb2;exact eL.2 ⟨_,k',rs',hge _ _ hj⟩) (λi' j k1 k2 rs1 rs2 b g1 g2=>by
     have:=h4.1 _ _ k1 k2 rs1 rs2 b (hge _ _ g1) (hge _ _ g2)
     grind) (λj e' y he' hj=>by
     grind) (λj u h=>by cases h) (λj u e h=>by cases h) (.inl rfl)
   refine dc (hexec _ ?_) (hn _ _ _ _ _ _ _ hC2 (.tu #[] [] rfl (by simp)) hk);simp[Builtin.delete_,run_underlying hu,he,MapKept.run_getObj_map hb,hck,hf,MapKept.run_setObj_map _ hb]
 grind
theorem zC{arr:Array MapEntry}{clk m r:Nat}{w:World}(hb:w.heap[m]?=some (.map arr clk))(hr:w.heap[r]?=some (.mapIter (some m) clk #[] clk))(hne:m≠r){k:Nat}(hk:arr.size=k):pT w (.map (some m)) r (List.range k,none):=by
 refine⟨m,arr,clk,#[],rfl,hb,hne,hr,qp,λi=>?_,λi h=>by cases h⟩;subst hk;constructor;simp_all
 grind
theorem To(hC:an E n G ρ t h a w)(hn:gq E n a o K bS){ty kt e t1:TypeId}{x:Operand}{ox:O}(ho:o.op=.range ty x)(hu:P.underlying ty=some (.map kt e))(hx:cO P t1 x=some ox)(hk:dV S ow (.rg ox) t h K KP):o.wp P a w bS Q:=by
 have hvx:=bG hC hx;have run:∀{m clk:Nat}{arr:Array MapEntry},a.eval x=.map (some m)->w.heap[m]?=some (.map arr clk)->(execOp a.eval o).run P w=.ok (.value (.pointer (some ⟨w.heap.size,0,none⟩))) (w.alloc (.mapIter (some m) clk #[] clk)):=by
  intro m clk arr he hb;simp only[execOp,ho];refine cL ?_;simp[Instr.range,run_underlying hu,he,MapKept.run_getObj_map hb]
 simp only[dV]at hk;split at hk
 .rename_i id hg;rw[hg]at hvx;rw[get?_eq]at hk;split at hk
  .rename_i es hes;generalize hax:a.eval x=v at hvx;cases hvx with|o hv=>cases hv with|c hv=>cases hv with|k hv=>cases hv with|mp _ m hρ =>
   obtain⟨m',arr,clk,e0,h1,h2,h3,h4⟩:=hC.ok.hr.rep id _ _ hρ hes;cases e0;have hk:=hk w.heap.size;simp only[bn,cP]at hk;have hg:=ga.alloc w (.mapIter (some m) clk #[] clk);have hlt:=(aW.1 h1).1;have hrep:nD G w ρ (.map (some m)) (fC es):=⟨m,arr,clk,rfl,h1,h2,h3,h4⟩
   have hC':=hC.tJ (w':=w.alloc (.mapIter (some m) clk #[] clk)) (x1:=.di es w.heap.size (List.range es.length,none)) hρ hes (by simp) hg.size (λb hb _=>hg.iZ b hb) hg.os hg.tape hg.out
    ⟨hrep.mono (λ_ h=>h) (λb hb=>hg.iZ b (hC.ok.hr.gl b hb)) (λb hb=>by cases hb;exact hg.iZ _ hlt) (λ_ _=>rfl),zC ((hg.iZ m hlt).trans h1) (heap_alloc_new w _) (by omega) (by rw[h2];exact aI _)⟩
    (λb hb=>by simp only[gh,aF]at hb;grind)
   exact dc (run hax h1) (hn _ _ _ _ _ _ _ hC' (.k (.it id _ m hρ)) hk)
  .obtain⟨t,h,hC,hk⟩:=wj hC hk;rw[get?_eq]at hk;split at hk
   .rename_i z es hes;generalize hax:a.eval x=v at hvx;cases hvx with|o hv=>cases hv with|c hv=>cases hv with|k hv=>cases hv with|mp _ m hρ =>
    obtain⟨hms,_⟩:=hC.ok.hr.rep id _ _ hρ hes;obtain⟨m',arr,clk,e0,h1,h2,h3,h4⟩:=have:=hms;this;cases e0;have hk:=hk w.heap.size;simp only[bn,cP]at hk;have hg:=ga.alloc w (.mapIter (some m) clk #[] clk);have hlt:=(aW.1 h1).1;have hgl:∀b,b∈Bt es->b<w.heap.size:=λb hb=>hC.ok.hr.lt hρ hes (by simp) (bT.2 (.inr (by simp only[gh,aT];grind)));have hC':=hC.tJ (w':=w.alloc (.mapIter (some m) clk #[] clk)) (x1:=.ms z es none (some (w.heap.size,List.range es.length,none))) hρ hes (by simp) hg.size (λb hb _=>hg.iZ b hb) hg.os hg.tape hg.out
     ⟨hms.mono (λ_ h=>h) (λb hb=>hg.iZ b (hC.ok.hr.gl b hb)) (λb hb=>by cases hb;exact hg.iZ _ hlt) (λb hb=>hg.iZ b (hgl b hb)) (λi v h=>by simp),zC ((hg.iZ m hlt).trans h1) (heap_alloc_new w _) (by omega) h2,λhb=>by grind⟩
     (λb hb=>by
      simp only[gh,Pb,aT,aF]at hb;rcases hb with hb|rfl
      .exact .inl (bT.2 (.inr (by simp only[gh,aT];grind)))
      grind)
    exact dc (run hax h1) (hn _ _ _ _ _ _ _ hC' (.k (.it id _ m hρ)) hk)
   grind
  grind
 grind
theorem DY{v:Value}{r:Nat}{l:List Nat}{c:Option Nat}{m clk:Nat}{arr:Array MapEntry}(hit:pT w v r (l,c))(hv:v=.map (some m))(hb:w.heap[m]?=some (.map arr clk))(hor:ord arr clk)(ty:TypeId) :
  (l=[]/\(Instr.next (.pointer (some ⟨r,0,none⟩)) false ty).run P w=.ok (.tuple #[.bool false]) w) \/
  ∃i e w',i∈l/\arr[i]?=some e/\(Instr.next (.pointer (some ⟨r,0,none⟩)) false ty).run P w=.ok (.tuple #[.bool true,e.key,e.val]) w'/\w'.heap.size=w.heap.size/\(∀b,b≠r->w'.heap[b]?=w.heap[b]?)/\w'.os=w.os/\w'.tape=w.tape/\w'.output=w.output/\pT w' v r (l.erase i,some i):=by
 subst hv;obtain⟨m',arr',clk',seen,e0,g1,g2,g3,g6,g7,_⟩:=hit;cases e0;rw[hb]at g1;cases g1;have hold:∀x∈arr.toList,x.born<clk:=λx hx=>hor.1 x hx;rcases run_next_at (P:=P) w ty r m clk clk seen arr clk g3 hb hold (aL _)with⟨h1,h2⟩|⟨e,he,w1,hw1,hrun⟩
 .left;refine⟨?_,h2⟩;cases l with
  |nil=>rfl
  |cons i l=>
   obtain⟨e,h3,h4⟩:=(g7 i).1 (by simp);have:e∈leftOf arr seen:=by
    unfold leftOf
    grind
   grind
 .right;have he':e∈leftOf arr seen:=by grind
  unfold leftOf at he';rw[Array.mem_filter]at he';obtain⟨h1,h2⟩:=he';obtain⟨i,hi⟩:=Array.getElem?_of_mem h1;have hs:seen.contains e.born=false:=by grind
  have hw:w1.heap=w.heap/\w1.os=w.os/\w1.tape=w.tape/\w1.output=w.output:=by
   rcases hw1 with rfl|rfl<;>exact⟨rfl,rfl,rfl,rfl⟩
  obtain⟨q1,q2,q3,q4⟩:=hw;have hrl:r<w.heap.size:=(aW.1 g3).1;have hsb:∀b,b≠r->(ChangeMaps.setBlock w1 r (.mapIter (some m) clk (seen.push e.born) clk)).heap[b]?=w.heap[b]?:=λb hb=>by
   simp only[ChangeMaps.setBlock,q1]
   grind
  refine⟨i,e,_,(g7 i).2 ⟨e,hi,hs⟩,hi,hrun,by simp[ChangeMaps.setBlock,q1],hsb,q2,q3,q4,?_⟩;refine⟨m,arr,clk,seen.push e.born,rfl,(hsb m g2).trans hb,g2,?_,g6.erase _,λj=>?_,λj hj=>⟨e,seen,by grind,rfl⟩⟩
  .simp only[ChangeMaps.setBlock,q1]
   grind
  .show j∈l.erase i<->_;rw[g6.mem_erase_iff,g7 j];constructor
   .rintro ⟨hj,e',h3,h4⟩
    refine⟨e',h3,?_⟩;rw[Array.contains_push,h4,Bool.false_or,beq_eq_false_iff_ne];intro hbn;refine hj ?_;have hp:=hor.2;have l1:(arr.toList.map (·.born))[j]?=some e'.born:=by grind
    have l2:(arr.toList.map (·.born))[i]?=some e.born:=by grind
    rcases Nat.lt_trichotomy i j with hlt|rfl|hlt
    .have:=List.pairwise_iff_getElem.1 hp i j (aC.1 l2).1 (aC.1 l1).1 hlt
     grind
    rfl
    .have:=List.pairwise_iff_getElem.1 hp j i (aC.1 l1).1 (aC.1 l2).1 hlt
     grind
   grind
theorem Ts(hC:an E n G ρ t h a w)(hn:gq E n a o K bS){t1:TypeId}{x:Operand}{ox:O}(ho:o.op=.next x false)(hx:cO P t1 x=some ox)(hk:dV S ow (.nx ox) t h K KP):o.wp P a w bS Q:=by
 have hvx:=bG hC hx;have run:∀{v':Value}{w':World}{r:Nat},a.eval x=.pointer (some ⟨r,0,none⟩)->(Instr.next (.pointer (some ⟨r,0,none⟩)) false o.type).run P w=.ok v' w'->(execOp a.eval o).run P w=.ok (.value v') w':=by
  intro v' w' r he hr;simp only[execOp,ho];simp_all
 simp only[dV]at hk;split at hk
 .rename_i id r hg;rw[hg]at hvx;have hvx:a.eval x=.pointer (some ⟨r,0,none⟩):=by
   generalize a.eval x=v at hvx;cases hvx with|o hv=>cases hv with|c hv=>cases hv with|k hv=>cases hv;rfl
  rw[get?_eq]at hk;split at hk
  .rename_i es r' l c hes;obtain⟨rfl,hk1,hk2⟩:=hk;have hil:id<ρ.length:=by rw[hC.ok.hr.len];grind
   have hρ :=aA hil;obtain⟨hM,hI⟩:=hC.ok.hr.rep id _ _ hρ hes;obtain⟨m,arr,clk,e0,h1,h2,h3,h4⟩:=have:=hM;this;have hmr:m≠r:=by
    obtain⟨m',_,_,_,e1,_,e2,_⟩:=hI
    grind
   rcases DY (P:=P) hI e0 h1 h3 o.type with⟨hl,hr⟩|⟨i,e,w',hi,he,hr,hs,hsame,h5,h6,h7,hI'⟩
   .have hk:=hk1 hl;simp only[bn]at hk;exact dc (run hvx hr) (hn _ _ _ _ _ _ _ (hC.XT (x1:=.dm es) hes (by simp) (λv _ hv=>hv.1) (λb hb=>by cases hb)) (.tu #[.bool false] _ rfl (λj y hy=>by
     match j,hy with
     |0,hy=>cases hy;exact .c (.k (.d (.bool false))))) hk)
   .have hk:=hk2 i hi;simp only[bn]at hk;have hgr:¬G r:=λhg=>hC.ok.hr.gd r hg ⟨id,_,_,hρ,hes,by simp,bT.2 (.inr (aF.2 rfl))⟩;have hGs:∀b,G b->w'.heap[b]?=w.heap[b]?:=λb hb=>hsame b (λe=>hgr (e ▸ hb));have hC':=hC.tJ (w':=w') (x1:=.di es r (l.erase i,some i)) hρ hes (by simp) (by omega) (λb _ hb=>hsame b (λe=>hb (bT.2 (.inr (aF.2 e))))) h5 h6 h7
     ⟨hM.mono (λ_ h=>h) hGs (λb hb=>by rw[e0]at hb;cases hb;grind) (λ_ _=>rfl),hI'⟩ (λb hb=>.inl (bT.2 (.inr hb)))
    refine dc (run hvx hr) (hn _ _ _ _ _ _ _ hC' (.tu #[.bool true,e.key,e.val] _ rfl (λj y hy=>?_)) hk)
    match j,hy with
    |0,hy=>cases hy;exact .c (.k (.d (.bool true)))
    |1,hy=>cases hy;exact .c (.k (.un _))
    |2,hy=>cases hy;exact .c (.k (.un _))
  .obtain⟨t,h,hC,hk⟩:=wj hC hk;rw[get?_eq]at hk;split at hk
   .rename_i z es r' l c hes;obtain⟨rfl,hk1,hk2⟩:=hk;have hil:id<ρ.length:=by rw[hC.ok.hr.len];grind
    have hihl:id<h.length:=(aC.1 hes).1;have hρ :=aA hil;obtain⟨hM,hI,hrE⟩:=hC.ok.hr.rep id _ _ hρ hes;obtain⟨m,arr,clk,e0,h1,h2,h3,h4,hent,_⟩:=have:=hM;this;have hmr:m≠r:=by
     obtain⟨m',_,_,_,e1,_,e2,_⟩:=hI
     grind
    rcases DY (P:=P) hI e0 h1 h3 o.type with⟨hl,hr⟩|⟨i,e,w',hi,he,hr,hs,hsame,h5,h6,h7,hI'⟩
    .have hk:=hk1 hl;simp only[bn]at hk;exact dc (run hvx hr) (hn _ _ _ _ _ _ _ (hC.XT (x1:=.ms z es none none) hes (by simp) (λv _ hv=>⟨hv.1,trivial⟩) (λb hb=>by simp only[gh,Pb,eI]at hb;simp only[gh,aT];grind)) (.tu #[.bool false] _ rfl (λj y hy=>by
      match j,hy with
      |0,hy=>cases hy;exact .c (.k (.d (.bool false))))) hk)
    .have hk:=hk2 i hi;simp only[bn]at hk;have hbr:r∈fF ρ[id] (.ms z es none (some (r,l,c))):=bT.2 (.inr (by simp[gh,Pb]));have hgr:¬G r:=λhg=>hC.ok.hr.gd r hg ⟨id,_,_,hρ,hes,by simp,hbr⟩;have hGs:∀b,G b->w'.heap[b]?=w.heap[b]?:=λb hb=>hsame b (λe=>hgr (e ▸ hb));have hC':=hC.tJ (w':=w') (x1:=.ms z es none (some (r,l.erase i,some i))) hρ hes (by simp) (by omega) (λb _ hb=>hsame b (λe=>hb (e ▸ hbr))) h5 h6 h7
      ⟨hM.mono (λ_ h=>h) hGs (λb hb=>by rw[e0]at hb;cases hb;grind) (λb hb=>hsame b (λe=>hrE (e ▸ hb))) (λi v h=>by simp),hI',hrE⟩ (λb hb=>.inl (bT.2 (.inr hb)))
     refine dc (run hvx hr) (hn _ _ _ _ _ _ _ hC' (.tu #[.bool true,e.key,e.val] _ rfl (λj y hy=>?_)) hk)
     match j,hy with
     |0,hy=>cases hy;exact .c (.k (.d (.bool true)))
     |1,hy=>cases hy;exact .c (.k (.un _))
     |2,hy=>cases hy;exact .c (.k (.un _))
   grind
  grind
 grind
theorem P8{v:Value}{r i:Nat}{l:List Nat}{m clk:Nat}{arr:Array MapEntry}(hit:pT w v r (l,some i))(hv:v=.map (some m))(hb:w.heap[m]?=some (.map arr clk))(hor:ord arr clk) :
  ∃e,arr[i]?=some e/\(Instr.entry (.pointer (some ⟨r,0,none⟩))).run P w=.ok (.tuple #[e.key,e.val]) w:=by
 subst hv;obtain⟨m',arr',clk',seen,e0,g1,g2,g3,g6,g7,g8⟩:=hit;cases e0;rw[hb]at g1;cases g1;obtain⟨e,s,h1,rfl⟩:=g8 i rfl;exact⟨e,h1,run_entry_at w r m clk s arr clk e g3 hb (by grind) (hor.2.imp λh=>Nat.ne_of_lt h)⟩
theorem UN(hC:an E n G ρ t h a w)(hn:gq E n a o K bS){t1:TypeId}{x:Operand}{ox:O}(ho:o.op=.entry x)(hx:cO P t1 x=some ox)(hk:dV S ow (.en ox) t h K KP):o.wp P a w bS Q:=by
 have hvx:=bG hC hx;have run:∀{v':Value}{r:Nat},a.eval x=.pointer (some ⟨r,0,none⟩)->(Instr.entry (.pointer (some ⟨r,0,none⟩))).run P w=.ok v' w->(execOp a.eval o).run P w=.ok (.value v') w:=by
  intro v' r he hr;simp only[execOp,ho];simp_all
 simp only[dV]at hk;split at hk
 .rename_i id r hg;rw[hg]at hvx;have hvx:a.eval x=.pointer (some ⟨r,0,none⟩):=by
   generalize a.eval x=v at hvx;cases hvx with|o hv=>cases hv with|c hv=>cases hv with|k hv=>cases hv;rfl
  rw[get?_eq]at hk;split at hk
  .rename_i es r' l i hes;obtain⟨e,⟨rfl,hi⟩,hk⟩:=hk;have hil:id<ρ.length:=by rw[hC.ok.hr.len];grind
   have hρ :=aA hil;obtain⟨hM,hI⟩:=hC.ok.hr.rep id _ _ hρ hes;obtain⟨m,arr,clk,e0,h1,h2,h3,h4⟩:=hM;obtain⟨u,he,hr⟩:=P8 (P:=P) hI e0 h1 h3;have hm:(fC es)[i]?=some (.d e.1,Ny e.2):=by simp[fC,hi]
   obtain⟨k1,k2⟩:=h4 i u _ he hm;refine au hC hn (run hvx hr) (.tu #[u.key,u.val] _ rfl (λj y hy=>?_)) hk
   match j,hy with
   |0,hy=>simp_all
   |1,hy=>simp_all
  .rename_i z es r' l i hes;obtain⟨k,b,rs,⟨rfl,hi⟩,hk⟩:=hk;simp only[bn,cP]at hk;obtain⟨m,arr,clk,e,q1,q2,q3,q4,hC2⟩:=hC.taken hes hi;obtain⟨⟨m',arr',clk',e0,h1,h2,h3,h4,hent,_⟩,hI,hrE⟩:=hC.ok.hr.rep id _ _ q1 hes;cases e0;rw[q2]at h1;cases h1;obtain⟨u,he,hr⟩:=P8 (P:=P) hI rfl q2 h3;rw[q3]at he;cases he;have hkr:=(hent i e _ q3 hi).1;have hl:=hC.ok.hr.len;refine dc (w':=w) (run hvx hr) (hn _ _ _ _ _ _ _ hC2 (.tu #[e.key,e.val] _ rfl (λj y hy=>?_)) hk)
   match j,hy with
   |0,hy=>cases hy;exact hkr.mono (λ_ h=>h) (λ_ _=>rfl) (λi hi=>by contradiction)
   |1,hy=>
    cases hy;generalize e.val=u at q4⊢;cases u<;>first|(cases q4;done)|skip
    exact .c (.k (.os _ _ _ _ (by grind)))
  grind
 grind
end
section
variable{P:Program}{E:gG}{n:Nat}{G:Nat->Prop}{ρ:List Value}{t:T}{h:H}{a:Act}{w:World}{o:Oper}{bS:Act->World->Prop}{Q:Exit->Act->World->Prop}{K KP:V->T->H->Prop}
variable(S:Nat->List V->H->(Out->H->Prop)->Prop)(ow:Nat->Bool)
theorem xe{j k:IntKind}(h:Nat.beq (kn j) (kn k)=true):j=k:=by revert h;cases j<;>cases k<;>simp[kn]
theorem mL{ks:List Nat}{x:V}(h:kY ks x=true):(∃j k n,ks=[0,j]/\x=.d (.int k n)/\Nat.beq (kn k) j=true)\/(∃b,ks=[1]/\x=.d (.bool b))\/(∃s,ks=[2]/\x=.d (.str s)):=by
 unfold kY at h
 grind
theorem qV{kt:TypeId}{ks:List Nat}(hks:yU P kt=some ks):(∃k,P.underlying kt=some (.int k)/\ks=[0,kn k])\/(P.underlying kt=some .bool/\ks=[1])\/(P.underlying kt=some .string/\ks=[2])\/ks=[9]:=by
 unfold yU at hks
 grind
theorem xg{kt:TypeId}{ks:List Nat}(hks:yU P kt=some ks){v:Value}{x:V}(hb:kY ks x=true)(hv:az G w ρ v x):∃d,P.underlying kt=some d/\IsKey d v:=by
 rcases qV hks with⟨k,hd,rfl⟩|⟨hd,rfl⟩|⟨hd,rfl⟩|rfl
 case inr.inr.inr=>contradiction
 all_goals refine⟨_,hd,?_⟩
 all_goals rcases mL hb with⟨j,k',n,e,rfl,hj⟩|⟨b,e,rfl⟩|⟨s,e,rfl⟩<;>simp at e<;>try (cases e;done)
 .subst e;rw[hv.int];exact xe hj
 .rw[hv.bool];trivial
 .obtain⟨sv,rfl,_⟩:=hv.str;trivial
theorem Ye{kt:TypeId}{ks:List Nat}{d:TypeDesc}(hks:yU P kt=some ks)(hd:P.underlying kt=some d){v u:Value}{x y:V}{b:Bool}(hx:kY ks x=true)(hy:kY ks y=true)(hv:az G w ρ v x)(hu:az G w ρ u y)
  (he:sA (ks.take 1) x.cs y.cs=some b):Instr.sameNow d v u=some b/\(b=true->v=u):=by
 rcases mL hx with⟨j,k,m,rfl,rfl,hj⟩|⟨b1,rfl,rfl⟩|⟨s1,rfl,rfl⟩<;>rcases mL hy with⟨j',k',m',e,rfl,hj'⟩|⟨b2,e,rfl⟩|⟨s2,e,rfl⟩<;>simp at e<;>try (cases e;done)
 .subst e;rcases qV hks with⟨kk,hd',e⟩|⟨_,e⟩|⟨_,e⟩|e<;>simp at e
  rw[hd]at hd';cases hd';subst e;obtain rfl:=xe hj;obtain rfl:=xe hj';rw[hv.int,hu.int];have hkk:∀q:IntKind,Nat.beq (kn q) (kn q)=true:=λq=>by simp_all
  simp only[V.cs,dX,oS,sA,Jv,hkk,δ,eA,aD]at he;subst he;simp[Instr.sameNow]
 .rcases qV hks with⟨kk,hd',e⟩|⟨hd',e⟩|⟨_,e⟩|e<;>simp at e
  rw[hd]at hd';cases hd';rw[hv.bool,hu.bool];simp only[V.cs,dX,oS,sA,Jv,eA,aD]at he;subst he;simp[Instr.sameNow]
 .rcases qV hks with⟨kk,hd',e⟩|⟨hd',e⟩|⟨hd',e⟩|e<;>simp at e
  rw[hd]at hd';cases hd';obtain⟨v1,rfl,rfl,_⟩:=hv.str;obtain⟨u1,rfl,rfl,_⟩:=hu.str;simp only[V.cs,dX,oS,sA,Jv,eA,aD]at he;subst he;have e1:(v1==u1)=(v1.data.toList==u1.data.toList):=by
   rw[j0,bytes_beq,ξ];constructor
   grind
   .intro h;obtain⟨⟨l⟩⟩:=v1;simp_all
  refine⟨by simp only[Instr.sameNow,e1],λh=>?_⟩;rw[<-e1,bytes_beq]at h;rw[h]
theorem Bz {kt:TypeId} {ks:List Nat} {d:TypeDesc} (hks:yU P kt=some ks) (hd:P.underlying kt=some d) {k:Value} {kx:V} (hk:az G w ρ k kx) (hkb:kY ks kx=true) :
    ∀(es:List (V×V)) (l:List MapEntry) (i:Nat) (r:Option (Nat×V)),l.length=es.length→(∀(j:Nat) (e:MapEntry) (x:V×V),l[j]? = some e→es[j]? = some x→dP G w ρ e.key x.1∧dP G w ρ e.val x.2)→nI ks kx.cs es i=some r →
      match r with
      |none=>Instr.findNow d k l i=some none
      |some (j,y)=>∃m e x,j=i+m/\l[m]?=some e/\es[m]?=some x/\x.2=y/\e.key=k/\Instr.findNow d k l i=some (some (j,e.val)):=by
  intro es
  induction es with
  |nil=>
    intro l i r hl _ hf
    cases l with
    |cons _ _=>grind
    |nil=>cases hf;rfl
  |cons x es ih=>
    intro l i r hl hr hf
    cases l with
    |nil=>grind
    |cons e l=>
      have h0:=hr 0 e x rfl rfl
      simp only[nI]at hf
      cases hkx:kY ks x.1<;>rw[hkx]at hf
      grind
      simp only[δ]at hf
      split at hf
      · rename_i b hb
        obtain⟨g1,g2⟩:=Ye hks hd hkb hkx hk (.o h0.1) hb
        cases b
        · simp only[ε]at hf
          have:=ih l (i+1) r (by grind) (λj e' x' he hx=>hr (j+1) e' x' (by grind) (by grind)) hf
          cases r with
          |none=>simp only at this⊢;simp only[Instr.findNow,g1,this]
          |some p=>
            obtain⟨p1,p2⟩:=p
            obtain⟨m,e',x',hp,h1,h2,h3,h4,h5⟩:=this
            exact⟨m+1,e',x',by omega,by grind,by grind,h3,h4,by simp only[Instr.findNow,g1,h5]⟩
        · simp only[δ,aD]at hf
          subst hf
          exact⟨0,e,x,rfl,rfl,rfl,rfl,(g2 rfl).symm,by simp only[Instr.findNow,g1]⟩
      grind
theorem uA(hC:an E n G ρ t h a w){v:Value}{id:Nat}{es:List (V×V)}(hv:az G w ρ v (.mp id))(hx:h[id]?=some (.mp es)) :
  ∃r arr clk,v=.map (some r)/\ρ[id]?=some (.map (some r))/\w.heap[r]?=some (.map arr clk)/\arr.size=es.length/\ord arr clk/\∀(i:Nat)(e:MapEntry)(x:V×V),arr[i]?=some e->es[i]?=some x->dP G w ρ e.key x.1/\dP G w ρ e.val x.2:=by
 cases hv with|o hv=>cases hv with|c hv=>cases hv with|k hv=>cases hv with|mp _ r hρ =>
 obtain⟨r',arr,clk,e,h1,h2,h3,h4⟩:=hC.ok.hr.rep id _ _ hρ hx
 grind
theorem uh(hC:an E n G ρ t h a w){v:Value}{id:Nat}{es:List (D×Bool×List D)}(hv:az G w ρ v (.mp id))(hx:h[id]?=some (.dm es)) :
  ∃r arr clk,v=.map (some r)/\ρ[id]?=some (.map (some r))/\w.heap[r]?=some (.map arr clk)/\arr.size=(fC es).length/\ord arr clk/\∀(i:Nat)(e:MapEntry)(x:V×V),arr[i]?=some e->(fC es)[i]?=some x->dP G w ρ e.key x.1/\dP G w ρ e.val x.2:=by
 cases hv with|o hv=>cases hv with|c hv=>cases hv with|k hv=>cases hv with|mp _ r hρ =>
 obtain⟨r',arr,clk,e,h1,h2,h3,h4⟩:=hC.ok.hr.rep id _ _ hρ hx
 grind
theorem KE(hC:an E n G ρ t h a w){v:Value}{id r:Nat}{l:It}{es:List (D×Bool×List D)}(hv:az G w ρ v (.mp id))(hx:h[id]?=some (.di es r l)) :
  ∃r arr clk,v=.map (some r)/\ρ[id]?=some (.map (some r))/\w.heap[r]?=some (.map arr clk)/\arr.size=(fC es).length/\ord arr clk/\∀(i:Nat)(e:MapEntry)(x:V×V),arr[i]?=some e->(fC es)[i]?=some x->dP G w ρ e.key x.1/\dP G w ρ e.val x.2:=by
 cases hv with|o hv=>cases hv with|c hv=>cases hv with|k hv=>cases hv with|mp _ r hρ =>
 obtain⟨⟨r',arr,clk,e,h1,h2,h3,h4⟩,_⟩:=hC.ok.hr.rep id _ _ hρ hx
 grind
theorem Cp{v:Value}{x:V}(hv:az G w ρ v x)(hs:yi x=true):dP G w ρ v x:=by
 cases hv with
 |o h=>exact h
 |tu=>cases hs
theorem HQ{ks:List Nat}{v:Value}{x:V}(hv:az G w ρ v x)(hs:kY ks x=true):dP G w ρ v x:=by
 rcases mL hs with⟨_,_,_,_,rfl,_⟩|⟨_,_,rfl⟩|⟨_,_,rfl⟩<;>exact .c (.k (.d hv.rj))
theorem R6(k:Nat):gh (M7 k)=[]:=by
 match k with
 |0=>rfl
 |1=>rfl
 |_+2=>rfl
theorem M6(k:Nat){m:Nat}(hm:w.heap[m]?=some (.map #[] 0)):cQ G w ρ (.map (some m)) (M7 k):=by
 have h0:nD G w ρ (.map (some m)) []:=⟨m,#[],0,rfl,hm,rfl,⟨by simp,by simp⟩,by simp⟩
 match k with
 |0=>exact h0
 |1=>exact h0
 |z+2=>exact⟨⟨m,#[],0,rfl,hm,rfl,⟨by simp,by simp⟩,⟨λi j k k' rs rs' b h=>by grind,by simp[Bt]⟩,λi e x h=>by grind,(λi v h=>by cases h),λi v e h=>by simp⟩,trivial⟩
theorem Tx(hC:an E n G ρ t h a w)(hn:gq E n a o K bS){ty:TypeId}{pl:Nat}(ho:o.op=.makeMap ty none)(hk:dV S ow (.mm pl) t h K KP):o.wp P a w bS Q:=by
 simp only[dV,bn,cP]at hk;have hC2:=hC.push (ga.alloc w (.map #[] 0)) (.map (some w.heap.size)) (M7 pl) (by intro b hb;simp only[gB,aD]at hb;omega) (M6 pl (heap_alloc_new w _)) (R6 pl);refine dc (v':=.map (some w.heap.size)) ?_ (hn _ _ _ _ _ _ _ hC2 (.k (.mp h.length _ (by rw[<-hC.ok.hr.len];simp))) hk);simp only[execOp,ho];rfl
theorem Tz(hC:an E n G ρ t h a w)(hn:gq E n a o K bS){ty kt e t1 t2:TypeId}{x k:Operand}{ox ok':O}{ks:List Nat}{zv:V}{ok:Bool}(ho:o.op=.lookup ty x k ok)(hu:P.underlying ty=some (.map kt e))(hx:cO P t1 x=some ox)(hkk:cO P t2 k=some ok')
  (hks:yU P kt=some ks) (hz:A8 P e=some zv) (hk:dV S ow (.ml ox ok' ks zv ok) t h K KP):o.wp P a w bS Q:=by
 have hvx:=bG hC hx;have hvk:=bG hC hkk;obtain⟨z,hz1,hz2,_⟩:=w7 (P:=P) (G:=G) (w:=w) (ρ := ρ) hz;have tup:∀(v:Value)(y:V)(b:Bool),dP G w ρ v y->az G w ρ (if ok then .tuple #[v,.bool b]else v) (bif ok then .tu [y,.d (.bool b)]else y):=by
  intro v y b hv;cases ok
  .exact .o hv
  .refine .tu #[v,.bool b] _ rfl (λi x hx=>?_)
   match i,hx with
   |0,hx=>simp_all
   |1,hx=>cases hx;exact .c (.k (.d (.bool b)))
 have key:∀(id:Nat)(es:List (V×V)),(∃r arr clk,a.eval x=.map (some r)/\ρ[id]?=some (.map (some r))/\w.heap[r]?=some (.map arr clk)/\arr.size=es.length/\ord arr clk/\∀(i:Nat)(e:MapEntry)(x:V×V),arr[i]?=some e->es[i]?=some x->dP G w ρ e.key x.1/\dP G w ρ e.val x.2) ->
   (kY ks (gv t ok')=true∧∃r,nI ks (gv t ok').cs es 0=some r∧(match r with
    |some (_,v)=>(yi v=true)/\K (bif ok then .tu [v,.d (.bool true)]else v) t h
    |none=>K (bif ok then .tu [zv,.d (.bool false)]else zv) t h))->o.wp P a w bS Q:=by
  intro id es hval hk;obtain⟨hkb,r,hf,hk⟩:=hk;obtain⟨m,arr,clk,he,hρ,hb,hsz,_,hr⟩:=hval;obtain⟨d,hd,hik⟩:=xg hks hkb hvk;have hf':=Bz hks hd hvk hkb es arr.toList 0 r (by grind) (λj e x h1 h2=>hr j e x (by grind) h2) hf;cases r with
  |none=>
   refine au hC hn (v':=if ok then .tuple #[z,.bool false]else z) ?_ (tup z zv false hz2) hk;simp only[execOp,ho];refine cL ?_;simp[Instr.lookup,run_underlying hu,he,MapKept.run_getObj_map hb,MapKept.run_checkKey hd hik,MapKept.run_findKey hd hf',hz1]
  |some p=>
   obtain⟨i,y⟩:=p;obtain⟨m',e',x',rfl,h1,h2,rfl,h4,h5⟩:=hf';have hv:=(hr m' e' x' (by grind) h2).2;refine au hC hn (v':=if ok then .tuple #[e'.val,.bool true]else e'.val) ?_ (tup e'.val x'.2 true hv) hk.2;simp only[execOp,ho];refine cL ?_;simp[Instr.lookup,run_underlying hu,he,MapKept.run_getObj_map hb,MapKept.run_checkKey hd hik,MapKept.run_findKey hd h5]
 simp only[dV]at hk;split at hk
 .rename_i id hg;rw[hg]at hvx;rw[get?_eq]at hk;split at hk
  .rename_i es hes;exact key id es (uA hC hvx hes) hk
  .rename_i es hes;exact key id _ (uh hC hvx hes) hk
  .rename_i es r l hes;exact key id _ (KE hC hvx hes) hk
  .rename_i z es out it hes;exact Hl hC hn ho hu hvx hkk hks hz hk.1 hk.2
  grind
 .rename_i hg;rw[hg]at hvx;have he:a.eval x=.map none:=Hw hvx.rj;obtain⟨hkb,hk⟩:=hk;obtain⟨d,hd,hik⟩:=xg hks hkb hvk;refine au hC hn (v':=if ok then .tuple #[z,.bool false]else z) ?_ (tup z zv false hz2) hk;simp only[execOp,ho];refine cL ?_;simp[Instr.lookup,run_underlying hu,he,MapKept.run_checkKey hd hik,MapKept.run_findKey (l:=[]) (a:=none) hd rfl,hz1]
 grind
theorem an.QH(hC:an E n G ρ t h a w){id r:Nat}{x0 x1:B}{es':List (V×V)}{arr arr':Array MapEntry}{clk clk':Nat}(hρ:ρ[id]?=some (.map (some r)))(hx:h[id]?=some x0)(hn:x0≠.no)(hx1:∀(G:Nat->Prop)(w:World)(ρ:List Value)(hd:Value),nD G w ρ hd es'->cQ G w ρ hd x1)(hb:w.heap[r]?=some (.map arr clk))(hs:arr'.size=es'.length)(ho:ord arr' clk')
  (hr:∀(i:Nat)(e:MapEntry)(x:V×V),arr'[i]?=some e->es'[i]?=some x->dP G w ρ e.key x.1/\dP G w ρ e.val x.2) (hgx:gh x1=[]:=by rfl) (hnl:∀z rs,x0≠.lk z rs:=by simp) :
  an E n G ρ t (h.set id x1) a {w with heap:=w.heap.setIfInBounds r (.map arr' clk')}:=by
 have hh:=MapKept.heap_set (o':=.map arr' clk') hb;have hG:∀b,G b->(w.heap.setIfInBounds r (.map arr' clk'))[b]?=w.heap[b]?:=λb hbG=>hh.2 b (λe=>hC.ok.hr.gd b hbG ⟨id,_,_,hρ,hx,hn,by rw[e];exact bT.2 (.inl rfl)⟩);refine hC.GP (w':={w with heap:=w.heap.setIfInBounds r (.map arr' clk')}) hρ hx hn (by simp) (λb hbk=>hh.2 b (λe=>hbk (by rw[e];rfl))) rfl rfl rfl ?_ hgx hnl;exact hx1 _ _ _ _ ⟨r,arr',clk',rfl,hh.1,hs,ho,λi e x h1 h2=>⟨(hr i e x h1 h2).1.mono (λ_ h=>h) hG (λ_ _=>rfl),(hr i e x h1 h2).2.mono (λ_ h=>h) hG (λ_ _=>rfl)⟩⟩
theorem DG{G1:Nat->Prop}{ρ1:List Value}{t1:T}{h1:H}(hC:an E n G1 ρ1 t1 h1 a w)(hn:gq E n a o K bS){ty kt e:TypeId}{x k v:Operand}{ks:List Nat}{kx vx:V}{id:Nat}{es:List (V×V)}{x0 x1:B}(ho:o.op=.mapUpdate ty x k v\/o.op=.insert ty x k v)(hu:P.underlying ty=some (.map kt e))
  (hks:yU P kt=some ks) (hvk:az G1 w ρ1 (a.eval k) kx) (hkb:kY ks kx=true) (hvv1:dP G1 w ρ1 (a.eval v) vx) (hx:h1[id]?=some x0) (hn0:x0≠.no)
  (hval:∃r arr clk,a.eval x=.map (some r)/\ρ1[id]?=some (.map (some r))/\w.heap[r]?=some (.map arr clk)/\arr.size=es.length/\ord arr clk/\∀(i:Nat)(e:MapEntry)(x:V×V),arr[i]?=some e->es[i]?=some x->dP G1 w ρ1 e.key x.1/\dP G1 w ρ1 e.val x.2)
  {r:Option (Nat×V)} (hf:nI ks kx.cs es 0=some r) (hx1:∀(G:Nat→Prop) (w:World) (ρ:List Value) (hd:Value),nD G w ρ hd (match r with
   |some (i,_)=>es.set i (kx,vx)
   |none=>es++[(kx,vx)])->cQ G w ρ hd x1) (hk:K .ud t1 (h1.set id x1)) (hgx:gh x1=[]:=by rfl) (hnl:∀z rs,x0≠.lk z rs:=by simp):o.wp P a w bS Q:=by
 have hexec:∀w',(Instr.mapUpdate ty (a.eval x) (a.eval k) (a.eval v)).run P w=.ok () w'->(execOp a.eval o).run P w=.ok .skip w':=by
  intro w' hw;rcases ho with ho|ho<;>simp[execOp,ho,hw]
 obtain⟨m,arr,clk,he,hρ,hb,hsz,hor,hr⟩:=hval;obtain⟨d,hd,hik⟩:=xg hks hkb hvk;have hf':=Bz hks hd hvk hkb es arr.toList 0 r (by grind) (λj e x h1 h2=>hr j e x (by grind) h2) hf;have hvk1:=HQ hvk hkb;cases r with
 |none=>
  have hC2:=hC.QH (hnl:=hnl) (es':=es++[(kx,vx)]) (arr':=arr.push {key:=a.eval k,val:=a.eval v,born:=clk}) (clk':=clk+1) hρ hx hn0 hx1 hb (by grind) (zG rfl hor) (hgx:=hgx) (λi e' x' h1 h2=>by
   grind)
  refine ji (hexec _ ?_) (hn _ _ _ _ _ _ _ hC2 (.k .ud) hk);simp[Instr.mapUpdate,run_underlying hu,he,MapKept.run_getObj_map hb,MapKept.run_checkKey hd hik,MapKept.run_findKey hd hf',MapKept.run_setObj_map _ hb]
 |some p=>
  obtain⟨i,y⟩:=p;obtain⟨m',e',x',rfl,h1,h2,rfl,h4,h5⟩:=hf';have h1':arr[m']?=some e':=by grind
  have hm':m'<arr.size:=(aW.1 h1').1;have hC2:=hC.QH (hnl:=hnl) (es':=es.set (0+m') (kx,vx)) (arr':=arr.modify (0+m') λe=>{e with key:=a.eval k,val:=a.eval v}) (clk':=clk) hρ hx hn0 hx1 hb (by grind) (ti (λ_=>rfl) hor) (hgx:=hgx) (λi e'' x'' h1 h2=>by
   grind)
  refine ji (hexec _ ?_) (hn _ _ _ _ _ _ _ hC2 (.k .ud) hk);have hae:(arr[0+m']?.map (·.key)).getD (a.eval k)=a.eval k:=by grind
  simp[Instr.mapUpdate,run_underlying hu,he,MapKept.run_getObj_map hb,MapKept.run_checkKey hd hik,MapKept.run_findKey hd h5];simp only[cE]at hae;simp[hae,MapKept.run_keyThatStays hik,MapKept.run_setObj_map _ hb]
theorem rD{v:Value}{x:V}(h:az G w ρ v x)(h1:fP x=true)(h2:sP x=true):dN G w ρ v x/\v.cells=#[v]:=by
 cases h with
 |o h=>cases h with
  |c h=>cases h with
   |k h=>
    refine⟨h,?_⟩;cases h with
    |un=>cases h1
    |ud=>rfl
    |d h=>exact h.cells
    |ov id z i v a n c _ h=>subst h;rfl
    |_=>rfl
   |fc=>cases h2
  |ag=>cases h1
 |tu=>cases h1
theorem PY (hC:an E n G ρ t h a w) (hn:gq E n a o K bS) {ty kt e t1 t2 t3:TypeId} {x k v:Operand} {ox ok' ov:O} {ks:List Nat} (ho:o.op = .mapUpdate ty x k v∨o.op = .insert ty x k v) (hu:P.underlying ty=some (.map kt e)) (hx:cO P t1 x=some ox) (hkk:cO P t2 k=some ok') (hv:cO P t3 v=some ov)
    (hks:yU P kt=some ks) (hk:dV S ow (.mu ox ok' ov ks) t h K KP):o.wp P a w bS Q:=by
  have hvx:=bG hC hx
  have hvk:=bG hC hkk
  have hvv:=bG hC hv
  simp only[dV,bn]at hk
  split at hk
  · rename_i id hg
    rw[hg]at hvx
    rw[get?_eq]at hk
    split at hk
    · rename_i es hes
      obtain⟨⟨hst,hkb⟩,r,hf,hk⟩:=hk
      cases r with
      |none=>exact DG (x1:=.mp (es++[(gv t ok',gv t ov)])) hC hn ho hu hks hvk hkb (Cp hvv hst) hes (by simp) (uA hC hvx hes) hf (λ_ _ _ _ h=>h) hk
      |some q=>exact DG (x1:=.mp (es.set q.1 (gv t ok',gv t ov))) hC hn ho hu hks hvk hkb (Cp hvv hst) hes (by simp) (uA hC hvx hes) hf (λ_ _ _ _ h=>h) hk
    · rename_i es0 hes
      split at hk
      · rename_i kd hgk
        obtain⟨⟨hst,hkb⟩,hk⟩:=hk
        simp only[aO,cT]at hst
        obtain⟨hst,hsc⟩:=hst
        obtain⟨c1,c2⟩:=jV hvv hst
        obtain⟨G',t',h',ds,hC1,hG',hdl,hds,hk⟩:=Bv (gv t ov).cs G t h (λi=>(a.eval v).cells.getD i undef) hC c2 hk
        rw[get?_eq]at hk
        split at hk
        · rename_i es hes'
          obtain⟨r,hf,hk⟩:=hk
          rw[hgk]at hvk
          have hvk':az G' w ρ (a.eval k) (.d kd):=.d (hvk.rj.mono hG' (λ_ _=>rfl))
          have hvx':az G' w ρ (a.eval x) (.mp id):=hvx.mono hG' (λ_ _=>rfl) (λ_ _=>rfl)
          have hvv1:dP G' w ρ (a.eval v) (Ny ((gv t ov).pI,ds)):=by
            cases hag:(gv t ov).pI with
            |true=>
              cases hgv:gv t ov with
              |ag cs=>
                rw[hgv]at hvv
                obtain⟨cs',h1,h2,h3⟩:=hvv.Pu
                rw[h1]at hds⊢
                refine .ag cs' _ (by rw[hgv]at hdl;simp[h2,hdl,V.cs]) (λi y hy=>?_)
                rw[aB]at hy
                cases hd:ds[i]? with
                |none=>rw[hd]at hy;cases hy
                |some d=>
                  rw[hd]at hy;cases hy
                  exact .k (.d (hds i d hd))
              |_=>rw[hgv]at hag;cases hag
            |false=>
              have hca:sP (gv t ov)=true:=hsc.resolve_left (by rw[hag];simp)
              have hcs:(gv t ov).cs=[gv t ov]:=by cases hgv:gv t ov<;>rw[hgv]at hag<;>first|rfl|cases hag
              have hs1:fP (gv t ov)=true:=by rw[hcs]at hst;simpa using hst
              obtain⟨_,hcell⟩:=rD hvv hs1 hca
              rw[hcs]at hdl
              match ds,hdl with
              |[d],_=>
                have:=hds 0 d rfl
                rw[hcell]at this
                exact .c (.k (.d this))
          cases r with
          |none=>exact DG (x1:=.dm (es++[(kd,(gv t ov).pI,ds)])) hC1 hn ho hu hks hvk' hkb hvv1 hes' (by simp) (uh hC1 hvx' hes') hf (λG w ρ hd hM=>by
              show nD G w ρ hd (fC (es++[(kd,(gv t ov).pI,ds)]))
              have e:fC (es++[(kd,(gv t ov).pI,ds)])=fC es++[(.d kd,Ny ((gv t ov).pI,ds))]:=by simp[fC]
              rw[e]
              exact hM) hk
          |some q=>exact DG (x1:=.dm (es.set q.1 (kd,(gv t ov).pI,ds))) hC1 hn ho hu hks hvk' hkb hvv1 hes' (by simp) (uh hC1 hvx' hes') hf (λG w ρ hd hM=>by
              show nD G w ρ hd (fC (es.set q.1 (kd,(gv t ov).pI,ds)))
              have e:fC (es.set q.1 (kd,(gv t ov).pI,ds))=(fC es).set q.1 (.d kd,Ny ((gv t ov).pI,ds)):=by simp[fC]
              rw[e]
              exact hM) hk
        · exact hk.elim
      · exact hk.elim
    · rename_i z es out it hes
      exact Hk hC hn ho hu hvx hkk hv hks hes hk
    · exact hk.elim
  · exact hk.elim
theorem rU{α β:Type}(f:α->β):∀(l:List α)(i:Nat),(l.eraseIdx i).map f=(l.map f).eraseIdx i
 |[],_=>rfl
 |_::_,0=>rfl
 |x::l,i+1=>by simp[rU f l i]
theorem UA(hC:an E n G ρ t h a w)(hn:gq E n a o K bS){ty kt e ty2 t1 t2:TypeId}{x k:Operand}{ox ok':O}{ks:List Nat}(ho:o.op=.call {callee:=.builtin .delete,args:= #[x,k],argTypes:= #[ty,ty2]})(hu:P.underlying ty=some (.map kt e))(hx:cO P t1 x=some ox)(hkk:cO P t2 k=some ok')
  (hks:yU P kt=some ks) (hk:dV S ow (.md ox ok' ks) t h K KP):o.wp P a w bS Q:=by
 have hvx:=bG hC hx;have hvk:=bG hC hkk;have hexec:∀w',(Builtin.delete_ #[ty,ty2] o.type #[a.eval x,a.eval k]).run P w=.ok (.tuple #[]) w'->(execOp a.eval o).run P w=.ok (.value (.tuple #[])) w':=by
  intro w' hw;simp[execOp,ho,resolve,invoke,builtin,hw]
 have key:∀(id:Nat)(x0:B)(x1:Nat->B)(es:List (V×V)),h[id]?=some x0->(x0≠.no/\∀z rs,x0≠.lk z rs)->(∀(i:Nat)(G:Nat->Prop)(w:World)(ρ:List Value)(hd:Value),nD G w ρ hd (es.eraseIdx i)->cQ G w ρ hd (x1 i))->(∀i,gh (x1 i)=[])->(∃r arr clk,a.eval x=.map (some r)/\ρ[id]?=some (.map (some r))/\w.heap[r]?=some (.map arr clk)/\arr.size=es.length/\ord arr clk/\∀(i:Nat)(e:MapEntry)(x:V×V),arr[i]?=some e->es[i]?=some x->dP G w ρ e.key x.1/\dP G w ρ e.val x.2) ->
   (kY ks (gv t ok')=true∧∃r,nI ks (gv t ok').cs es 0=some r∧(match r with
    |some (i,_)=>K (.tu []) t (h.set id (x1 i))
    |none=>K (.tu []) t h))->o.wp P a w bS Q:=by
  intro id x0 x1 es hes hn0 hx1 hgx hval hk;obtain⟨hkb,r,hf,hk⟩:=hk;obtain⟨m,arr,clk,he,hρ,hb,hsz,hor,hr⟩:=hval;obtain⟨d,hd,hik⟩:=xg hks hkb hvk;have hf':=Bz hks hd hvk hkb es arr.toList 0 r (by grind) (λj e x h1 h2=>hr j e x (by grind) h2) hf;cases r with
  |none=>
   refine au hC hn (v':=.tuple #[]) (hexec _ ?_) (.tu #[] [] rfl (by simp)) hk;have hset:w.heap.setIfInBounds m (.map arr clk)=w.heap:=by
    grind
   simp[Builtin.delete_,run_underlying hu,he,MapKept.run_getObj_map hb,MapKept.run_checkKey hd hik,MapKept.run_findKey hd hf',MapKept.run_setObj_map _ hb,hset]
  |some p=>
   obtain⟨i,y⟩:=p;obtain⟨m',e',x',rfl,h1,h2,rfl,h4,h5⟩:=hf';have h1':arr[m']?=some e':=by grind
   have hm':m'<arr.size:=(aW.1 h1').1;have hC2:=hC.QH (es':=es.eraseIdx (0+m')) (arr':=arr.eraseIdxIfInBounds (0+m')) (clk':=clk) hρ hes hn0.1 (hx1 _) hb (hgx:=hgx _) (hnl:=hn0.2) (by
     grind) (vu hor) (λi e'' x'' h1 h2=>by
    grind)
   refine dc (hexec _ ?_) (hn _ _ _ _ _ _ _ hC2 (.tu #[] [] rfl (by simp)) hk);simp[Builtin.delete_,run_underlying hu,he,MapKept.run_getObj_map hb,MapKept.run_checkKey hd hik,MapKept.run_findKey hd h5,MapKept.run_setObj_map _ hb]
 simp only[dV,bn]at hk;split at hk
 .rename_i id hg;rw[hg]at hvx;rw[get?_eq]at hk;split at hk
  .rename_i es hes;exact key id _ (λi=>.mp (es.eraseIdx i)) es hes (by simp) (λ_ _ _ _ _ h=>h) (λ_=>rfl) (uA hC hvx hes) hk
  .rename_i es hes;exact key id _ (λi=>.dm (es.eraseIdx i)) _ hes (by simp) (λi G w ρ hd hM=>by
    show nD G w ρ hd (fC (es.eraseIdx i));have e:fC (es.eraseIdx i)=(fC es).eraseIdx i:=rU _ es i
    grind) (λ_=>rfl) (uh hC hvx hes) hk
  .rename_i z es hes;exact Hm hC hn ho hu hvx hkk hks hes hk
  grind
 grind
theorem UD(hC:an E n G ρ t h a w)(hn:gq E n a o K bS){ty kt e t1:TypeId}{x:Operand}{ox:O}(ho:o.op=.call {callee:=.builtin .len,args:= #[x],argTypes:= #[ty]})(hu:P.underlying ty=some (.map kt e))(hx:cO P t1 x=some ox)
  (hk:dV S ow (.lm ox) t h K KP):o.wp P a w bS Q:=by
 have hvx:=bG hC hx;simp only[dV,qv,qv]at hk;split at hk
 .rename_i id hg;rw[hg]at hvx;rw[get?_eq]at hk;split at hk
  .rename_i es hes;obtain⟨m,arr,clk,he,hρ,hb,hsz,hor,hr⟩:=uA hC hvx hes;refine au hC hn (v':=.int .i64 es.length) ?_ (.d (.int _ _)) hk;simp[execOp,ho,resolve,invoke,builtin,Builtin.len_,run_underlying hu,he,MapKept.run_getObj_map hb,goInt,hsz]
  .rename_i es hes;obtain⟨m,arr,clk,he,hρ,hb,hsz,hor,hr⟩:=uh hC hvx hes;have hsz:arr.size=es.length:=by rw[hsz];simp[fC]
   refine au hC hn (v':=.int .i64 es.length) ?_ (.d (.int _ _)) hk;simp[execOp,ho,resolve,invoke,builtin,Builtin.len_,run_underlying hu,he,MapKept.run_getObj_map hb,goInt,hsz]
  .rename_i es r l hes;obtain⟨m,arr,clk,he,hρ,hb,hsz,hor,hr⟩:=KE hC hvx hes;have hsz:arr.size=es.length:=by rw[hsz];simp[fC]
   refine au hC hn (v':=.int .i64 es.length) ?_ (.d (.int _ _)) hk;simp[execOp,ho,resolve,invoke,builtin,Builtin.len_,run_underlying hu,he,MapKept.run_getObj_map hb,goInt,hsz]
  .rename_i z es out it hes;obtain⟨m,arr,clk,he,hρ,hb,hsz,hor,hr⟩:=xX hC hvx hes;refine au hC hn (v':=.int .i64 es.length) ?_ (.d (.int _ _)) hk;simp[execOp,ho,resolve,invoke,builtin,Builtin.len_,run_underlying hu,he,MapKept.run_getObj_map hb,goInt,hsz]
  grind
 .rename_i hg;rw[hg]at hvx;have he:a.eval x=.map none:=Hw hvx.rj;refine au hC hn (v':=.int .i64 0) ?_ (.d (.int _ _)) hk;simp[execOp,ho,resolve,invoke,builtin,Builtin.len_,run_underlying hu,he,goInt]
 grind
theorem UH(hC:an E n G ρ t h a w)(hn:gq E n a o K bS){ty e t1 t2:TypeId}{m:Nat}{x i:Operand}{ox oi:O}(ho:o.op=.indexAddr ty x i)(hu:P.underlying ty=some (.array m e))(hc0:P.cellsOf e≠0)(hx:cO P t1 x=some ox)(hi:cO P t2 i=some oi)
  (hk:dV S ow (.ja ox oi (P.cellsOf e) m) t h K KP):o.wp P a w bS Q:=by
 have hvx:=bG hC hx;have hvi:=bG hC hi;have hrun:∀(b off:Nat)(k:IntKind)(j:Int),a.eval x=.pointer (some ⟨b,off,none⟩)->a.eval i=.int k j->0<=j->j<m ->
   (execOp a.eval o).run P w=.ok (.value (.pointer (some ⟨b,off+j.toNat*P.cellsOf e,none⟩))) w:=by
  intro b off k j h1 h2 h3 h4;unfold Program.cellsOf at hc0⊢;cases hie:P.info? e with
  |none=>grind
  |some ie=>
   simp[execOp,ho,h1,h2,Instr.indexAt,asIntOf,run_underlying hu,h3,h4,sizeOf,typeInfo,hie,dk,Instr.sureAddr]
 simp only[dV,qv,cP]at hk;split at hk
 .rename_i k j hgi;rw[hgi]at hvi;have hei:=hvi.int;split at hk
  .rename_i row off hg;rw[hg]at hvx;obtain⟨b,oo,U,hp,hGb,hU,hD⟩:=hvx.el;obtain⟨sub,⟨h0,hs,hle⟩,hk⟩:=hk;have hle:=bN hle;have hj:j.toNat<m:=by
    have:=(aC.1 hs).1;rwa[jD]at this
   rw[rZ _ _ _ _ hj]at hs;cases hs;refine au hC hn (hrun b (oo+off) k j hp hei h0 (by omega)) ?_ hk;have hget:∀(q:Nat)(y:D),((List.drop (j.toNat*P.cellsOf e) (List.drop off row)).take (P.cellsOf e))[q]?=some y->row[off+j.toNat*P.cellsOf e+q]?=some y:=by
    grind
   have:=dN.e (ρ := ρ) b (oo+off+j.toNat*P.cellsOf e) 0 _ (λq=>U (off+j.toNat*P.cellsOf e+q)) hGb (λq y hq=>by
     grind) (λq y hq=>hD _ _ (hget q y hq))
   exact .k this
  .rename_i id off hg;rw[hg]at hvx;obtain⟨b,hp,hρ⟩:=hvx.pt;exact au hC hn (hrun b off k j hp hei hk.1.1 hk.1.2) (.k (.p id _ b hρ)) hk.2
  grind
 grind
end
end Go.Vx
