/- Interfaces' values, parts of values, panics, slices that are made, in the picture. Conditions: none; lemmas on the definitions before. -/
import Derived.Test.YtjpgfgajkjhonaaGreatDoorQFAJ
import Derived.Laws.MakeOwn
import Derived.Laws.IdiomStrings
namespace Go.Vx
section
variable {P:Program} {E:gI} {n:Nat} {G:Nat→Prop} {ρ:List Value} {t:T} {h:H} {a:Act} {w:World} {o:Oper} {bW:Act→World→Prop} {Q:Exit→Act→World→Prop} {K KP:V→T→H→Prop}
variable (S:Nat→List V→H→(Out→H→Prop)→Prop) (ow:Nat→Bool)
theorem sC (hC:an E n G ρ t h a w) (hn:iI E n a o K bW) {f:PU} {ox:O} {x:Operand} {t1:TypeId} (hx:cX P t1 x=some ox)
  (hrun:∀v,pu f (gv t ox)=some v→∃v',(execOp a.eval o).run P w = .ok (.value v') w∧a_ G w ρ v' v) (hk:bt S ow (.pu f ox) t h K KP):o.wp P a w bW Q:=by
 have _:=hx;simp only [bt] at hk;split at hk
 ·rename_i v hv;obtain ⟨v',h1,h2⟩:=hrun v hv;exact aw hC hn h1 h2 hk
 ·exact hk.elim
theorem Q1 (hC:an E n G ρ t h a w) {ty t1:TypeId} {ag:Bool} {x:Operand} {ox:O} (ho:o.op = .makeInterface ty x) (hni:∀ms,P.underlying ty≠some (.interface ms)) {u:TypeDesc} (hu:P.underlying ty=some u) (hty:LT.lt (α :=Nat) ty 1000000) (hx:cX P t1 x=some ox) :
  ∀v,pu (if ag then .T5 (ty+2000000) else .mi (ty+3000000)) (gv t ox)=some v→∃v',(execOp a.eval o).run P w = .ok (.value v') w∧a_ G w ρ v' v:=by
 intro v hv;have hvx:=bG hC hx;have hrun:(execOp a.eval o).run P w = .ok (.value (.iface ty (a.eval x))) w:=by
  simp only [execOp,ho];refine b_ ?_;simp only [Instr.makeInterface,Sem.run_bind,run_underlying hu,Result.andThen_ok];split
  ·rename_i ms;exact absurd hu (hni ms)
  ·rfl
 refine ⟨_,hrun,?_⟩;cases ag
 ·simp only [cj,if_false] at hv;simp only [pu] at hv;cases hb:(eb (gv t ox)&&s_ (gv t ox)) with
  |false=>rw [hb] at hv;cases hv
  |true=>
   rw [hb] at hv;simp only [cond_true,aF] at hv;subst hv;simp only [aS] at hb;obtain ⟨h1,h2⟩:=pj hvx hb.1 hb.2;refine .c (.fc _ _ #[a.eval x] _ (.inr ⟨by simp,.inr (.inr ⟨ty,a.eval x,rfl,hty,rfl,h2,rfl⟩)⟩) rfl (λi y hy=>?_))
   match i,hy with
   |0,hy=>cases hy;exact h1
 ·simp only [if_true] at hv;cases hg:gv t ox with
  |ag cs=>
   rw [hg] at hv hvx;simp only [pu] at hv;cases hb:(!cs.isEmpty&&(cs.all eb&&cs.all s_)) with
   |false=>rw [hb] at hv;cases hv
   |true=>
    rw [hb] at hv;simp only [cond_true,aF] at hv;subst hv;simp only [aS,dE,aT] at hb;obtain ⟨cs',h1,h2,h3⟩:=hvx.PS;rw [h1];have hpos:0<cs'.size:=by
     rw [h2];cases cs with
     |nil=>simp at hb
     |cons=>simp
    refine .c (.fc _ _ cs' _ (.inr ⟨hpos,.inr (.inl ⟨ty,rfl,hty,rfl⟩)⟩) h2 (λi y hy=>?_));have hm:=aH hy;have h4:=h3 i y hy;exact (pj (.c h4) (hb.2.1 y hm) (hb.2.2 y hm)).1
  |_=>rw [hg] at hv;cases hv
theorem sk {F:Nat} {v:Value} {cs:Array Value} (h:Gd F v cs) (hF:2000000≤F):(F<3000000∧v = .iface (F - 2000000) (.agg cs)∧0<cs.size)∨(3000000≤F∧∃x,v = .iface (F - 3000000) x∧cs = #[x]):=by
 rcases h with ⟨h,_⟩ | ⟨h,⟨f,rfl,hf,_⟩ | ⟨f,rfl,hf,rfl⟩ | ⟨f,x,rfl,hf,rfl,_,rfl⟩⟩
 ·omega
 ·omega
 ·exact .inl ⟨by omega,by rw [Nat.add_sub_cancel],h⟩
 ·exact .inr ⟨by omega,x,by rw [Nat.add_sub_cancel],rfl⟩
theorem Q0 (hC:an E n G ρ t h a w) {xt ty t1:TypeId} {ag ok:Bool} {zv:V} {x:Operand} {ox:O} (ho:o.op = .typeAssert x xt ty ok) (hni:∀ms,P.underlying ty≠some (.interface ms)) {u:TypeDesc} (hu:P.underlying ty=some u) (hty:LT.lt (α :=Nat) ty 1000000) (hz:yn P ty=some zv)
  (hx:cX P t1 x=some ox):∀v,pu (.ta ty ag zv ok) (gv t ox)=some v→∃v',(execOp a.eval o).run P w = .ok (.value v') w∧a_ G w ρ v' v:=by
 intro v hv;have hvx:=bG hC hx;obtain ⟨z,hz1,hz2,_⟩:=vF (P:=P) (G:=G) (w:=w) (ρ := ρ) hz;have tup:∀(v:Value) (y:V) (b:Bool),dM G w ρ v y→a_ G w ρ (.tuple #[v,.bool b]) (.tu [y,.d (.bool b)]):=by
  intro v y b hv;refine .tu #[v,.bool b] _ rfl (λi x hx=>?_)
  match i,hx with
  |0,hx=>cases hx;exact hv
  |1,hx=>cases hx;exact .c (.k (.d (.bool b)))
 have hold:∀(c:Value),a.eval x = .iface ty c→(execOp a.eval o).run P w = .ok (.value (if ok then .tuple #[c,.bool true] else c)) w:=by
  intro c hc;simp only [execOp,ho];refine b_ ?_;cases u with
  |interface ms=>exact absurd hu (hni ms)
  |_=>simp [Instr.typeAssert,Sem.run_bind,run_underlying hu,hc]
 have fail:ok=true→(a.eval x = .nilIface∨∃t' c,a.eval x = .iface t' c∧t'≠ty)→(execOp a.eval o).run P w = .ok (.value (.tuple #[z,.bool false])) w:=by
  intro hok hc;subst hok;simp only [execOp,ho];refine b_ ?_;have hzv:(zeroValue ty).run P w = .ok z w:=hz1;cases u with
  |interface ms=>exact absurd hu (hni ms)
  |_=>
   rcases hc with hc | ⟨t',c,hc,hne⟩
   ·simp [Instr.typeAssert,Sem.run_bind,run_underlying hu,hc,hzv]
   ·simp [Instr.typeAssert,Sem.run_bind,run_underlying hu,hc,hzv,hne]
 cases hg:gv t ox with
 |fc F caps=>
  rw [hg] at hv hvx;obtain ⟨cs,hfc,hsz,hr⟩:=hvx.No;simp only [pu] at hv;cases hF:Nat.beq F (bif ag then ty+2000000 else ty+3000000) with
  |true=>
   rw [hF] at hv;have hFe:=j2 hF;simp only [cond_true] at hv;cases ag with
   |true=>
    simp only [cond_true] at hFe;simp only [aF] at hv;subst hv;rcases sk hfc (by omega) with ⟨_,hv,_⟩ | ⟨h1,_⟩
    ·rw [show F - 2000000=ty by omega] at hv;refine ⟨_,hold _ hv,?_⟩;have hrep:dM G w ρ (.agg cs) (.ag caps):=.ag cs caps hsz λi y hy=>.k (hr i y hy);cases ok
     ·exact .o hrep
     ·exact tup _ _ true hrep
    ·omega
   |false=>
    simp only [cond_false] at hFe;cases caps with
    |nil=>cases hv
    |cons y ys=>
     simp only [aF] at hv;subst hv;rcases sk hfc (by omega) with ⟨h1,_⟩ | ⟨_,c,hv,rfl⟩
     ·omega
     ·rw [show F - 3000000=ty by omega] at hv;refine ⟨_,hold _ hv,?_⟩;have hrep:dM G w ρ c y:=.c (.k (hr 0 y rfl));cases ok
      ·exact .o hrep
      ·exact tup _ _ true hrep
  |false=>
   rw [hF] at hv;simp only [cond_false] at hv;cases hb:(ok&&(Nat.ble 2000000 F&&(!(Nat.beq F (ty+2000000)) && !(Nat.beq F (ty+3000000))))) with
   |false=>rw [hb] at hv;cases hv
   |true=>
    rw [hb] at hv;simp only [cond_true,aF] at hv;subst hv;simp only [aS,dE] at hb;obtain ⟨h1,h2,h3,h4⟩:=hb;have h2:=az h2;have h3:F≠ty+2000000:=λe=>by subst e;simp at h3
    have h4:F≠ty+3000000:=λe=>by subst e;simp at h4
    refine ⟨_,fail h1 (.inr ?_),tup _ _ false hz2⟩;rcases sk hfc h2 with ⟨h5,hv,_⟩ | ⟨h5,c,hv,_⟩
    ·exact ⟨_,_,hv,λe=>by have e:F - 2000000=(ty:Nat):=e;omega⟩
    ·exact ⟨_,_,hv,λe=>by have e:F - 3000000=(ty:Nat):=e;omega⟩
 |d y=>
  rw [hg] at hv hvx;cases y with
  |ni=>
   have hi:a.eval x = .nilIface:=by
    have:=hvx.q9;cases hav:a.eval x<;>rw [hav] at this<;>first | rfl | (cases this;done) | skip
    all_goals (cases this)
   simp only [pu] at hv;cases ok with
   |false=>cases hv
   |true=>
    simp only [cond_true,aF] at hv;subst hv;exact ⟨_,fail rfl (.inl hi),tup _ _ false hz2⟩
  |_=>cases hv
 |_=>rw [hg] at hv;cases hv
theorem L1 (hC:an E n G ρ t h a w) {ne:Bool} {ty t1 t2:TypeId} {ms} {x:Operand} {ox:O} (ho:o.op = .binOp (bif ne then .neq else .eql) ty x (.const .nilIface) t2) (hu:P.underlying ty=some (.interface ms)) (hx:cX P t1 x=some ox) :
  ∀v,pu (.iq ne) (gv t ox)=some v→∃v',(execOp a.eval o).run P w = .ok (.value v') w∧a_ G w ρ v' v:=by
 intro v hv;have hvx:=bG hC hx;have e0:a.eval (.const .nilIface) = .nilIface:=rfl;have key:∀(av:Value) (r:Bool),a.eval x=av→(av = .nilIface∨∃t c,av = .iface t c)→(∀k,(Op.equalIn (k+1) ty av .nilIface).run P w = .ok r w)→(execOp a.eval o).run P w = .ok (.value (.bool (bif ne then !r else r))) w:=by
  intro av r he hav heq;have heq:(Op.equal ty av .nilIface).run P w = .ok r w:=heq 9999;cases ne<;>simp only [cond_true,cond_false] at ho ⊢<;>simp only [execOp,ho,he,e0]
  ·refine b_ ?_;rcases hav with rfl | ⟨t,c,rfl⟩<;>simp [eqGuard,binOp,heq]
  ·refine b_ ?_;rcases hav with rfl | ⟨t,c,rfl⟩<;>simp [eqGuard,binOp,heq]
 cases hg:gv t ox with
 |fc F caps=>
  rw [hg] at hv hvx;obtain ⟨cs,hfc,hsz,hr⟩:=hvx.No;simp only [pu] at hv;cases hb:Nat.ble 2000000 F with
  |false=>rw [hb] at hv;cases hv
  |true=>
   rw [hb] at hv;simp only [cond_true,aF] at hv;subst hv;have:∃t' c,a.eval x = .iface t' c:=by
    rcases sk hfc (az hb) with ⟨_,hv,_⟩ | ⟨_,c,hv,_⟩
    ·exact ⟨_,_,hv⟩
    ·exact ⟨_,_,hv⟩
   obtain ⟨t',c,hc⟩:=this;refine ⟨_,key _ false hc (.inr ⟨_,_,rfl⟩) (λk=>by simp [Op.equalIn,run_underlying hu]),?_⟩;cases ne<;>exact .d (.bool _)
 |d y=>
  rw [hg] at hv hvx;cases y with
  |ni=>
   have hi:a.eval x = .nilIface:=by
    have:=hvx.q9;cases hav:a.eval x<;>rw [hav] at this<;>first | rfl | (cases this;done) | skip
    all_goals (cases this)
   simp only [pu,aF] at hv;subst hv;refine ⟨_,key _ true hi (.inl rfl) (λk=>by simp [Op.equalIn,run_underlying hu]),?_⟩;cases ne<;>exact .d (.bool _)
  |_=>cases hv
 |_=>rw [hg] at hv;cases hv
theorem L0 (hC:an E n G ρ t h a w) {ne:Bool} {ty t1 t2 e:TypeId} {x:Operand} {ox:O} (ho:o.op = .binOp (bif ne then .neq else .eql) ty x (.const (.pointer none)) t2) (hu:P.underlying ty=some (.pointer e)) (hx:cX P t1 x=some ox) :
  ∀v,pu (.pq ne) (gv t ox)=some v→∃v',(execOp a.eval o).run P w = .ok (.value v') w∧a_ G w ρ v' v:=by
 intro v hv;have hvx:=bG hC hx;have e0:a.eval (.const (.pointer none)) = .pointer none:=rfl;have key:∀(q:Option Addr),a.eval x = .pointer q→(execOp a.eval o).run P w = .ok (.value (.bool (bif ne then !q.isNone else q.isNone))) w:=by
  intro q he;have hek:∀k,(Op.equalIn (k+1) ty (.pointer q) (.pointer none)).run P w = .ok q.isNone w:=λk=>by
   cases q<;>simp [Op.equalIn,run_underlying hu]
  have heq:(Op.equal ty (.pointer q) (.pointer none)).run P w = .ok q.isNone w:=hek 9999;cases ne<;>simp only [cond_true,cond_false] at ho ⊢<;>simp only [execOp,ho,he,e0]
  ·refine b_ ?_;simp [eqGuard,binOp,heq]
  ·refine b_ ?_;simp [eqGuard,binOp,heq]
 have fin:∀(q:Option Addr),a.eval x = .pointer q→v = .d (.bool (bif ne then !q.isNone else q.isNone))→∃v',(execOp a.eval o).run P w = .ok (.value v') w∧a_ G w ρ v' v:=λq h1 h2=>⟨_,key q h1,by rw [h2];exact .d (.bool _)⟩
 generalize a.eval x=av at hvx fin;cases hg:gv t ox with
 |p i o=>
  rw [hg] at hv hvx;cases hvx with | o h=>cases h with | c h=>cases h with | k h=>cases h with | p _ _ b h=>exact fin _ rfl (by cases ne<;>exact (ak hv).symm)
 |e r o=>
  rw [hg] at hv hvx;cases hvx with | o h=>cases h with | c h=>cases h with | k h=>cases h with | e b=>exact fin _ rfl (by cases ne<;>exact (ak hv).symm)
 |q i z j o=>
  rw [hg] at hv hvx;cases hvx with | o h=>cases h with | c h=>cases h with | k h=>cases h with | q=>exact fin _ rfl (by cases ne<;>exact (ak hv).symm)
 |d y=>
  rw [hg] at hv hvx;cases y with
  |np=>
   have:=hvx.q9;cases this;exact fin _ rfl (by cases ne<;>exact (ak hv).symm)
  |_=>cases hv
 |_=>rw [hg] at hv;cases hv
theorem Q2 (hC:an E n G ρ t h a w) {ty t1:TypeId} {fs:Array Field} {f:Nat} {fd:Field} {m:Option Nat} {x:Operand} {ox:O} (ho:o.op = .field ty x f) (hu:P.underlying ty=some (.struct fs)) (hf:fs[f]? = some fd) (hl:t_ P fd.type=some m) (hx:cX P t1 x=some ox) :
  ∀v,pu (.fd fd.offset m) (gv t ox)=some v→∃v',(execOp a.eval o).run P w = .ok (.value v') w∧a_ G w ρ v' v:=by
 intro v hv;have hvx:=bG hC hx;cases hg:gv t ox with
 |ag cs=>
  rw [hg] at hv hvx;obtain ⟨cs',hc,hsz,hr⟩:=hvx.PS;have hl0:=hl;simp only [t_,aJ,aD] at hl;obtain ⟨i,hi,b,hb,hm⟩:=hl;cases b with
  |false=>
   simp only [cj,if_false,aF] at hm;subst hm;simp only [pu] at hv;have hlt:fd.offset<cs'.size:=by rw [hsz];exact (aA.1 hv).1
   refine ⟨cs'.getD fd.offset undef,?_,.c (hr _ _ hv)⟩;simp only [execOp,ho,hc];refine b_ ?_;simp [Instr.field,run_underlying hu,hf,asAgg,part,iW hb,hlt]
  |true=>
   simp only [if_true,aF] at hm;subst hm;simp only [pu] at hv;cases hbq:Nat.beq ((cs.drop fd.offset).take i.size).length i.size with
   |false=>rw [hbq] at hv;cases hv
   |true=>
    rw [hbq] at hv;simp only [cond_true,aF] at hv;subst hv;have hlen:=j2 hbq;rw [ah,bz] at hlen;refine ⟨.agg (cs'.extract fd.offset (fd.offset+i.size)),?_,.o (.ag _ _ ?_ (λj y hy=>?_))⟩
    ·simp only [execOp,ho,hc];refine b_ ?_;simp [Instr.field,run_underlying hu,hf,asAgg,part,iW hb,sizeOf,typeInfo,hi]
    ·rw [Array.size_extract,ah,bz];omega
    ·have hj:j<i.size:=by
      have:=(aA.1 hy).1;rw [ah,bz] at this;omega
     rw [aZ,if_pos hj,ao] at hy;have:=hr _ y hy;have hlt:fd.offset+j<cs'.size:=by rw [hsz];exact (aA.1 hy).1
     rw [aE,aI hlt] at this;rw [aE,Array.getElem?_extract];rw [if_pos (by omega),aI hlt];exact this
 |_=>rw [hg] at hv;cases m<;>cases hv
theorem Qg (hC:an E n G ρ t h a w) (hp:Pr E n a KP Q) {x:Operand} {ox:O} {t1:TypeId} (ho:o.op = .panic x) (hx:cX P t1 x=some ox) (hk:bt S ow (.pn ox) t h K KP):o.wp P a w bW Q:=by
 have hvx:=bG hC hx;simp only [bt] at hk;split at hk
 ·rename_i F cs hg;rw [hg] at hvx;obtain ⟨cs',hfc,_,_⟩:=hvx.No;cases hb:Nat.ble 2000000 F with
  |false=>rw [hb] at hk;exact hk.elim
  |true=>
   rw [hb] at hk;have:∃t' c,a.eval x = .iface t' c:=by
    rcases sk hfc (az hb) with ⟨_,hv,_⟩ | ⟨_,c,hv,_⟩
    ·exact ⟨_,_,hv⟩
    ·exact ⟨_,_,hv⟩
   obtain ⟨t',c,hc⟩:=this;have hq:=hp _ _ _ _ _ _ _ hC hvx hk;unfold Oper.wp;have hrun:(execOp a.eval o).run P w = .halt (.panic (.iface t' c)) w:=by
    simp only [execOp,ho,hc];simp [Instr.panic,goPanic]
   rw [hrun];rw [hc] at hq;exact hq
 ·exact hk.elim
theorem Qp (hC:an E n G ρ t h a w) (hn:iI E n a o K bW) {ty e t1 t2:TypeId} {zs:List V} {ds:List D} {i:TypeInfo} {l c:Operand} {ol oc:O} (ho:o.op = .makeSlice ty l c) (hu:P.underlying ty=some (.slice e)) (hz:q8 P e=some zs) (hd:zs.mapM Pp=some ds) (hi:P.info? e=some i)
  (hzl:zs.length=P.cellsOf e) (hl:cX P t1 l=some ol) (hc:cX P t2 c=some oc) (hk:bt S ow (.mk ds (P.cellsOf e) i.bytes ol oc) t h K KP):o.wp P a w bW Q:=by
 have hvl:=bG hC hl;have hvc:=bG hC hc;obtain ⟨i',z,hi',hz1,hzs,_,hzr⟩:=j9 (G:=G) (w:=w) (ρ := ρ) hz;rw [hi] at hi';cases hi';simp only [bt,bf,cZ] at hk;split at hk
 ·rename_i kl m kc q hgl hgc;rw [hgl] at hvl;rw [hgc] at hvc;have el:=hvl.int;have ec:=hvc.int;obtain ⟨⟨h0,h1,h2,h3⟩,hk⟩:=hk;have hsz:P.cellsOf e=i.size:=by simp [Program.cellsOf,hi]
  obtain ⟨d1,d2⟩:=ua hd;have hrun:=run_make (P:=P) w ty e i z hu hi hz1 kl kc m q h0 h1 (by rw [Int.mul_comm];omega) h3;have hC2:=hC.push (gU.alloc w (.cells (madeCells z.cells (q.toNat*i.size)) e)) (.slice (some ⟨w.heap.size,0,none⟩) m.toNat q.toNat) (.rows (P.cellsOf e) (List.replicate m.toNat ds)) (by intro b hb;simp only [fo,aF] at hb;omega)
   (.inr ⟨w.heap.size,q.toNat,madeCells z.cells (q.toNat*i.size),e,by simp,heap_alloc_new w _,by simp;omega,by simp only [maxLen];omega,by rw [size_madeCells,hsz],λj row hr=>by
    rw [List.getElem?_replicate] at hr;split at hr
    ·rename_i hj;cases hr;refine ⟨by rw [d1,hzl],λk x hx=>?_⟩;have hkl:k<zs.length:=by rw [←d1];exact (aA.1 hx).1
     have hks:k<i.size:=by rw [←hsz,←hzl];exact hkl
     have hzc:z.cells.size=i.size:=by rw [hzs,hzl,hsz]
     have hlt:j*i.size+k<q.toNat*i.size:=by
      have:(j+1)*i.size≤q.toNat*i.size:=bB _ (by omega);rw [bh] at this;omega
     have hget:(madeCells z.cells (q.toNat*i.size)).getD (j*P.cellsOf e+k) undef=z.cells.getD k undef:=by
      rw [hsz,aE,madeCells,eI,Array.getElem?_range];rw [if_pos hlt,bK,b7,hzc,Nat.mul_comm,Nat.mul_add_mod,cT hks];rw [aE,aI (by rw [hzc];exact hks)];simp [getElem!_pos,hzc,hks]
     rw [hget];have hv:=(hzr k zs[k] (aB hkl)).1;have hdo:=d2 k zs[k] x (aB hkl) hx;have:=Gl hv hdo;exact this.mono (λ_ h=>h) (λb hb=>(gU.alloc w _).hN b (hC.ok.hr.gl b hb))
    ·cases hr⟩)
  refine dU ?_ (hn _ _ _ _ _ _ _ hC2 (.k (.os h.length (some ⟨w.heap.size,0,none⟩) m.toNat q.toNat (by rw [←hC.ok.hr.len];simp))) hk);simp only [execOp,ho,el,ec];exact b_ hrun
 ·exact hk.elim
theorem Nc {d:D} {x:V} (h:Se d x=true):x = .d d:=by
 unfold Se at h;split at h
 ·rw [show (_:Bool)=_ from beq_iff_eq.1 h]
 ·simp only [aS,beq_iff_eq] at h;rw [wD h.1,h.2]
 ·cases h
theorem RP (hC:an E n G ρ t h a w) (hn:iI E n a o K bW) {ty:TypeId} {zs:List V} {d:D} {m:Nat} (ho:o.op = .alloc ty) (hz:q8 P ty=some zs) (hl:zs.length=m) (hm:m≤1000000) (hd:zs.all (Se d)=true)
  (hk:K (.q h.length 1 0 0) t (h ++ [.rows 1 (List.replicate m [d])])):o.wp P a w bW Q:=by
 obtain ⟨i,z,hi,hz1,hzs,_,hzr⟩:=j9 (G:=G) (w:=w) (ρ := ρ) hz;have hC2:=hC.push (gU.alloc w (.cells z.cells ty)) (.slice (some ⟨w.heap.size,0,none⟩) m m) (.rows 1 (List.replicate m [d])) (by intro b hb;simp only [fo,aF] at hb;omega)
  (.inr ⟨w.heap.size,m,z.cells,ty,by simp,heap_alloc_new w _,by simp,by simp only [maxLen];omega,by rw [hzs,hl,Nat.mul_one],λj row hr=>by
   rw [List.getElem?_replicate] at hr;split at hr
   ·rename_i hj;cases hr;refine ⟨rfl,λk x hx=>?_⟩;have hk0:k=0:=by
     have:=(aA.1 hx).1;simpa using this
    subst hk0;simp at hx;subst hx;have hjl:j<zs.length:=by omega
    have hv:=(hzr j zs[j] (aB hjl)).1;rw [Nc (aT.1 hd _ (cV hjl))] at hv;have hv2:br G w (z.cells.getD j undef) d:=by
     generalize z.cells.getD j undef=u at hv ⊢;cases hv;assumption
    rw [Nat.mul_one,dh];exact hv2.mono (λ_ h=>h) (λb hb=>(gU.alloc w _).hN b (hC.ok.hr.gl b hb))
   ·cases hr⟩)
 refine dU (v':=.pointer (some ⟨w.heap.size,0,none⟩)) ?_ (hn _ _ _ _ _ _ _ hC2 (.k (.q h.length 1 0 0 w.heap.size m m (by rw [←hC.ok.hr.len];simp))) hk);simp [execOp,ho,Instr.alloc,zeroValue,typeInfo,hi,hz1,newVar,newRow]
theorem Qw (hC:an E n G ρ t h a w) (hn:iI E n a o K bW) {ty t1:TypeId} {x:Operand} {ox:O} {m:Nat} (ho:o.op = .load ty x) (hx:cX P t1 x=some ox) (hl:t_ P ty=some (some m)) (hk:bt S ow (.la ox m) t h K KP):o.wp P a w bW Q:=by
 have hv:=bG hC hx;simp only [bt] at hk;split at hk
 ·rename_i id z i off hg;rw [hg] at hv;obtain ⟨b,nn,c,hp,hρ⟩:=hv.ql;rw [get?_eq] at hk;split at hk
  ·rename_i z' rs hrs;obtain ⟨hq,ds,⟨rfl,hds⟩,hk⟩:=hk;simp only [aS] at hq;obtain ⟨⟨⟨q1,q2⟩,q3⟩,q4⟩:=hq;obtain rfl:=j2 q1;obtain rfl:=j2 q2;obtain rfl:=j2 q3;obtain rfl:=j2 q4;rw [Nat.zero_mul,dh] at hp;have hrow:∀(j:Nat) (d:D),ds[j]? = some d→∃v,w.cell? ⟨b,0+j,none⟩=some v∧br G w v d:=λj d hj=>by
    obtain ⟨b',cap,arr,ty',hb,h1,h2,hle,h3⟩:=j7 (hC.ok.hr.rep id _ _ hρ hrs) (i:=j) (row:=[d]) (by rw [aC,hj];rfl);simp only [Value.slice.injEq,aF,Addr.mk.injEq,and_true] at hb;obtain ⟨rfl,_,_⟩:=hb;have:=h3 0 d rfl;rw [Nat.mul_one,dh] at this;exact ⟨_,by rw [b8];exact this.1,this.2⟩
   refine wB hC hn ho hp hl (U:=λj=>(w.cell? ⟨b,0+j,none⟩).getD undef) (vs:=ds.map .d) (by simpa using hds) (λj y hy=>?_) hk;rw [aC] at hy;cases hd:ds[j]? with
   |none=>rw [hd] at hy;cases hy
   |some d=>
    rw [hd] at hy;cases hy;obtain ⟨v,h1,h2⟩:=hrow j d hd;rw [h1];exact ⟨rfl,.k (.d h2)⟩
  ·exact hk.elim
 ·exact hk.elim
theorem Qx (hC:an E n G ρ t h a w) (hn:iI E n a o K bW) {ty e t1 t2:TypeId} {m:Nat} {x i:Operand} {ox oi:O} (ho:o.op = .indexAddr ty x i) (hu:P.underlying ty=some (.array m e)) (hc1:P.cellsOf e=1) (hx:cX P t1 x=some ox) (hi:cX P t2 i=some oi)
  (hk:bt S ow (.jq ox oi m) t h K KP):o.wp P a w bW Q:=by
 have hvx:=bG hC hx;have hvi:=bG hC hi;have hrun:∀(b off:Nat) (k:IntKind) (j:Int),a.eval x = .pointer (some ⟨b,off,none⟩)→a.eval i = .int k j→0≤j→j<m →
   (execOp a.eval o).run P w = .ok (.value (.pointer (some ⟨b,off+j.toNat*P.cellsOf e,none⟩))) w:=by
  intro b off k j h1 h2 h3 h4;unfold Program.cellsOf at hc1 ⊢;cases hie:P.info? e with
  |none=>rw [hie] at hc1;simp at hc1
  |some ie=>
   simp [execOp,ho,h1,h2,Instr.indexAt,asIntOf,run_underlying hu,h3,h4,sizeOf,typeInfo,hie,dx,Instr.sureAddr]
 simp only [bt] at hk;split at hk
 ·rename_i id z j off k q hgx hgi;rw [hgx] at hvx;rw [hgi] at hvi;obtain ⟨b,nn,c,hp,hρ⟩:=hvx.ql;obtain ⟨hq,⟨h0,h1⟩,hk⟩:=hk;simp only [aS] at hq;obtain ⟨⟨q1,q2⟩,q3⟩:=hq;obtain rfl:=j2 q1;obtain rfl:=j2 q2;obtain rfl:=j2 q3;refine aw hC hn (hrun b _ k q hp hvi.int h0 h1) ?_ hk;rw [hc1];have:=dL.q (G:=G) (w:=w) id 1 q.toNat 0 b nn c hρ;simp only [Nat.zero_mul,b8,dh] at this ⊢;exact .k this
 ·exact hk.elim
theorem RO (hC:an E n G ρ t h a w) (hn:iI E n a o K bW) {ty e t1 t2:TypeId} {m:Nat} {x i:Operand} {ox oi:O} (ho:o.op = .index ty x i) (hu:P.underlying ty=some (.array m e)) (hag:kF P e=some false) (hc1:P.cellsOf e=1) (hx:cX P t1 x=some ox) (hi:cX P t2 i=some oi)
  (hk:bt S ow (.ai ox oi m) t h K KP):o.wp P a w bW Q:=by
 have hvx:=bG hC hx;have hvi:=bG hC hi;simp only [bt] at hk;split at hk
 ·rename_i cs k q hgx hgi;rw [hgx] at hvx;rw [hgi] at hvi;obtain ⟨cv,e1,iP,hcr⟩:=hvx.PS;have e2:=hvi.int;obtain ⟨v,⟨h0,h1,h2⟩,hk⟩:=hk;have hlt:q.toNat<cv.size:=by rw [iP];exact (aA.1 h2).1
  have hr:=hcr _ _ h2;have hv:br G w (cv.getD q.toNat undef) v:=by
   generalize cv.getD q.toNat undef=u at hr;cases hr with
   |k h=>cases h;assumption
  refine aw hC hn (v':=cv.getD q.toNat undef) ?_ (.d hv) hk;have hag':(isAgg e).run P w = .ok false w:=by
   unfold kF at hag;cases hue:P.underlying e with
   |none=>rw [hue] at hag;cases hag
   |some u=>
    rw [hue] at hag;simp only [isAgg,Sem.run_bind,run_underlying hue,Result.andThen];cases u<;>simp_all
  unfold Program.cellsOf at hc1;cases hie:P.info? e with
  |none=>rw [hie] at hc1;simp at hc1
  |some ie=>
   rw [hie] at hc1;simp at hc1;simp [execOp,ho,e1,e2,Instr.index,asIntOf,run_underlying hu,h0,h1,sizeOf,typeInfo,hie,hc1,part,hag',hlt]
 ·exact hk.elim
theorem Qd (hC:an E n G ρ t h a w) (hn:iI E n a o K bW) {s d e t1:TypeId} {x:Operand} {ox:O} (ho:o.op = .convert s d x) (hs:P.underlying s=some (.slice e)) (he:P.underlying e=some (.int .u8)) (hd:P.underlying d=some .string) (hx:cX P t1 x=some ox)
  (hk:bt S ow (.sb ox) t h K KP):o.wp P a w bW Q:=by
 have hvx:=CA (bG hC hx);have nil:∀(c:Nat),a.eval x = .slice none 0 c→K (.d (.str [])) t h→o.wp P a w bW Q:=by
  intro c hv hk;have hr:=br.str (G:=G) (w:=w) ByteArray.empty (by simp [maxLen]);refine aw hC hn (v':=.string ByteArray.empty) ?_ (.d hr) hk;simp only [execOp,ho,hv];exact b_ (by rw [run_convert_bytes_string w s d e none 0 c hs he hd];simp [Conv.bytesToString])
 have fin:∀(l:List UInt8) (ad:Addr) (c:Nat),a.eval x = .slice (some ad) l.length c→l.length≤maxLen→(∀j (hj:j<l.length),w.cell? (ad.add j)=some (.int .u8 (l[j].toNat:Int)))→K (.d (.str l)) t h→o.wp P a w bW Q:=by
  intro l ad c hv hm hc hk;have hr:=br.str (G:=G) (w:=w) ⟨l.toArray⟩ (by simpa [ByteArray.size] using hm);simp only at hr;refine aw hC hn (v':=.string ⟨l.toArray⟩) ?_ (.d hr) hk;simp only [execOp,ho,hv];exact b_ (run_convert_bytes_back w s d e ad c l hs he hd hc)
 have dat:∀(z:Nat) (l:List UInt8) (v:Value),a.eval x=v→br G w v (.sl z (l.map λb=>[D.int .u8 b.toNat]))→K (.d (.str l)) t h→o.wp P a w bW Q:=by
  intro z l v hv hD hk;generalize hr:(l.map λb=>[D.int .u8 b.toNat])=r at hD;have hnil:r = []→l = []:=λe=>by rw [e] at hr;simpa using hr
  cases hD with
  |wv=>rw [hnil rfl] at hk;exact nil 0 hv hk
  |sle ad=>rw [hnil rfl] at hk hr;exact fin [] ad 0 hv (by simp [maxLen]) (λj hj=>absurd hj (by simp)) (by simpa using hk)
  |sl b oo cap _ _ U h1 h2 h3 h4 h5 h6=>
   subst hr;rw [aK] at hv h1;refine fin l ⟨b,oo,none⟩ cap hv (aY h1 h2) (λj hj=>?_) hk;have hg:(l.map λb=>[D.int .u8 b.toNat])[j]? = some [D.int .u8 l[j].toNat]:=by rw [aC,aB hj];rfl
   have hz:=h4 j _ hg;simp only [aU,af] at hz;have hc:=h5 j _ 0 _ hg rfl;have hu:=h6 j _ 0 _ hg rfl;rw [←hz] at hc;rw [dx,show oo+j=oo+(j*(0+1)+0) by omega,hc];generalize U j 0=u at hu;cases hu;rfl
 simp only [bt] at hk;split at hk
 ·rename_i z r hg;rw [hg] at hvx;obtain ⟨l,rfl,hk⟩:=hk;exact dat z l _ rfl hvx.q9 hk
 ·rename_i z r hg;rw [hg] at hvx;obtain ⟨ad,m,hv,hD⟩:=hvx.MA;obtain ⟨l,rfl,hk⟩:=hk;exact dat z l _ hv hD hk
 ·rename_i id hg;rw [hg] at hvx;obtain ⟨ad,m,c,hv,hρ⟩:=hvx.NC;rw [get?_eq] at hk;split at hk
  ·rename_i z r hr;obtain ⟨l,rfl,hk⟩:=hk;rcases hC.ok.hr.rep id _ _ hρ hr with ⟨he,hl⟩ | ⟨b,cap,arr,ty',he,h1,hlc,hcm,hsz,hrow⟩
   ·cases he;have:l = []:=by simpa using hl
    subst this;exact nil 0 hv hk
   ·rw [aK] at he hlc;cases he;refine fin l ⟨b,0,none⟩ c hv (aY hlc hcm) (λj hj=>?_) hk;have hg:(l.map λb=>[D.int .u8 b.toNat])[j]? = some [D.int .u8 l[j].toNat]:=by rw [aC,aB hj];rfl
    obtain ⟨hz,hD⟩:=hrow j _ hg;simp only [aU,af] at hz;have hu:=hD 0 _ rfl;rw [←hz] at hu hsz;have hjl:j<arr.size:=by omega
    rw [dx,dG h1];have e1:arr.getD (j*(0+1)+0) undef=arr[j]:=by
     rw [show j*(0+1)+0=j by omega,aE,aI hjl];rfl
    rw [e1] at hu;rw [b8,aI hjl];generalize arr[j]=u at hu;cases hu;rfl
  ·exact hk.elim
 ·exact hk.elim
end
end Go.Vx
namespace Go.Vx
section
variable {P:Program} {E:gI} {n:Nat} {G:Nat→Prop} {ρ:List Value} {t:T} {h:H} {a:Act} {w:World} {o:Oper} {bW:Act→World→Prop} {Q:Exit→Act→World→Prop} {K KP:V→T→H→Prop}
variable (ow:Nat→Bool)
theorem x8 {P:Program} {lo:Option Operand} {olo:Option O} (h:(match lo with | none=>some none | some x=>(cX P 0 x).map some)=some olo):(lo=none∧olo=none)∨∃y oy ty',lo=some y∧olo=some oy∧cX P ty' y=some oy:=by
 cases lo with
 |none=>cases h;exact .inl ⟨rfl,rfl⟩
 |some y=>
  simp only [aG] at h;obtain ⟨oy,h1,rfl⟩:=h;exact .inr ⟨y,oy,0,rfl,rfl,h1⟩
theorem ky {α β:Type} {f:α→Option β}:∀{l:List α} {r:List β},l.mapM f=some r→r.length=l.length∧∀(k:Nat) (x:α) (y:β),l[k]? = some x→r[k]? = some y→f x=some y:=by
 intro l
 induction l with
 |nil=>intro r h;simp at h;subst h;simp
 |cons x l ih=>
  intro r h;simp only [gC,aJ,aD,jG,aF] at h;obtain ⟨y,hy,ys,hys,rfl⟩:=h;obtain ⟨h1,h2⟩:=ih hys;refine ⟨by simp [h1],λk x' y' hx hy'=>?_⟩;cases k with
  |zero=>simp at hx hy';subst hx hy';exact hy
  |succ k=>exact h2 k x' y' (by simpa using hx) (by simpa using hy')
theorem BI (s:ByteArray) (l u:Nat):(s.extract l u).data.toList=(s.data.toList.take u).drop l:=by
 rw [ByteArray.data_extract,Array.toList_extract];rw [List.extract_eq_take_drop];rw [List.drop_take]
theorem Qc (hC:an E n G ρ t h a w) (hn:iI E n a o K bW) {ty t1:TypeId} {x:Operand} {lo hi:Option Operand} {ox:O} {olo ohi:Option O} (ho:o.op = .slice ty x lo hi none) (hu:P.underlying ty=some .string)
  (hx:cX P t1 x=some ox) (hlo:(lo=none∧olo=none)∨∃y oy ty',lo=some y∧olo=some oy∧cX P ty' y=some oy) (hhi:(hi=none∧ohi=none)∨∃y oy ty',hi=some y∧ohi=some oy∧cX P ty' y=some oy)
  (hk:bt (Sat P) ow (.ss ox olo ohi) t h K KP):o.wp P a w bW Q:=by
 have hvx:=bG hC hx;have hL:∀l:Int,(∃k,(match olo with | some lo=>gv t lo | none=>.d (.int .i64 0)) = .d (.int k l))→(lo=none∧l=0)∨∃y k,lo=some y∧a.eval y = .int k l:=by
  rintro l ⟨k,hl⟩
  rcases hlo with ⟨h1,h2⟩ | ⟨y,oy,ty',h1,h2,h3⟩
  ·subst h2;simp at hl;exact .inl ⟨h1,hl.2.symm⟩
  ·subst h2;have:=bG hC h3;simp only at hl;rw [hl] at this;exact .inr ⟨y,k,h1,this.int⟩
 have fin:∀(r:List UInt8) (l u:Int),gv t ox = .d (.str r)→0≤l→l≤u→u≤r.length→K (.d (.str ((r.take u.toNat).drop l.toNat))) t h →
   (∀s:ByteArray,a.eval x = .string s→s.size=r.length→(execOp a.eval o).run P w = .ok (.value (.string (s.extract l.toNat u.toNat))) w)→o.wp P a w bW Q:=by
  intro r l u hg h0 h1 h2 hk hrun;rw [hg] at hvx;obtain ⟨s,hv,rfl,hm⟩:=hvx.str;refine aw hC hn (hrun s hv (j6 s)) (.d ?_) hk;rw [←BI];refine .str _ (aY ?_ hm);rw [j6,BI,j6];simp only [bz,ah];omega
 simp only [bt] at hk;split at hk
 ·rename_i kl l hl;have hL:=hL l ⟨kl,hl⟩;rcases hhi with ⟨rfl,_⟩ | ⟨_,_,_,_,h2,_⟩
  rotate_left
  ·cases h2
  split at hk
  ·rename_i r hg;obtain ⟨⟨g1,g2⟩,hk⟩:=hk;refine fin r l r.length hg g1 g2 (jW _) (by rw [Int.toNat_natCast,dQ];exact hk) (λs hv hs=>?_);rw [Int.toNat_natCast,←hs];rcases hL with ⟨rfl,rfl⟩ | ⟨y,k,rfl,hy⟩
   ·simp [execOp,ho,hv,run_sliceAt_string w ty _ _ _ _ hu,Instr.slice,run_underlying hu,Instr.sliceBounds]
   ·have hl1:=run_sliceBound (P:=P) w k l s.size .sliceB g1 (by rw [hs];exact g2);simp [execOp,ho,hv,hy,run_sliceAt_string w ty _ _ _ _ hu,Instr.slice,run_underlying hu,Instr.sliceBounds,hl1]
  ·exact hk.elim
 ·rename_i kl l ohi hl;have hL:=hL l ⟨kl,hl⟩;rcases hhi with ⟨_,h2⟩ | ⟨yh,oyh,tyh,rfl,h2,hyh⟩
  ·cases h2
  cases h2;split at hk
  ·rename_i ku u hgu;have hvu:=bG hC hyh;rw [hgu] at hvu;have hvu:=hvu.int;split at hk
   ·rename_i r hg;obtain ⟨⟨g1,g2,g3⟩,hk⟩:=hk;refine fin r l u hg g1 g2 g3 hk (λs hv hs=>?_);have hu1:=run_sliceBound (P:=P) w ku u s.size .sliceAlen (by omega) (by rw [hs];exact g3);have hun:(u.toNat:Int)=u:=Int.toNat_of_nonneg (by omega);rcases hL with ⟨rfl,rfl⟩ | ⟨y,k,rfl,hy⟩
    ·simp [execOp,ho,hv,hvu,run_sliceAt_string w ty _ _ _ _ hu,Instr.slice,run_underlying hu,Instr.sliceBounds,hu1]
    ·have hl1:=run_sliceBound (P:=P) w k l u.toNat .sliceB g1 (by omega);simp [execOp,ho,hv,hvu,hy,run_sliceAt_string w ty _ _ _ _ hu,Instr.slice,run_underlying hu,Instr.sliceBounds,hu1,hl1]
   ·exact hk.elim
  ·exact hk.elim
 ·exact hk.elim
theorem kY {α:Type} {a:Array α} {l:List α} (h:a.toList=l):a=l.toArray:=by rw [←h]
theorem oG (hC:an E n G ρ t h a w) (hn:iI E n a o K bW) (hp:Pr E n a KP Q) {x:X} (hx:fj P o.type o.op=some x∨x = .bad) (hk:bt (Sat P) ow x t h K KP):o.wp P a w bW Q:=by
 rcases hx with hx | rfl
 case inr=>exact hk.elim
 cases ho:o.op<;>rw [ho] at hx<;>simp only [fj] at hx<;>try (cases hx;done)
 case move y=>
  split at hx
  ·cases hx;simp only [bt,bf,cZ] at hk;exact F1 hC hn (.inl ho) hk
  ·simp only [aG] at hx;obtain ⟨oy,hy,rfl⟩:=hx;exact L7 hC hn (.inl ho) hy hk
 case assign y=>
  split at hx
  ·cases hx;simp only [bt,bf,cZ] at hk;exact F1 hC hn (.inr ho) hk
  ·simp only [aG] at hx;obtain ⟨oy,hy,rfl⟩:=hx;exact L7 hC hn (.inr ho) hy hk
 case pick c y z=>
  simp only [aJ,aD,aF] at hx;obtain ⟨oc,hc,oy,hy,oz,hz,rfl⟩:=hx;simp only [bt] at hk;split at hk
  ·exact Qh hC hn ho hc hy hz ‹_› hk
  ·exact hk.elim
 case alloc ty=>
  have al:(q8 P ty).map X.al=some x→o.wp P a w bW Q:=λhx=>by
   simp only [aG] at hx;obtain ⟨zs,hz,rfl⟩:=hx;simp only [bt,bf,cZ] at hk;exact RN hC hn ho hz hk
  split at hx
  ·split at hx
   ·rename_i m e hu hm;simp only [aJ,aD] at hx;obtain ⟨zs,hz,hx⟩:=hx;split at hx
    ·split at hx
     ·rename_i d r hc;simp only [aS,decide_eq_true_eq] at hc hm;cases hx;simp only [bt,bf,cZ] at hk;exact RP hC hn ho hz hc.1 hm.2 hc.2 hk
     ·cases hx
    ·cases hx
   ·exact al hx
  ·exact al hx
 case box ty y=>
  simp only [aG] at hx;obtain ⟨oy,hy,rfl⟩:=hx;simp only [bt,bf,cZ] at hk;exact RH hC hn ho hy hk
 case build ty ps=>
  split at hx
  ·rename_i fs hu;simp only [aJ,aD,aF] at hx;obtain ⟨pl,hpl,qs,hqs,zs,hz,rfl⟩:=hx;obtain ⟨g1,g2⟩:=ky hqs;refine RL (Sat P) ow hC hn ho hu hpl hz ⟨by simpa using g1,λk p q hp hq=>?_⟩ hk;have:=g2 k p q (by simpa using hp) hq;simp only [aD,aF] at this;obtain ⟨f,hf,q',hq',oy,hy,rfl⟩:=this;exact ⟨hq',_,hy⟩
  ·cases hx
 case buildSlice ty m ps=>
  split at hx
  ·rename_i e hu;simp only [aJ,aD] at hx;obtain ⟨qs,hqs,zs,hz,hx⟩:=hx;split at hx
   ·rename_i hc;cases hx;simp only [aS,decide_eq_true_eq,gD] at hc;obtain ⟨⟨⟨rfl,hq0⟩,_⟩,_⟩:=hc;subst hq0;obtain ⟨g1,_⟩:=ky hqs;have hps:ps = #[]:=eJ (by simpa using g1.symm);subst hps;exact Qj (Sat P) ow hC hn ho hu hz hk
   ·split at hx
    ·cases hx
    ·rename_i hc;cases hx;simp only [cJ,decide_eq_true_eq,bne_iff_ne,ne_eq,not_or,j_] at hc;obtain ⟨⟨⟨c1,c2⟩,c3⟩,c4⟩:=hc;obtain ⟨g1,g2⟩:=ky hqs;refine RJ (Sat P) ow hC hn ho hu hz c4 c1 (by omega) c3 ⟨by simpa using g1,λk p q hp hq=>?_⟩ hk;have:=g2 k p q (by simpa using hp) hq;simp only [aD,aF] at this;obtain ⟨oy,hy,rfl⟩:=this;exact ⟨rfl,_,hy⟩
  ·cases hx
 case load ty y=>
  have ld:(do some (X.ld (←cX P ty y) (←t_ P ty)))=some x→o.wp P a w bW Q:=λhx=>by
   simp only [aJ,aD,aF] at hx;obtain ⟨oy,hy,m,hm,rfl⟩:=hx;exact Qv (Sat P) ow hC hn ho hy hm hk
  split at hx
  ·split at hx
   ·split at hx
    ·simp only [aJ,aD] at hx;obtain ⟨k,hl,oy,hy,hx⟩:=hx;split at hx
     ·rename_i hkm;subst hkm;cases hx;exact Qw (Sat P) ow hC hn ho hy hl hk
     ·cases hx
    ·cases hx
   ·exact ld hx
  ·exact ld hx
 case store ty y z=>
  simp only [aJ,aD,aF] at hx;obtain ⟨oy,hy,oz,hz,m,hm,rfl⟩:=hx;exact Qb (Sat P) ow hC hn ho hy hz hm hk
 case fieldAddr ty y f=>
  split at hx
  ·rename_i fs hu;simp only [aJ,aD] at hx;obtain ⟨fd,hf,hx⟩:=hx;split at hx
   ·cases hx
   ·rename_i hz;simp only [aD,aF] at hx;obtain ⟨oy,hy,rfl⟩:=hx;exact RB (Sat P) ow hC hn ho hu hf hz hy hk
  ·cases hx
 case indexAddr ty y z=>
  split at hx
  ·rename_i e hu;split at hx
   ·cases hx
   ·rename_i hc;simp only [aJ,aD,aF] at hx;obtain ⟨oy,hy,oz,hz,rfl⟩:=hx;exact RA (Sat P) ow hC hn ho hu hc hy hz hk
  ·rename_i m e hu;split at hx
   ·cases hx
   ·rename_i hc;split at hx
    ·split at hx
     ·rename_i hc1;simp only [aJ,aD,aF] at hx;obtain ⟨oy,hy,oz,hz,rfl⟩:=hx;exact Qx (Sat P) ow hC hn ho hu hc1 hy hz hk
     ·cases hx
    ·simp only [aJ,aD,aF] at hx;obtain ⟨oy,hy,oz,hz,rfl⟩:=hx;exact Qy (Sat P) ow hC hn ho hu hc hy hz hk
  ·cases hx
 case makeMap ty r=>
  cases r with
  |some r=>cases hx
  |none=>
   simp only at hx
   repeat' split at hx
   all_goals first
    |(cases hx;done)
    |(cases hx;exact Qn (Sat P) ow hC hn ho hk)
 case range ty y=>
  split at hx
  ·rename_i kt e hu;simp only [aG] at hx;obtain ⟨oy,hy,rfl⟩:=hx;exact Qf (Sat P) ow hC hn ho hu hy hk
  ·cases hx
 case next y b=>
  cases b with
  |true=>cases hx
  |false=>
   simp only [aG] at hx;obtain ⟨oy,hy,rfl⟩:=hx;exact Qi (Sat P) ow hC hn ho hy hk
 case entry y=>
  simp only [aG] at hx;obtain ⟨oy,hy,rfl⟩:=hx;exact RD (Sat P) ow hC hn ho hy hk
 case lookup ty y k ok=>
  split at hx
  ·rename_i kt e hu;simp only [aJ,aD,aF] at hx;obtain ⟨oy,hy,oz,hz,ks,hks,zv,hzv,rfl⟩:=hx;exact Qo (Sat P) ow hC hn ho hu hy hz hks hzv hk
  ·cases hx
 case mapUpdate ty y k v=>
  split at hx
  ·rename_i kt e hu;simp only [aJ,aD,aF] at hx;obtain ⟨oy,hy,oz,hz,ov,hv,ks,hks,rfl⟩:=hx;exact L8 (Sat P) ow hC hn (.inl ho) hu hy hz hv hks hk
  ·cases hx
 case insert ty y k v=>
  split at hx
  ·rename_i kt e hu;simp only [aJ,aD,aF] at hx;obtain ⟨oy,hy,oz,hz,ov,hv,ks,hks,rfl⟩:=hx;exact L8 (Sat P) ow hC hn (.inr ho) hu hy hz hv hks hk
  ·cases hx
 case binOp b ty y z u=>
  split at hx
  ·simp only [aJ,aD,aF] at hx;obtain ⟨oy,hy,oz,hz,rfl⟩:=hx;exact F6 (Sat P) ow hC hn ho hy hz hk
  ·rename_i e hu;split at hx
   ·rename_i y;simp only [aG] at hx;obtain ⟨oy,hy,rfl⟩:=hx;exact L6 (Sat P) ow hC hn (ne:=false) ho hu hy hk
   ·rename_i y;simp only [aG] at hx;obtain ⟨oy,hy,rfl⟩:=hx;exact L6 (Sat P) ow hC hn (ne:=true) ho hu hy hk
   ·cases hx
  ·rename_i ms hu;split at hx
   ·simp only [aG] at hx;obtain ⟨oy,hy,rfl⟩:=hx;exact sC (Sat P) ow hC hn hy (L1 hC (ne:=false) ho hu hy) hk
   ·simp only [aG] at hx;obtain ⟨oy,hy,rfl⟩:=hx;exact sC (Sat P) ow hC hn hy (L1 hC (ne:=true) ho hu hy) hk
   ·cases hx
  ·rename_i e hu;split at hx
   ·simp only [aG] at hx;obtain ⟨oy,hy,rfl⟩:=hx;exact sC (Sat P) ow hC hn hy (L0 hC (ne:=false) ho hu hy) hk
   ·simp only [aG] at hx;obtain ⟨oy,hy,rfl⟩:=hx;exact sC (Sat P) ow hC hn hy (L0 hC (ne:=true) ho hu hy) hk
   ·cases hx
  ·rename_i hni _ _ _;split at hx
   ·split at hx
    ·simp only [aJ,aD,aF] at hx;obtain ⟨oy,hy,oz,hz,rfl⟩:=hx;exact F6 (Sat P) ow hC hn ho hy hz hk
    ·cases hx
   ·split at hx
    ·cases hx
    ·rename_i hg;simp only [aJ,aD,aF] at hx;obtain ⟨ks,hf,st,ha,oy,hy,oz,hz,rfl⟩:=hx;exact La (Sat P) ow hC hn (ne:=false) ho hy hz (λk e=>hni k e) (by simpa using hg) hf ha hk
   ·split at hx
    ·cases hx
    ·rename_i hg;simp only [aJ,aD,aF] at hx;obtain ⟨ks,hf,st,ha,oy,hy,oz,hz,rfl⟩:=hx;exact La (Sat P) ow hC hn (ne:=true) ho hy hz (λk e=>hni k e) (by simpa using hg) hf ha hk
   ·cases hx
 case unOp u ty y=>
  simp only [aJ,aD,aF] at hx;obtain ⟨oy,hy,rfl⟩:=hx;exact Qa (Sat P) ow hC hn ho hy hk
 case convert s d y=>
  split at hx
  ·rename_i hs hd;simp only [aG] at hx;obtain ⟨oy,hy,rfl⟩:=hx;exact RE (Sat P) ow hC hn ho hs hd hy hk
  ·rename_i e hs hd;split at hx
   ·rename_i he;simp only [aG] at hx;obtain ⟨oy,hy,rfl⟩:=hx;exact Qd (Sat P) ow hC hn ho hs he hd hy hk
   ·cases hx
  ·cases hx
 case slice ty y lo hi m=>
  simp only [aJ] at hx;split at hx
  ·rename_i e hu;split at hx
   ·cases hx
   ·rename_i hc;simp only [aD,aF] at hx;obtain ⟨oy,hy,olo,hlo,ohi,hhi,om,hm,rfl⟩:=hx;exact Qe (Sat P) ow hC hn ho hu hc hy (x8 hlo) (x8 hhi) (x8 hm) hk
  ·rename_i hu;split at hx
   ·simp only [aD,aF] at hx;obtain ⟨oy,hy,olo,hlo,ohi,hhi,rfl⟩:=hx;exact Qc ow hC hn ho hu hy (x8 hlo) (x8 hhi) hk
   ·cases hx
  ·cases hx
 case nilCheck y=>
  simp only [aG] at hx;obtain ⟨oy,hy,rfl⟩:=hx;exact Qk (Sat P) ow hC hn ho hy hk
 case index ty y i=>
  split at hx
  ·rename_i hu;simp only [aJ,aD,aF] at hx;obtain ⟨oy,hy,oz,hz,rfl⟩:=hx;exact Qz (Sat P) ow hC hn ho hu hy hz hk
  ·rename_i m e hu;split at hx
   ·rename_i hc;simp only [aS,decide_eq_true_eq] at hc;simp only [aJ,aD,aF] at hx;obtain ⟨oy,hy,oz,hz,rfl⟩:=hx;exact RO (Sat P) ow hC hn ho hu hc.1 hc.2 hy hz hk
   ·cases hx
  ·cases hx
 case extract y i=>
  simp only [aJ,aD,aF] at hx;obtain ⟨oy,hy,rfl⟩:=hx;exact RC (Sat P) ow hC hn ho hy hk
 case makeInterface ty y=>
  split at hx
  ·cases hx
  ·rename_i u hni hu;simp only [aJ,aD] at hx;obtain ⟨ag,_,hx⟩:=hx;split at hx
   ·rename_i hty;simp only [aD,aF] at hx;obtain ⟨oy,hy,rfl⟩:=hx;exact sC (Sat P) ow hC hn hy (Q1 hC ho (λms h=>by rw [hu] at h;cases h;exact hni ms rfl) hu hty hy) hk
   ·cases hx
  ·cases hx
 case typeAssert y xt ty ok=>
  split at hx
  ·cases hx
  ·rename_i u hni hu;simp only [aJ,aD] at hx;obtain ⟨ag,_,hx⟩:=hx;split at hx
   ·rename_i hty;simp only [aD,aF] at hx;obtain ⟨zv,hz,oy,hy,rfl⟩:=hx;exact sC (Sat P) ow hC hn hy (Q0 hC ho (λms h=>by rw [hu] at h;cases h;exact hni ms rfl) hu hty hz hy) hk
   ·cases hx
  ·cases hx
 case field ty y f=>
  split at hx
  ·rename_i fs hu;simp only [aJ,aD,aF] at hx;obtain ⟨fd,hf,m,hl,oy,hy,rfl⟩:=hx;exact sC (Sat P) ow hC hn hy (Q2 hC ho hu hf hl hy) hk
  ·cases hx
 case panic y=>
  simp only [aG] at hx;obtain ⟨oy,hy,rfl⟩:=hx;exact Qg (Sat P) ow hC hp ho hy hk
 case makeSlice ty l c=>
  split at hx
  ·rename_i e hu;simp only [aJ,aD] at hx;obtain ⟨zs,hz,ds,hd,i,hi,hx⟩:=hx;split at hx
   ·cases hx
   ·rename_i hc;simp only [aD,aF] at hx;obtain ⟨ol,hl,oc,hoc,rfl⟩:=hx;simp only [ne_eq,cJ,decide_eq_true_eq,not_or,j_] at hc;exact Qp (Sat P) ow hC hn ho hu hz hd hi hc.1 hl hoc hk
  ·cases hx
 case makeFunc fn first caps=>
  cases fn<;>simp only at hx<;>try (cases hx;done)
  rename_i f;have key:∀(xs:List Operand) (oc:List O),args P xs []=some oc→oc.length=xs.length∧∀(i:Nat) (x:O),oc[i]? = some x→∃y ty,xs[i]? = some y∧cX P ty y=some x:=by
   intro xs
   induction xs with
   |nil=>intro oc h;simp only [args] at h;cases h;simp
   |cons x xs ih=>
    intro oc h;simp only [args,aJ,aD] at h;obtain ⟨y,hy,ys,hys,he⟩:=h;cases he;obtain ⟨g1,g2⟩:=ih ys hys;refine ⟨by simp [g1],λi z hz=>?_⟩;cases i with
    |zero=>simp at hz;subst hz;exact ⟨x,0,rfl,hy⟩
    |succ i=>simpa using g2 i z (by simpa using hz)
  split at hx
  ·rename_i hf;split at hx
   ·rename_i hfirst;rw [aG] at hx;obtain ⟨oc,hoc,rfl⟩:=hx;simp only [bt,bf] at hk;obtain ⟨g1,g2⟩:=key _ _ hoc;exact L9 hC hn ho hf (.inl ⟨rfl,eJ hfirst,rfl⟩) ⟨by simpa using g1,λi x hi=>by simpa using g2 i x hi⟩ hk
   ·split at hx
    ·rename_i hcap;rw [aG] at hx;obtain ⟨oc,hoc,rfl⟩:=hx;simp only [bt,bf] at hk;obtain ⟨g1,g2⟩:=key _ _ hoc;exact L9 hC hn ho hf (.inr ⟨rfl,eJ hcap,rfl⟩) ⟨by simpa using g1,λi x hi=>by simpa using g2 i x hi⟩ hk
    ·cases hx
  ·cases hx
 case call c=>
  obtain ⟨callee,as,ts⟩:=c;cases callee with
  |value f=>
   cases f<;>simp only at hx
   case func f=>
    split at hx
    ·rename_i hlt;simp only [aG] at hx;obtain ⟨oa,ha,rfl⟩:=hx;exact RF ow hC hn hp hlt ho rfl ha hk
    ·cases hx
   all_goals
    simp only [aJ,aD,aF] at hx;obtain ⟨oy,hy,oa,ha,rfl⟩:=hx;exact RG ow hC hn hp ho rfl hy ha hk
  |invoke r m=>cases hx
  |builtin b=>
   cases b<;>simp only at hx<;>try (cases hx;done)
   case len=>
    split at hx
    ·rename_i y u h1 h2;have e1:=kY h1;have e2:=kY h2;subst e1 e2;split at hx
     ·simp only [aG] at hx;obtain ⟨oy,hy,rfl⟩:=hx;exact Qs (Sat P) ow hC hn ho ‹_› hy hk
     ·simp only [aG] at hx;obtain ⟨oy,hy,rfl⟩:=hx;exact Qu (Sat P) ow hC hn ho ‹_› hy hk
     ·simp only [aG] at hx;obtain ⟨oy,hy,rfl⟩:=hx;exact Qr (Sat P) ow hC hn ho ‹_› hy hk
     ·cases hx
    ·cases hx
   case delete=>
    split at hx
    ·rename_i y z u v h1 h2;have e1:=kY h1;have e2:=kY h2;subst e1 e2;split at hx
     ·rename_i kt e hu;simp only [aJ,aD,aF] at hx;obtain ⟨oy,hy,oz,hz,ks,hks,rfl⟩:=hx;exact Qq (Sat P) ow hC hn ho hu hy hz hks hk
     ·cases hx
    ·cases hx
   case clear=>
    split at hx
    ·rename_i y u h1 h2;have e1:=kY h1;have e2:=kY h2;subst e1 e2;split at hx
     ·rename_i e hu;simp only [aJ,aD] at hx;obtain ⟨zs,hz,ds,hd,hx⟩:=hx;split at hx
      ·cases hx
      ·rename_i hc;simp only [aD,aF] at hx;obtain ⟨oy,hy,rfl⟩:=hx;simp only [ne_eq,cJ,decide_eq_true_eq,not_or,j_] at hc;exact NI (Sat P) ow hC hn ho hu hz hd hc.1 hc.2 hy hk
     ·cases hx
    ·cases hx
   case min=>
    split at hx
    ·rename_i y z h1;have e1:=kY h1;subst e1;simp only [aJ,aD,aF] at hx;obtain ⟨oy,hy,oz,hz,rfl⟩:=hx;exact Qm (Sat P) ow hC hn ho hy hz hk
    ·cases hx
   case max=>
    split at hx
    ·rename_i y z h1;have e1:=kY h1;subst e1;simp only [aJ,aD,aF] at hx;obtain ⟨oy,hy,oz,hz,rfl⟩:=hx;exact Ql (Sat P) ow hC hn ho hy hz hk
    ·cases hx
   case append=>
    split at hx
    ·rename_i y z u v h1 h2;have e1:=kY h1;have e2:=kY h2;subst e1 e2;split at hx
     ·rename_i e _ hu hv;simp only [aJ,aD] at hx;obtain ⟨zs,hz,hx⟩:=hx;split at hx
      ·cases hx
      ·rename_i hc;simp only [aD,aF,aG] at hx;obtain ⟨oy,hy,oz,hoz,by_,⟨i,hi,rfl⟩,rfl⟩:=hx;have hci:P.cellsOf e=i.size:=by simp [Program.cellsOf,hi]
       simp only [ne_eq,cJ,decide_eq_true_eq,not_or,j_] at hc;rw [hci] at hk;exact RM (Sat P) ow hC hn ho hu hv hi hz (by rw [←hci];exact hc.1) hy hoz hk
     ·cases hx
    ·cases hx
end
end Go.Vx
