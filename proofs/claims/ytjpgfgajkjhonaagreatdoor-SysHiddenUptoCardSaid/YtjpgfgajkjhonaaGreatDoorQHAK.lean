/- Lemmas. Conditions: none. -/
import Derived.Test.YtjpgfgajkjhonaaGreatDoorQHAJ
import Derived.Laws.IdiomStrings
namespace Go.Vx
section
variable {P:Program} {E:gR} {n:Nat} {G:Nat→Prop} {ρ:List Value} {t:T} {h:H} {a:Act} {w:World} {o:Oper} {b7:Act→World→Prop} {Q:Exit→Act→World→Prop} {K KP:V→T→H→Prop}
variable (S:Nat→List V→H→(Out→H→Prop)→Prop) (ow:Nat→Bool)
theorem tN (hC:au E n G ρ t h a w) (hn:iX E n a o K b7) {f:PU} {ox:O} {x:Operand} {t1:TypeId} (hx:ck P t1 x=some ox)
  (hrun:∀v,pu f (gv t ox)=some v→∃v',(execOp a.eval o).run P w = .ok (.value v') w∧bB G w ρ v' v) (hk:bz S ow (.pu f ox) t h K KP):o.wp P a w b7 Q:=by
 have _:=hx;simp only [bz] at hk;split at hk
 ·rename_i v hv;obtain ⟨v',h1,h2⟩:=hrun v hv;exact az hC hn h1 h2 hk
 ·exact hk.elim
theorem SY (hC:au E n G ρ t h a w) {ty t1:TypeId} {ag:Bool} {x:Operand} {ox:O} (ho:o.op = .makeInterface ty x) (hni:∀ms,P.underlying ty≠some (.interface ms)) {u:TypeDesc} (hu:P.underlying ty=some u) (hty:LT.lt (α :=Nat) ty 1000000) (hx:ck P t1 x=some ox) :
  ∀v,pu (if ag then .V0 (ty+2000000) else .mi (ty+3000000)) (gv t ox)=some v→∃v',(execOp a.eval o).run P w = .ok (.value v') w∧bB G w ρ v' v:=by
 intro v hv;have hvx:=bJ hC hx;have hrun:(execOp a.eval o).run P w = .ok (.value (.iface ty (a.eval x))) w:=by
  simp only [execOp,ho];refine cF ?_;simp only [Instr.makeInterface,Sem.run_bind,run_underlying hu,Result.andThen_ok];split
  ·rename_i ms;exact absurd hu (hni ms)
  ·rfl
 refine ⟨_,hrun,?_⟩;cases ag
 ·simp only [cp,ψ] at hv;simp only [pu] at hv;cases hb:(ev (gv t ox)&&uV (gv t ox)) with
  |false=>rw [hb] at hv;cases hv
  |true=>
   rw [hb] at hv;simp only [δ,aE] at hv;subst hv;simp only [aP] at hb;obtain ⟨h1,h2⟩:=qd hvx hb.1 hb.2;refine .c (.fc _ _ #[a.eval x] _ (.inr ⟨by simp,.inr (.inr ⟨ty,a.eval x,rfl,hty,rfl,h2,rfl⟩)⟩) rfl (λi y hy=>?_))
   match i,hy with
   |0,hy=>cases hy;exact h1
 ·simp only [if_true] at hv;cases hg:gv t ox with
  |ag cs=>
   rw [hg] at hv hvx;simp only [pu] at hv;cases hb:(!cs.isEmpty&&(cs.all ev&&cs.all uV)) with
   |false=>rw [hb] at hv;cases hv
   |true=>
    rw [hb] at hv;simp only [δ,aE] at hv;subst hv;simp only [aP,dL,aT] at hb;obtain ⟨cs',h1,h2,h3⟩:=hvx.RS;rw [h1];have hpos:0<cs'.size:=by
     rw [h2];cases cs with
     |nil=>simp at hb
     |cons=>simp
    refine .c (.fc _ _ cs' _ (.inr ⟨hpos,.inr (.inl ⟨ty,rfl,hty,rfl⟩)⟩) h2 (λi y hy=>?_));have hm:=aH hy;have h4:=h3 i y hy;exact (qd (.c h4) (hb.2.1 y hm) (hb.2.2 y hm)).1
  |_=>rw [hg] at hv;cases hv
theorem uN {F:Nat} {v:Value} {cs:Array Value} (h:J2 F v cs) (hF:2000000≤F):(F<3000000∧v = .iface (F - 2000000) (.agg cs)∧0<cs.size)∨(3000000≤F∧∃x,v = .iface (F - 3000000) x∧cs = #[x]):=by
 rcases h with ⟨h,_⟩ | ⟨h,⟨f,rfl,hf,_⟩ | ⟨f,rfl,hf,rfl⟩ | ⟨f,x,rfl,hf,rfl,_,rfl⟩⟩
 ·omega
 ·omega
 ·exact .inl ⟨by omega,by rw [Nat.add_sub_cancel],h⟩
 ·exact .inr ⟨by omega,x,by rw [Nat.add_sub_cancel],rfl⟩
theorem SX (hC:au E n G ρ t h a w) {xt ty t1:TypeId} {ag ok:Bool} {zv:V} {x:Operand} {ox:O} (ho:o.op = .typeAssert x xt ty ok) (hni:∀ms,P.underlying ty≠some (.interface ms)) {u:TypeDesc} (hu:P.underlying ty=some u) (hty:LT.lt (α :=Nat) ty 1000000) (hz:AO P ty=some zv)
  (hx:ck P t1 x=some ox):∀v,pu (.ta ty ag zv ok) (gv t ox)=some v→∃v',(execOp a.eval o).run P w = .ok (.value v') w∧bB G w ρ v' v:=by
 intro v hv;have hvx:=bJ hC hx;obtain ⟨z,hz1,hz2,_⟩:=wK (P:=P) (G:=G) (w:=w) (ρ := ρ) hz;have tup:∀(v:Value) (y:V) (b:Bool),dW G w ρ v y→bB G w ρ (.tuple #[v,.bool b]) (.tu [y,.d (.bool b)]):=by
  intro v y b hv;refine .tu #[v,.bool b] _ rfl (λi x hx=>?_)
  match i,hx with
  |0,hx=>cases hx;exact hv
  |1,hx=>cases hx;exact .c (.k (.d (.bool b)))
 have hold:∀(c:Value),a.eval x = .iface ty c→(execOp a.eval o).run P w = .ok (.value (if ok then .tuple #[c,.bool true] else c)) w:=by
  intro c hc;simp only [execOp,ho];refine cF ?_;cases u with
  |interface ms=>exact absurd hu (hni ms)
  |_=>simp [Instr.typeAssert,Sem.run_bind,run_underlying hu,hc]
 have fail:ok=true→(a.eval x = .nilIface∨∃t' c,a.eval x = .iface t' c∧t'≠ty)→(execOp a.eval o).run P w = .ok (.value (.tuple #[z,.bool false])) w:=by
  intro hok hc;subst hok;simp only [execOp,ho];refine cF ?_;have hzv:(zeroValue ty).run P w = .ok z w:=hz1;cases u with
  |interface ms=>exact absurd hu (hni ms)
  |_=>
   rcases hc with hc | ⟨t',c,hc,hne⟩
   ·simp [Instr.typeAssert,Sem.run_bind,run_underlying hu,hc,hzv]
   ·simp [Instr.typeAssert,Sem.run_bind,run_underlying hu,hc,hzv,hne]
 cases hg:gv t ox with
 |fc F caps=>
  rw [hg] at hv hvx;obtain ⟨cs,hfc,hsz,hr⟩:=hvx.Qo;simp only [pu] at hv;cases hF:Nat.beq F (bif ag then ty+2000000 else ty+3000000) with
  |true=>
   rw [hF] at hv;have hFe:=jf hF;simp only [δ] at hv;cases ag with
   |true=>
    simp only [δ] at hFe;simp only [aE] at hv;subst hv;rcases uN hfc (by omega) with ⟨_,hv,_⟩ | ⟨h1,_⟩
    ·rw [show F - 2000000=ty by omega] at hv;refine ⟨_,hold _ hv,?_⟩;have hrep:dW G w ρ (.agg cs) (.ag caps):=.ag cs caps hsz λi y hy=>.k (hr i y hy);cases ok
     ·exact .o hrep
     ·exact tup _ _ true hrep
    ·omega
   |false=>
    simp only [ε] at hFe;cases caps with
    |nil=>cases hv
    |cons y ys=>
     simp only [aE] at hv;subst hv;rcases uN hfc (by omega) with ⟨h1,_⟩ | ⟨_,c,hv,rfl⟩
     ·omega
     ·rw [show F - 3000000=ty by omega] at hv;refine ⟨_,hold _ hv,?_⟩;have hrep:dW G w ρ c y:=.c (.k (hr 0 y rfl));cases ok
      ·exact .o hrep
      ·exact tup _ _ true hrep
  |false=>
   rw [hF] at hv;simp only [ε] at hv;cases hb:(ok&&(Nat.ble 2000000 F&&(!(Nat.beq F (ty+2000000)) && !(Nat.beq F (ty+3000000))))) with
   |false=>rw [hb] at hv;cases hv
   |true=>
    rw [hb] at hv;simp only [δ,aE] at hv;subst hv;simp only [aP,dL] at hb;obtain ⟨h1,h2,h3,h4⟩:=hb;have h2:=a_ h2;have h3:F≠ty+2000000:=λe=>by subst e;simp at h3
    have h4:F≠ty+3000000:=λe=>by subst e;simp at h4
    refine ⟨_,fail h1 (.inr ?_),tup _ _ false hz2⟩;rcases uN hfc h2 with ⟨h5,hv,_⟩ | ⟨h5,c,hv,_⟩
    ·exact ⟨_,_,hv,λe=>by have e:F - 2000000=(ty:Nat):=e;omega⟩
    ·exact ⟨_,_,hv,λe=>by have e:F - 3000000=(ty:Nat):=e;omega⟩
 |d y=>
  rw [hg] at hv hvx;cases y with
  |ni=>
   have hi:a.eval x = .nilIface:=by
    have:=hvx.ra;cases hav:a.eval x<;>rw [hav] at this<;>first | rfl | (cases this;done) | skip
    all_goals (cases this)
   simp only [pu] at hv;cases ok with
   |false=>cases hv
   |true=>
    simp only [δ,aE] at hv;subst hv;exact ⟨_,fail rfl (.inl hi),tup _ _ false hz2⟩
  |_=>cases hv
 |_=>rw [hg] at hv;cases hv
theorem NX (hC:au E n G ρ t h a w) {ne:Bool} {ty t1 t2:TypeId} {ms} {x:Operand} {ox:O} (ho:o.op = .binOp (bif ne then .neq else .eql) ty x (.const .nilIface) t2) (hu:P.underlying ty=some (.interface ms)) (hx:ck P t1 x=some ox) :
  ∀v,pu (.iq ne) (gv t ox)=some v→∃v',(execOp a.eval o).run P w = .ok (.value v') w∧bB G w ρ v' v:=by
 intro v hv;have hvx:=bJ hC hx;have e0:a.eval (.const .nilIface) = .nilIface:=rfl;have key:∀(av:Value) (r:Bool),a.eval x=av→(av = .nilIface∨∃t c,av = .iface t c)→(∀k,(Op.equalIn (k+1) ty av .nilIface).run P w = .ok r w)→(execOp a.eval o).run P w = .ok (.value (.bool (bif ne then !r else r))) w:=by
  intro av r he hav heq;have heq:(Op.equal ty av .nilIface).run P w = .ok r w:=heq 9999;cases ne<;>simp only [δ,ε] at ho ⊢<;>simp only [execOp,ho,he,e0]
  ·refine cF ?_;rcases hav with rfl | ⟨t,c,rfl⟩<;>simp [eqGuard,binOp,heq]
  ·refine cF ?_;rcases hav with rfl | ⟨t,c,rfl⟩<;>simp [eqGuard,binOp,heq]
 cases hg:gv t ox with
 |fc F caps=>
  rw [hg] at hv hvx;obtain ⟨cs,hfc,hsz,hr⟩:=hvx.Qo;simp only [pu] at hv;cases hb:Nat.ble 2000000 F with
  |false=>rw [hb] at hv;cases hv
  |true=>
   rw [hb] at hv;simp only [δ,aE] at hv;subst hv;have:∃t' c,a.eval x = .iface t' c:=by
    rcases uN hfc (a_ hb) with ⟨_,hv,_⟩ | ⟨_,c,hv,_⟩
    ·exact ⟨_,_,hv⟩
    ·exact ⟨_,_,hv⟩
   obtain ⟨t',c,hc⟩:=this;refine ⟨_,key _ false hc (.inr ⟨_,_,rfl⟩) (λk=>by simp [Op.equalIn,run_underlying hu]),?_⟩;cases ne<;>exact .d (.bool _)
 |d y=>
  rw [hg] at hv hvx;cases y with
  |ni=>
   have hi:a.eval x = .nilIface:=by
    have:=hvx.ra;cases hav:a.eval x<;>rw [hav] at this<;>first | rfl | (cases this;done) | skip
    all_goals (cases this)
   simp only [pu,aE] at hv;subst hv;refine ⟨_,key _ true hi (.inl rfl) (λk=>by simp [Op.equalIn,run_underlying hu]),?_⟩;cases ne<;>exact .d (.bool _)
  |_=>cases hv
 |_=>rw [hg] at hv;cases hv
theorem NW (hC:au E n G ρ t h a w) {ne:Bool} {ty t1 t2 e:TypeId} {x:Operand} {ox:O} (ho:o.op = .binOp (bif ne then .neq else .eql) ty x (.const (.pointer none)) t2) (hu:P.underlying ty=some (.pointer e)) (hx:ck P t1 x=some ox) :
  ∀v,pu (.pq ne) (gv t ox)=some v→∃v',(execOp a.eval o).run P w = .ok (.value v') w∧bB G w ρ v' v:=by
 intro v hv;have hvx:=bJ hC hx;have e0:a.eval (.const (.pointer none)) = .pointer none:=rfl;have key:∀(q:Option Addr),a.eval x = .pointer q→(execOp a.eval o).run P w = .ok (.value (.bool (bif ne then !q.isNone else q.isNone))) w:=by
  intro q he;have hek:∀k,(Op.equalIn (k+1) ty (.pointer q) (.pointer none)).run P w = .ok q.isNone w:=λk=>by
   cases q<;>simp [Op.equalIn,run_underlying hu]
  have heq:(Op.equal ty (.pointer q) (.pointer none)).run P w = .ok q.isNone w:=hek 9999;cases ne<;>simp only [δ,ε] at ho ⊢<;>simp only [execOp,ho,he,e0]
  ·refine cF ?_;simp [eqGuard,binOp,heq]
  ·refine cF ?_;simp [eqGuard,binOp,heq]
 have fin:∀(q:Option Addr),a.eval x = .pointer q→v = .d (.bool (bif ne then !q.isNone else q.isNone))→∃v',(execOp a.eval o).run P w = .ok (.value v') w∧bB G w ρ v' v:=λq h1 h2=>⟨_,key q h1,by rw [h2];exact .d (.bool _)⟩
 generalize a.eval x=av at hvx fin;cases hg:gv t ox with
 |p i o=>
  rw [hg] at hv hvx;cases hvx with | o h=>cases h with | c h=>cases h with | k h=>cases h with | p _ _ b h=>exact fin _ rfl (by cases ne<;>exact (an hv).symm)
 |e r o=>
  rw [hg] at hv hvx;cases hvx with | o h=>cases h with | c h=>cases h with | k h=>cases h with | e b=>exact fin _ rfl (by cases ne<;>exact (an hv).symm)
 |q i z j o=>
  rw [hg] at hv hvx;cases hvx with | o h=>cases h with | c h=>cases h with | k h=>cases h with | q=>exact fin _ rfl (by cases ne<;>exact (an hv).symm)
 |d y=>
  rw [hg] at hv hvx;cases y with
  |np=>
   have:=hvx.ra;cases this;exact fin _ rfl (by cases ne<;>exact (an hv).symm)
  |_=>cases hv
 |_=>rw [hg] at hv;cases hv
theorem SZ (hC:au E n G ρ t h a w) {ty t1:TypeId} {fs:Array Field} {f:Nat} {fd:Field} {m:Option Nat} {x:Operand} {ox:O} (ho:o.op = .field ty x f) (hu:P.underlying ty=some (.struct fs)) (hf:fs[f]? = some fd) (hl:u_ P fd.type=some m) (hx:ck P t1 x=some ox) :
  ∀v,pu (.fd fd.offset m) (gv t ox)=some v→∃v',(execOp a.eval o).run P w = .ok (.value v') w∧bB G w ρ v' v:=by
 intro v hv;have hvx:=bJ hC hx;cases hg:gv t ox with
 |ag cs=>
  rw [hg] at hv hvx;obtain ⟨cs',hc,hsz,hr⟩:=hvx.RS;have hl0:=hl;simp only [u_,aK,aD] at hl;obtain ⟨i,hi,b,hb,hm⟩:=hl;cases b with
  |false=>
   simp only [cp,ψ,aE] at hm;subst hm;simp only [pu] at hv;have hlt:fd.offset<cs'.size:=by rw [hsz];exact (aA.1 hv).1
   refine ⟨cs'.getD fd.offset undef,?_,.c (hr _ _ hv)⟩;simp only [execOp,ho,hc];refine cF ?_;simp [Instr.field,run_underlying hu,hf,asAgg,part,i_ hb,hlt]
  |true=>
   simp only [if_true,aE] at hm;subst hm;simp only [pu] at hv;cases hbq:Nat.beq ((cs.drop fd.offset).take i.size).length i.size with
   |false=>rw [hbq] at hv;cases hv
   |true=>
    rw [hbq] at hv;simp only [δ,aE] at hv;subst hv;have hlen:=jf hbq;rw [af,cE] at hlen;refine ⟨.agg (cs'.extract fd.offset (fd.offset+i.size)),?_,.o (.ag _ _ ?_ (λj y hy=>?_))⟩
    ·simp only [execOp,ho,hc];refine cF ?_;simp [Instr.field,run_underlying hu,hf,asAgg,part,i_ hb,sizeOf,typeInfo,hi]
    ·rw [Array.size_extract,af,cE];omega
    ·have hj:j<i.size:=by
      have:=(aA.1 hy).1;rw [af,cE] at this;omega
     rw [ae,ζ hj,aw] at hy;have:=hr _ y hy;have hlt:fd.offset+j<cs'.size:=by rw [hsz];exact (aA.1 hy).1
     rw [aF,aJ hlt] at this;rw [aF,Array.getElem?_extract];rw [ζ (by omega),aJ hlt];exact this
 |_=>rw [hg] at hv;cases m<;>cases hv
theorem Sh (hC:au E n G ρ t h a w) (hp:Rn E n a KP Q) {x:Operand} {ox:O} {t1:TypeId} (ho:o.op = .panic x) (hx:ck P t1 x=some ox) (hk:bz S ow (.pn ox) t h K KP):o.wp P a w b7 Q:=by
 have hvx:=bJ hC hx;simp only [bz] at hk;split at hk
 ·rename_i F cs hg;rw [hg] at hvx;obtain ⟨cs',hfc,_,_⟩:=hvx.Qo;cases hb:Nat.ble 2000000 F with
  |false=>rw [hb] at hk;exact hk.elim
  |true=>
   rw [hb] at hk;have:∃t' c,a.eval x = .iface t' c:=by
    rcases uN hfc (a_ hb) with ⟨_,hv,_⟩ | ⟨_,c,hv,_⟩
    ·exact ⟨_,_,hv⟩
    ·exact ⟨_,_,hv⟩
   obtain ⟨t',c,hc⟩:=this;have hq:=hp _ _ _ _ _ _ _ hC hvx hk;unfold Oper.wp;have hrun:(execOp a.eval o).run P w = .halt (.panic (.iface t' c)) w:=by
    simp only [execOp,ho,hc];simp [Instr.panic,goPanic]
   rw [hrun];rw [hc] at hq;exact hq
 ·exact hk.elim
theorem Sq (hC:au E n G ρ t h a w) (hn:iX E n a o K b7) {ty e t1 t2:TypeId} {zs:List V} {ds:List D} {i:TypeInfo} {l c:Operand} {ol oc:O} (ho:o.op = .makeSlice ty l c) (hu:P.underlying ty=some (.slice e)) (hz:rZ P e=some zs) (hd:zs.mapM Rl=some ds) (hi:P.info? e=some i)
  (hzl:zs.length=P.cellsOf e) (hl:ck P t1 l=some ol) (hc:ck P t2 c=some oc) (hk:bz S ow (.mk ds (P.cellsOf e) i.bytes ol oc) t h K KP):o.wp P a w b7 Q:=by
 have hvl:=bJ hC hl;have hvc:=bJ hC hc;obtain ⟨i',z,hi',hz1,hzs,_,hzr⟩:=js (G:=G) (w:=w) (ρ := ρ) hz;rw [hi] at hi';cases hi';simp only [bz,bo,cn] at hk;split at hk
 ·rename_i kl m kc q hgl hgc;rw [hgl] at hvl;rw [hgc] at hvc;have el:=hvl.int;have ec:=hvc.int;obtain ⟨⟨h0,h1,h2,h3⟩,hk⟩:=hk;have hsz:P.cellsOf e=i.size:=by simp [Program.cellsOf,hi]
  obtain ⟨d1,d2⟩:=vf hd;have hrun:=run_make (P:=P) w ty e i z hu hi hz1 kl kc m q h0 h1 (by rw [Int.mul_comm];omega) h3;have hC2:=hC.push (gY.alloc w (.cells (madeCells z.cells (q.toNat*i.size)) e)) (.slice (some ⟨w.heap.size,0,none⟩) m.toNat q.toNat) (.rows (P.cellsOf e) (List.replicate m.toNat ds)) (by intro b hb;simp only [f_,aE] at hb;omega)
   (.inr ⟨w.heap.size,q.toNat,madeCells z.cells (q.toNat*i.size),e,by simp,heap_alloc_new w _,by simp;omega,by simp only [maxLen];omega,by rw [size_madeCells,hsz],λj row hr=>by
    rw [List.getElem?_replicate] at hr;split at hr
    ·rename_i hj;cases hr;refine ⟨by rw [d1,hzl],λk x hx=>?_⟩;have hkl:k<zs.length:=by rw [←d1];exact (aA.1 hx).1
     have hks:k<i.size:=by rw [←hsz,←hzl];exact hkl
     have hzc:z.cells.size=i.size:=by rw [hzs,hzl,hsz]
     have hlt:j*i.size+k<q.toNat*i.size:=by
      have:(j+1)*i.size≤q.toNat*i.size:=bC _ (by omega);rw [bq] at this;omega
     have hget:(madeCells z.cells (q.toNat*i.size)).getD (j*P.cellsOf e+k) undef=z.cells.getD k undef:=by
      rw [hsz,aF,madeCells,eT,Array.getElem?_range];rw [ζ hlt,bA,bf,hzc,Nat.mul_comm,Nat.mul_add_mod,cX hks];rw [aF,aJ (by rw [hzc];exact hks)];simp [getElem!_pos,hzc,hks]
     rw [hget];have hv:=(hzr k zs[k] (aB hkl)).1;have hdo:=d2 k zs[k] x (aB hkl) hx;have:=Jb hv hdo;exact this.mono (λ_ h=>h) (λb hb=>(gY.alloc w _).h_ b (hC.ok.hr.gl b hb))
    ·cases hr⟩)
  refine dh ?_ (hn _ _ _ _ _ _ _ hC2 (.k (.os h.length (some ⟨w.heap.size,0,none⟩) m.toNat q.toNat (by rw [←hC.ok.hr.len];simp))) hk);simp only [execOp,ho,el,ec];exact cF hrun
 ·exact hk.elim
theorem Qd {d:D} {x:V} (h:Ub d x=true):x = .d d:=by
 unfold Ub at h;split at h
 ·rw [show (_:Bool)=_ from beq_iff_eq.1 h]
 ·simp only [aP,ξ] at h;rw [xM h.1,h.2]
 ·cases h
theorem TO (hC:au E n G ρ t h a w) (hn:iX E n a o K b7) {ty:TypeId} {zs:List V} {d:D} {m:Nat} (ho:o.op = .alloc ty) (hz:rZ P ty=some zs) (hl:zs.length=m) (hm:m≤1000000) (hd:zs.all (Ub d)=true)
  (hk:K (.q h.length 1 0 0) t (h ++ [.rows 1 (List.replicate m [d])])):o.wp P a w b7 Q:=by
 obtain ⟨i,z,hi,hz1,hzs,_,hzr⟩:=js (G:=G) (w:=w) (ρ := ρ) hz;have hC2:=hC.push (gY.alloc w (.cells z.cells ty)) (.slice (some ⟨w.heap.size,0,none⟩) m m) (.rows 1 (List.replicate m [d])) (by intro b hb;simp only [f_,aE] at hb;omega)
  (.inr ⟨w.heap.size,m,z.cells,ty,by simp,heap_alloc_new w _,by simp,by simp only [maxLen];omega,by rw [hzs,hl,Nat.mul_one],λj row hr=>by
   rw [List.getElem?_replicate] at hr;split at hr
   ·rename_i hj;cases hr;refine ⟨rfl,λk x hx=>?_⟩;have hk0:k=0:=by
     have:=(aA.1 hx).1;simpa using this
    subst hk0;simp at hx;subst hx;have hjl:j<zs.length:=by omega
    have hv:=(hzr j zs[j] (aB hjl)).1;rw [Qd (aT.1 hd _ (cL hjl))] at hv;have hv2:bw G w (z.cells.getD j undef) d:=by
     generalize z.cells.getD j undef=u at hv ⊢;cases hv;assumption
    rw [Nat.mul_one,dz];exact hv2.mono (λ_ h=>h) (λb hb=>(gY.alloc w _).h_ b (hC.ok.hr.gl b hb))
   ·cases hr⟩)
 refine dh (v':=.pointer (some ⟨w.heap.size,0,none⟩)) ?_ (hn _ _ _ _ _ _ _ hC2 (.k (.q h.length 1 0 0 w.heap.size m m (by rw [←hC.ok.hr.len];simp))) hk);simp [execOp,ho,Instr.alloc,zeroValue,typeInfo,hi,hz1,newVar,newRow]
theorem Sx (hC:au E n G ρ t h a w) (hn:iX E n a o K b7) {ty t1:TypeId} {x:Operand} {ox:O} {m:Nat} (ho:o.op = .load ty x) (hx:ck P t1 x=some ox) (hl:u_ P ty=some (some m)) (hk:bz S ow (.la ox m) t h K KP):o.wp P a w b7 Q:=by
 have hv:=bJ hC hx;simp only [bz] at hk;split at hk
 ·rename_i id z i off hg;rw [hg] at hv;obtain ⟨b,nn,c,hp,hρ⟩:=hv.ql;rw [get?_eq] at hk;split at hk
  ·rename_i z' rs hrs;obtain ⟨hq,ds,⟨rfl,hds⟩,hk⟩:=hk;simp only [aP] at hq;obtain ⟨⟨⟨q1,q2⟩,q3⟩,q4⟩:=hq;obtain rfl:=jf q1;obtain rfl:=jf q2;obtain rfl:=jf q3;obtain rfl:=jf q4;rw [Nat.zero_mul,dz] at hp;have hrow:∀(j:Nat) (d:D),ds[j]? = some d→∃v,w.cell? ⟨b,0+j,none⟩=some v∧bw G w v d:=λj d hj=>by
    obtain ⟨b',cap,arr,ty',hb,h1,h2,hle,h3⟩:=jn (hC.ok.hr.rep id _ _ hρ hrs) (i:=j) (row:=[d]) (by rw [aC,hj];rfl);simp only [Value.slice.injEq,aE,Addr.mk.injEq,ω] at hb;obtain ⟨rfl,_,_⟩:=hb;have:=h3 0 d rfl;rw [Nat.mul_one,dz] at this;exact ⟨_,by rw [bh];exact this.1,this.2⟩
   refine xL hC hn ho hp hl (U:=λj=>(w.cell? ⟨b,0+j,none⟩).getD undef) (vs:=ds.map .d) (by simpa using hds) (λj y hy=>?_) hk;rw [aC] at hy;cases hd:ds[j]? with
   |none=>rw [hd] at hy;cases hy
   |some d=>
    rw [hd] at hy;cases hy;obtain ⟨v,h1,h2⟩:=hrow j d hd;rw [h1];exact ⟨rfl,.k (.d h2)⟩
  ·exact hk.elim
 ·exact hk.elim
theorem Sy (hC:au E n G ρ t h a w) (hn:iX E n a o K b7) {ty e t1 t2:TypeId} {m:Nat} {x i:Operand} {ox oi:O} (ho:o.op = .indexAddr ty x i) (hu:P.underlying ty=some (.array m e)) (hc1:P.cellsOf e=1) (hx:ck P t1 x=some ox) (hi:ck P t2 i=some oi)
  (hk:bz S ow (.jq ox oi m) t h K KP):o.wp P a w b7 Q:=by
 have hvx:=bJ hC hx;have hvi:=bJ hC hi;have hrun:∀(b off:Nat) (k:IntKind) (j:Int),a.eval x = .pointer (some ⟨b,off,none⟩)→a.eval i = .int k j→0≤j→j<m →
   (execOp a.eval o).run P w = .ok (.value (.pointer (some ⟨b,off+j.toNat*P.cellsOf e,none⟩))) w:=by
  intro b off k j h1 h2 h3 h4;unfold Program.cellsOf at hc1 ⊢;cases hie:P.info? e with
  |none=>rw [hie] at hc1;simp at hc1
  |some ie=>
   simp [execOp,ho,h1,h2,Instr.indexAt,asIntOf,run_underlying hu,h3,h4,sizeOf,typeInfo,hie,eI,Instr.sureAddr]
 simp only [bz] at hk;split at hk
 ·rename_i id z j off k q hgx hgi;rw [hgx] at hvx;rw [hgi] at hvi;obtain ⟨b,nn,c,hp,hρ⟩:=hvx.ql;obtain ⟨hq,⟨h0,h1⟩,hk⟩:=hk;simp only [aP] at hq;obtain ⟨⟨q1,q2⟩,q3⟩:=hq;obtain rfl:=jf q1;obtain rfl:=jf q2;obtain rfl:=jf q3;refine az hC hn (hrun b _ k q hp hvi.int h0 h1) ?_ hk;rw [hc1];have:=dV.q (G:=G) (w:=w) id 1 q.toNat 0 b nn c hρ;simp only [Nat.zero_mul,bh,dz] at this ⊢;exact .k this
 ·exact hk.elim
theorem TN (hC:au E n G ρ t h a w) (hn:iX E n a o K b7) {ty e t1 t2:TypeId} {m:Nat} {x i:Operand} {ox oi:O} (ho:o.op = .index ty x i) (hu:P.underlying ty=some (.array m e)) (hag:kZ P e=some false) (hc1:P.cellsOf e=1) (hx:ck P t1 x=some ox) (hi:ck P t2 i=some oi)
  (hk:bz S ow (.ai ox oi m) t h K KP):o.wp P a w b7 Q:=by
 have hvx:=bJ hC hx;have hvi:=bJ hC hi;simp only [bz] at hk;split at hk
 ·rename_i cs k q hgx hgi;rw [hgx] at hvx;rw [hgi] at hvi;obtain ⟨cv,e1,ib,hcr⟩:=hvx.RS;have e2:=hvi.int;obtain ⟨v,⟨h0,h1,h2⟩,hk⟩:=hk;have hlt:q.toNat<cv.size:=by rw [ib];exact (aA.1 h2).1
  have hr:=hcr _ _ h2;have hv:bw G w (cv.getD q.toNat undef) v:=by
   generalize cv.getD q.toNat undef=u at hr;cases hr with
   |k h=>cases h;assumption
  refine az hC hn (v':=cv.getD q.toNat undef) ?_ (.d hv) hk;have hag':(isAgg e).run P w = .ok false w:=by
   unfold kZ at hag;cases hue:P.underlying e with
   |none=>rw [hue] at hag;cases hag
   |some u=>
    rw [hue] at hag;simp only [isAgg,Sem.run_bind,run_underlying hue,Result.andThen];cases u<;>simp_all
  unfold Program.cellsOf at hc1;cases hie:P.info? e with
  |none=>rw [hie] at hc1;simp at hc1
  |some ie=>
   rw [hie] at hc1;simp at hc1;simp [execOp,ho,e1,e2,Instr.index,asIntOf,run_underlying hu,h0,h1,sizeOf,typeInfo,hie,hc1,part,hag',hlt]
 ·exact hk.elim
theorem Se (hC:au E n G ρ t h a w) (hn:iX E n a o K b7) {s d e t1:TypeId} {x:Operand} {ox:O} (ho:o.op = .convert s d x) (hs:P.underlying s=some (.slice e)) (he:P.underlying e=some (.int .u8)) (hd:P.underlying d=some .string) (hx:ck P t1 x=some ox)
  (hk:bz S ow (.sb ox) t h K KP):o.wp P a w b7 Q:=by
 have hvx:=DP (bJ hC hx);have nil:∀(c:Nat),a.eval x = .slice none 0 c→K (.d (.str [])) t h→o.wp P a w b7 Q:=by
  intro c hv hk;have hr:=bw.str (G:=G) (w:=w) ByteArray.empty (by simp [maxLen]);refine az hC hn (v':=.string ByteArray.empty) ?_ (.d hr) hk;simp only [execOp,ho,hv];exact cF (by rw [run_convert_bytes_string w s d e none 0 c hs he hd];simp [Conv.bytesToString])
 have fin:∀(l:List UInt8) (ad:Addr) (c:Nat),a.eval x = .slice (some ad) l.length c→l.length≤maxLen→(∀j (hj:j<l.length),w.cell? (ad.add j)=some (.int .u8 (l[j].toNat:Int)))→K (.d (.str l)) t h→o.wp P a w b7 Q:=by
  intro l ad c hv hm hc hk;have hr:=bw.str (G:=G) (w:=w) ⟨l.toArray⟩ (by simpa [ByteArray.size] using hm);simp only at hr;refine az hC hn (v':=.string ⟨l.toArray⟩) ?_ (.d hr) hk;simp only [execOp,ho,hv];exact cF (run_convert_bytes_back w s d e ad c l hs he hd hc)
 have dat:∀(z:Nat) (l:List UInt8) (v:Value),a.eval x=v→bw G w v (.sl z (l.map λb=>[D.int .u8 b.toNat]))→K (.d (.str l)) t h→o.wp P a w b7 Q:=by
  intro z l v hv hD hk;generalize hr:(l.map λb=>[D.int .u8 b.toNat])=r at hD;have hnil:r = []→l = []:=λe=>by rw [e] at hr;simpa using hr
  cases hD with
  |yA=>rw [hnil rfl] at hk;exact nil 0 hv hk
  |sle ad=>rw [hnil rfl] at hk hr;exact fin [] ad 0 hv (by simp [maxLen]) (λj hj=>absurd hj (by simp)) (by simpa using hk)
  |sl b oo cap _ _ U h1 h2 h3 h4 h5 h6=>
   subst hr;rw [aI] at hv h1;refine fin l ⟨b,oo,none⟩ cap hv (aZ h1 h2) (λj hj=>?_) hk;have hg:(l.map λb=>[D.int .u8 b.toNat])[j]? = some [D.int .u8 l[j].toNat]:=by rw [aC,aB hj];rfl
   have hz:=h4 j _ hg;simp only [aV,ak] at hz;have hc:=h5 j _ 0 _ hg rfl;have hu:=h6 j _ 0 _ hg rfl;rw [←hz] at hc;rw [eI,show oo+j=oo+(j*(0+1)+0) by omega,hc];generalize U j 0=u at hu;cases hu;rfl
 simp only [bz] at hk;split at hk
 ·rename_i z r hg;rw [hg] at hvx;obtain ⟨l,rfl,hk⟩:=hk;exact dat z l _ rfl hvx.ra hk
 ·rename_i z r hg;rw [hg] at hvx;obtain ⟨ad,m,hv,hD⟩:=hvx.Nu;obtain ⟨l,rfl,hk⟩:=hk;exact dat z l _ hv hD hk
 ·rename_i id hg;rw [hg] at hvx;obtain ⟨ad,m,c,hv,hρ⟩:=hvx.QA;rw [get?_eq] at hk;split at hk
  ·rename_i z r hr;obtain ⟨l,rfl,hk⟩:=hk;rcases hC.ok.hr.rep id _ _ hρ hr with ⟨he,hl⟩ | ⟨b,cap,arr,ty',he,h1,hlc,hcm,hsz,hrow⟩
   ·cases he;have:l = []:=by simpa using hl
    subst this;exact nil 0 hv hk
   ·rw [aI] at he hlc;cases he;refine fin l ⟨b,0,none⟩ c hv (aZ hlc hcm) (λj hj=>?_) hk;have hg:(l.map λb=>[D.int .u8 b.toNat])[j]? = some [D.int .u8 l[j].toNat]:=by rw [aC,aB hj];rfl
    obtain ⟨hz,hD⟩:=hrow j _ hg;simp only [aV,ak] at hz;have hu:=hD 0 _ rfl;rw [←hz] at hu hsz;have hjl:j<arr.size:=by omega
    rw [eI,dO h1];have e1:arr.getD (j*(0+1)+0) undef=arr[j]:=by
     rw [show j*(0+1)+0=j by omega,aF,aJ hjl];rfl
    rw [e1] at hu;rw [bh,aJ hjl];generalize arr[j]=u at hu;cases hu;rfl
  ·exact hk.elim
 ·exact hk.elim
end
section
variable {P:Program} {E:gR} {n:Nat} {G:Nat→Prop} {ρ:List Value} {t:T} {h:H} {a:Act} {w:World} {o:Oper} {b7:Act→World→Prop} {Q:Exit→Act→World→Prop} {K KP:V→T→H→Prop}
variable (ow:Nat→Bool)
theorem ye {P:Program} {lo:Option Operand} {olo:Option O} (h:(match lo with | none=>some none | some x=>(ck P 0 x).map some)=some olo):(lo=none∧olo=none)∨∃y oy ty',lo=some y∧olo=some oy∧ck P ty' y=some oy:=by
 cases lo with
 |none=>cases h;exact .inl ⟨rfl,rfl⟩
 |some y=>
  simp only [aG] at h;obtain ⟨oy,h1,rfl⟩:=h;exact .inr ⟨y,oy,0,rfl,rfl,h1⟩
theorem lT {α β:Type} {f:α→Option β}:∀{l:List α} {r:List β},l.mapM f=some r→r.length=l.length∧∀(k:Nat) (x:α) (y:β),l[k]? = some x→r[k]? = some y→f x=some y:=by
 intro l
 induction l with
 |nil=>intro r h;simp at h;subst h;simp
 |cons x l ih=>
  intro r h;simp only [gJ,aK,aD,jW,aE] at h;obtain ⟨y,hy,ys,hys,rfl⟩:=h;obtain ⟨h1,h2⟩:=ih hys;refine ⟨by simp [h1],λk x' y' hx hy'=>?_⟩;cases k with
  |zero=>simp at hx hy';subst hx hy';exact hy
  |succ k=>exact h2 k x' y' (by simpa using hx) (by simpa using hy')
theorem CQ (s:ByteArray) (l u:Nat):(s.extract l u).data.toList=(s.data.toList.take u).drop l:=by
 rw [ByteArray.data_extract,Array.toList_extract];rw [List.extract_eq_take_drop];rw [List.drop_take]
theorem Sd (hC:au E n G ρ t h a w) (hn:iX E n a o K b7) {ty t1:TypeId} {x:Operand} {lo hi:Option Operand} {ox:O} {olo ohi:Option O} (ho:o.op = .slice ty x lo hi none) (hu:P.underlying ty=some .string)
  (hx:ck P t1 x=some ox) (hlo:(lo=none∧olo=none)∨∃y oy ty',lo=some y∧olo=some oy∧ck P ty' y=some oy) (hhi:(hi=none∧ohi=none)∨∃y oy ty',hi=some y∧ohi=some oy∧ck P ty' y=some oy)
  (hk:bz (Sat P) ow (.ss ox olo ohi) t h K KP):o.wp P a w b7 Q:=by
 have hvx:=bJ hC hx;have hL:∀l:Int,(∃k,(match olo with | some lo=>gv t lo | none=>.d (.int .i64 0)) = .d (.int k l))→(lo=none∧l=0)∨∃y k,lo=some y∧a.eval y = .int k l:=by
  rintro l ⟨k,hl⟩
  rcases hlo with ⟨h1,h2⟩ | ⟨y,oy,ty',h1,h2,h3⟩
  ·subst h2;simp at hl;exact .inl ⟨h1,hl.2.symm⟩
  ·subst h2;have:=bJ hC h3;simp only at hl;rw [hl] at this;exact .inr ⟨y,k,h1,this.int⟩
 have fin:∀(r:List UInt8) (l u:Int),gv t ox = .d (.str r)→0≤l→l≤u→u≤r.length→K (.d (.str ((r.take u.toNat).drop l.toNat))) t h →
   (∀s:ByteArray,a.eval x = .string s→s.size=r.length→(execOp a.eval o).run P w = .ok (.value (.string (s.extract l.toNat u.toNat))) w)→o.wp P a w b7 Q:=by
  intro r l u hg h0 h1 h2 hk hrun;rw [hg] at hvx;obtain ⟨s,hv,rfl,hm⟩:=hvx.str;refine az hC hn (hrun s hv (jm s)) (.d ?_) hk;rw [←CQ];refine .str _ (aZ ?_ hm);rw [jm,CQ,jm];simp only [cE,af];omega
 simp only [bz] at hk;split at hk
 ·rename_i kl l hl;have hL:=hL l ⟨kl,hl⟩;rcases hhi with ⟨rfl,_⟩ | ⟨_,_,_,_,h2,_⟩
  rotate_left
  ·cases h2
  split at hk
  ·rename_i r hg;obtain ⟨⟨g1,g2⟩,hk⟩:=hk;refine fin r l r.length hg g1 g2 (dT _) (by rw [Int.toNat_natCast,cu];exact hk) (λs hv hs=>?_);rw [Int.toNat_natCast,←hs];rcases hL with ⟨rfl,rfl⟩ | ⟨y,k,rfl,hy⟩
   ·simp [execOp,ho,hv,run_sliceAt_string w ty _ _ _ _ hu,Instr.slice,run_underlying hu,Instr.sliceBounds]
   ·have hl1:=run_sliceBound (P:=P) w k l s.size .sliceB g1 (by rw [hs];exact g2);simp [execOp,ho,hv,hy,run_sliceAt_string w ty _ _ _ _ hu,Instr.slice,run_underlying hu,Instr.sliceBounds,hl1]
  ·exact hk.elim
 ·rename_i kl l ohi hl;have hL:=hL l ⟨kl,hl⟩;rcases hhi with ⟨_,h2⟩ | ⟨yh,oyh,tyh,rfl,h2,hyh⟩
  ·cases h2
  cases h2;split at hk
  ·rename_i ku u hgu;have hvu:=bJ hC hyh;rw [hgu] at hvu;have hvu:=hvu.int;split at hk
   ·rename_i r hg;obtain ⟨⟨g1,g2,g3⟩,hk⟩:=hk;refine fin r l u hg g1 g2 g3 hk (λs hv hs=>?_);have hu1:=run_sliceBound (P:=P) w ku u s.size .sliceAlen (by omega) (by rw [hs];exact g3);have hun:(u.toNat:Int)=u:=Int.toNat_of_nonneg (by omega);rcases hL with ⟨rfl,rfl⟩ | ⟨y,k,rfl,hy⟩
    ·simp [execOp,ho,hv,hvu,run_sliceAt_string w ty _ _ _ _ hu,Instr.slice,run_underlying hu,Instr.sliceBounds,hu1]
    ·have hl1:=run_sliceBound (P:=P) w k l u.toNat .sliceB g1 (by omega);simp [execOp,ho,hv,hvu,hy,run_sliceAt_string w ty _ _ _ _ hu,Instr.slice,run_underlying hu,Instr.sliceBounds,hu1,hl1]
   ·exact hk.elim
  ·exact hk.elim
 ·exact hk.elim
theorem lF {α:Type} {a:Array α} {l:List α} (h:a.toList=l):a=l.toArray:=by rw [←h]
theorem pD (hC:au E n G ρ t h a w) (hn:iX E n a o K b7) (hp:Rn E n a KP Q) {x:X} (hx:fq P o.type o.op=some x∨x = .bad) (hk:bz (Sat P) ow x t h K KP):o.wp P a w b7 Q:=by
 rcases hx with hx | rfl
 case inr=>exact hk.elim
 cases ho:o.op<;>rw [ho] at hx<;>simp only [fq] at hx<;>try (cases hx;done)
 case move y=>
  split at hx
  ·cases hx;simp only [bz,bo,cn] at hk;exact Gz hC hn (.inl ho) hk
  ·simp only [aG] at hx;obtain ⟨oy,hy,rfl⟩:=hx;exact N1 hC hn (.inl ho) hy hk
 case assign y=>
  split at hx
  ·cases hx;simp only [bz,bo,cn] at hk;exact Gz hC hn (.inr ho) hk
  ·simp only [aG] at hx;obtain ⟨oy,hy,rfl⟩:=hx;exact N1 hC hn (.inr ho) hy hk
 case pick c y z=>
  simp only [aK,aD,aE] at hx;obtain ⟨oc,hc,oy,hy,oz,hz,rfl⟩:=hx;simp only [bz] at hk;split at hk
  ·exact Si hC hn ho hc hy hz ‹_› hk
  ·exact hk.elim
 case alloc ty=>
  have al:(rZ P ty).map X.al=some x→o.wp P a w b7 Q:=λhx=>by
   simp only [aG] at hx;obtain ⟨zs,hz,rfl⟩:=hx;simp only [bz,bo,cn] at hk;exact TM hC hn ho hz hk
  split at hx
  ·split at hx
   ·rename_i m e hu hm;simp only [aK,aD] at hx;obtain ⟨zs,hz,hx⟩:=hx;split at hx
    ·split at hx
     ·rename_i d r hc;simp only [aP,χ] at hc hm;cases hx;simp only [bz,bo,cn] at hk;exact TO hC hn ho hz hc.1 hm.2 hc.2 hk
     ·cases hx
    ·cases hx
   ·exact al hx
  ·exact al hx
 case box ty y=>
  simp only [aG] at hx;obtain ⟨oy,hy,rfl⟩:=hx;simp only [bz,bo,cn] at hk;exact TI hC hn ho hy hk
 case build ty ps=>
  split at hx
  ·rename_i fs hu;simp only [aK,aD,aE] at hx;obtain ⟨pl,hpl,qs,hqs,zs,hz,rfl⟩:=hx;obtain ⟨g1,g2⟩:=lT hqs;refine TK (Sat P) ow hC hn ho hu hpl hz ⟨by simpa using g1,λk p q hp hq=>?_⟩ hk;have:=g2 k p q (by simpa using hp) hq;simp only [aD,aE] at this;obtain ⟨f,hf,q',hq',oy,hy,rfl⟩:=this;exact ⟨hq',_,hy⟩
  ·cases hx
 case buildSlice ty m ps=>
  split at hx
  ·rename_i e hu;simp only [aK,aD] at hx;obtain ⟨qs,hqs,zs,hz,hx⟩:=hx;split at hx
   ·rename_i hc;cases hx;simp only [aP,χ,gK] at hc;obtain ⟨⟨⟨rfl,hq0⟩,_⟩,_⟩:=hc;subst hq0;obtain ⟨g1,_⟩:=lT hqs;have hps:ps = #[]:=eU (by simpa using g1.symm);subst hps;exact Sk (Sat P) ow hC hn ho hu hz hk
   ·split at hx
    ·cases hx
    ·rename_i hc;cases hx;simp only [b_,χ,bne_iff_ne,ne_eq,not_or,kU] at hc;obtain ⟨⟨⟨c1,c2⟩,c3⟩,c4⟩:=hc;obtain ⟨g1,g2⟩:=lT hqs;refine TJ (Sat P) ow hC hn ho hu hz c4 c1 (by omega) c3 ⟨by simpa using g1,λk p q hp hq=>?_⟩ hk;have:=g2 k p q (by simpa using hp) hq;simp only [aD,aE] at this;obtain ⟨oy,hy,rfl⟩:=this;exact ⟨rfl,_,hy⟩
  ·cases hx
 case load ty y=>
  have ld:(do some (X.ld (←ck P ty y) (←u_ P ty)))=some x→o.wp P a w b7 Q:=λhx=>by
   simp only [aK,aD,aE] at hx;obtain ⟨oy,hy,m,hm,rfl⟩:=hx;exact Sw (Sat P) ow hC hn ho hy hm hk
  split at hx
  ·split at hx
   ·split at hx
    ·simp only [aK,aD] at hx;obtain ⟨k,hl,oy,hy,hx⟩:=hx;split at hx
     ·rename_i hkm;subst hkm;cases hx;exact Sx (Sat P) ow hC hn ho hy hl hk
     ·cases hx
    ·cases hx
   ·exact ld hx
  ·exact ld hx
 case store ty y z=>
  simp only [aK,aD,aE] at hx;obtain ⟨oy,hy,oz,hz,m,hm,rfl⟩:=hx;exact Sb (Sat P) ow hC hn ho hy hz hm hk
 case fieldAddr ty y f=>
  split at hx
  ·rename_i fs hu;simp only [aK,aD] at hx;obtain ⟨fd,hf,hx⟩:=hx;split at hx
   ·cases hx
   ·rename_i hz;simp only [aD,aE] at hx;obtain ⟨oy,hy,rfl⟩:=hx;exact TC (Sat P) ow hC hn ho hu hf hz hy hk
  ·cases hx
 case indexAddr ty y z=>
  split at hx
  ·rename_i e hu;split at hx
   ·cases hx
   ·rename_i hc;simp only [aK,aD,aE] at hx;obtain ⟨oy,hy,oz,hz,rfl⟩:=hx;exact TB (Sat P) ow hC hn ho hu hc hy hz hk
  ·rename_i m e hu;split at hx
   ·cases hx
   ·rename_i hc;split at hx
    ·split at hx
     ·rename_i hc1;simp only [aK,aD,aE] at hx;obtain ⟨oy,hy,oz,hz,rfl⟩:=hx;exact Sy (Sat P) ow hC hn ho hu hc1 hy hz hk
     ·cases hx
    ·simp only [aK,aD,aE] at hx;obtain ⟨oy,hy,oz,hz,rfl⟩:=hx;exact Sz (Sat P) ow hC hn ho hu hc hy hz hk
  ·cases hx
 case makeMap ty r=>
  cases r with
  |some r=>cases hx
  |none=>
   simp only at hx
   repeat' split at hx
   all_goals first
    |(cases hx;done)
    |(cases hx;exact So (Sat P) ow hC hn ho hk)
 case range ty y=>
  split at hx
  ·rename_i kt e hu;simp only [aG] at hx;obtain ⟨oy,hy,rfl⟩:=hx;exact Sg (Sat P) ow hC hn ho hu hy hk
  ·cases hx
 case next y b=>
  cases b with
  |true=>cases hx
  |false=>
   simp only [aG] at hx;obtain ⟨oy,hy,rfl⟩:=hx;exact Sj (Sat P) ow hC hn ho hy hk
 case entry y=>
  simp only [aG] at hx;obtain ⟨oy,hy,rfl⟩:=hx;exact TE (Sat P) ow hC hn ho hy hk
 case lookup ty y k ok=>
  split at hx
  ·rename_i kt e hu;simp only [aK,aD,aE] at hx;obtain ⟨oy,hy,oz,hz,ks,hks,zv,hzv,rfl⟩:=hx;exact Sp (Sat P) ow hC hn ho hu hy hz hks hzv hk
  ·cases hx
 case mapUpdate ty y k v=>
  split at hx
  ·rename_i kt e hu;simp only [aK,aD,aE] at hx;obtain ⟨oy,hy,oz,hz,ov,hv,ks,hks,rfl⟩:=hx;exact N2 (Sat P) ow hC hn (.inl ho) hu hy hz hv hks hk
  ·cases hx
 case insert ty y k v=>
  split at hx
  ·rename_i kt e hu;simp only [aK,aD,aE] at hx;obtain ⟨oy,hy,oz,hz,ov,hv,ks,hks,rfl⟩:=hx;exact N2 (Sat P) ow hC hn (.inr ho) hu hy hz hv hks hk
  ·cases hx
 case binOp b ty y z u=>
  split at hx
  ·simp only [aK,aD,aE] at hx;obtain ⟨oy,hy,oz,hz,rfl⟩:=hx;exact HF (Sat P) ow hC hn ho hy hz hk
  ·rename_i e hu;split at hx
   ·rename_i y;simp only [aG] at hx;obtain ⟨oy,hy,rfl⟩:=hx;exact N0 (Sat P) ow hC hn (ne:=false) ho hu hy hk
   ·rename_i y;simp only [aG] at hx;obtain ⟨oy,hy,rfl⟩:=hx;exact N0 (Sat P) ow hC hn (ne:=true) ho hu hy hk
   ·cases hx
  ·rename_i ms hu;split at hx
   ·simp only [aG] at hx;obtain ⟨oy,hy,rfl⟩:=hx;exact tN (Sat P) ow hC hn hy (NX hC (ne:=false) ho hu hy) hk
   ·simp only [aG] at hx;obtain ⟨oy,hy,rfl⟩:=hx;exact tN (Sat P) ow hC hn hy (NX hC (ne:=true) ho hu hy) hk
   ·cases hx
  ·rename_i e hu;split at hx
   ·simp only [aG] at hx;obtain ⟨oy,hy,rfl⟩:=hx;exact tN (Sat P) ow hC hn hy (NW hC (ne:=false) ho hu hy) hk
   ·simp only [aG] at hx;obtain ⟨oy,hy,rfl⟩:=hx;exact tN (Sat P) ow hC hn hy (NW hC (ne:=true) ho hu hy) hk
   ·cases hx
  ·rename_i hni _ _ _;split at hx
   ·split at hx
    ·simp only [aK,aD,aE] at hx;obtain ⟨oy,hy,oz,hz,rfl⟩:=hx;exact HF (Sat P) ow hC hn ho hy hz hk
    ·cases hx
   ·split at hx
    ·cases hx
    ·rename_i hg;simp only [aK,aD,aE] at hx;obtain ⟨ks,hf,st,ha,oy,hy,oz,hz,rfl⟩:=hx;exact N4 (Sat P) ow hC hn (ne:=false) ho hy hz (λk e=>hni k e) (by simpa using hg) hf ha hk
   ·split at hx
    ·cases hx
    ·rename_i hg;simp only [aK,aD,aE] at hx;obtain ⟨ks,hf,st,ha,oy,hy,oz,hz,rfl⟩:=hx;exact N4 (Sat P) ow hC hn (ne:=true) ho hy hz (λk e=>hni k e) (by simpa using hg) hf ha hk
   ·cases hx
 case unOp u ty y=>
  simp only [aK,aD,aE] at hx;obtain ⟨oy,hy,rfl⟩:=hx;exact Sa (Sat P) ow hC hn ho hy hk
 case convert s d y=>
  split at hx
  ·rename_i hs hd;simp only [aG] at hx;obtain ⟨oy,hy,rfl⟩:=hx;exact TF (Sat P) ow hC hn ho hs hd hy hk
  ·rename_i e hs hd;split at hx
   ·rename_i he;simp only [aG] at hx;obtain ⟨oy,hy,rfl⟩:=hx;exact Se (Sat P) ow hC hn ho hs he hd hy hk
   ·cases hx
  ·cases hx
 case slice ty y lo hi m=>
  simp only [aK] at hx;split at hx
  ·rename_i e hu;split at hx
   ·cases hx
   ·rename_i hc;simp only [aD,aE] at hx;obtain ⟨oy,hy,olo,hlo,ohi,hhi,om,hm,rfl⟩:=hx;exact Sf (Sat P) ow hC hn ho hu hc hy (ye hlo) (ye hhi) (ye hm) hk
  ·rename_i hu;split at hx
   ·simp only [aD,aE] at hx;obtain ⟨oy,hy,olo,hlo,ohi,hhi,rfl⟩:=hx;exact Sd ow hC hn ho hu hy (ye hlo) (ye hhi) hk
   ·cases hx
  ·cases hx
 case nilCheck y=>
  simp only [aG] at hx;obtain ⟨oy,hy,rfl⟩:=hx;exact Sl (Sat P) ow hC hn ho hy hk
 case index ty y i=>
  split at hx
  ·rename_i hu;simp only [aK,aD,aE] at hx;obtain ⟨oy,hy,oz,hz,rfl⟩:=hx;exact S_ (Sat P) ow hC hn ho hu hy hz hk
  ·rename_i m e hu;split at hx
   ·rename_i hc;simp only [aP,χ] at hc;simp only [aK,aD,aE] at hx;obtain ⟨oy,hy,oz,hz,rfl⟩:=hx;exact TN (Sat P) ow hC hn ho hu hc.1 hc.2 hy hz hk
   ·cases hx
  ·cases hx
 case extract y i=>
  simp only [aK,aD,aE] at hx;obtain ⟨oy,hy,rfl⟩:=hx;exact TD (Sat P) ow hC hn ho hy hk
 case makeInterface ty y=>
  split at hx
  ·cases hx
  ·rename_i u hni hu;simp only [aK,aD] at hx;obtain ⟨ag,_,hx⟩:=hx;split at hx
   ·rename_i hty;simp only [aD,aE] at hx;obtain ⟨oy,hy,rfl⟩:=hx;exact tN (Sat P) ow hC hn hy (SY hC ho (λms h=>by rw [hu] at h;cases h;exact hni ms rfl) hu hty hy) hk
   ·cases hx
  ·cases hx
 case typeAssert y xt ty ok=>
  split at hx
  ·cases hx
  ·rename_i u hni hu;simp only [aK,aD] at hx;obtain ⟨ag,_,hx⟩:=hx;split at hx
   ·rename_i hty;simp only [aD,aE] at hx;obtain ⟨zv,hz,oy,hy,rfl⟩:=hx;exact tN (Sat P) ow hC hn hy (SX hC ho (λms h=>by rw [hu] at h;cases h;exact hni ms rfl) hu hty hz hy) hk
   ·cases hx
  ·cases hx
 case field ty y f=>
  split at hx
  ·rename_i fs hu;simp only [aK,aD,aE] at hx;obtain ⟨fd,hf,m,hl,oy,hy,rfl⟩:=hx;exact tN (Sat P) ow hC hn hy (SZ hC ho hu hf hl hy) hk
  ·cases hx
 case panic y=>
  simp only [aG] at hx;obtain ⟨oy,hy,rfl⟩:=hx;exact Sh (Sat P) ow hC hp ho hy hk
 case makeSlice ty l c=>
  split at hx
  ·rename_i e hu;simp only [aK,aD] at hx;obtain ⟨zs,hz,ds,hd,i,hi,hx⟩:=hx;split at hx
   ·cases hx
   ·rename_i hc;simp only [aD,aE] at hx;obtain ⟨ol,hl,oc,hoc,rfl⟩:=hx;simp only [ne_eq,b_,χ,not_or,kU] at hc;exact Sq (Sat P) ow hC hn ho hu hz hd hi hc.1 hl hoc hk
  ·cases hx
 case makeFunc fn first caps=>
  cases fn<;>simp only at hx<;>try (cases hx;done)
  rename_i f;have key:∀(xs:List Operand) (oc:List O),args P xs []=some oc→oc.length=xs.length∧∀(i:Nat) (x:O),oc[i]? = some x→∃y ty,xs[i]? = some y∧ck P ty y=some x:=by
   intro xs
   induction xs with
   |nil=>intro oc h;simp only [args] at h;cases h;simp
   |cons x xs ih=>
    intro oc h;simp only [args,aK,aD] at h;obtain ⟨y,hy,ys,hys,he⟩:=h;cases he;obtain ⟨g1,g2⟩:=ih ys hys;refine ⟨by simp [g1],λi z hz=>?_⟩;cases i with
    |zero=>simp at hz;subst hz;exact ⟨x,0,rfl,hy⟩
    |succ i=>simpa using g2 i z (by simpa using hz)
  split at hx
  ·rename_i hf;split at hx
   ·rename_i hfirst;rw [aG] at hx;obtain ⟨oc,hoc,rfl⟩:=hx;simp only [bz,bo] at hk;obtain ⟨g1,g2⟩:=key _ _ hoc;exact N3 hC hn ho hf (.inl ⟨rfl,eU hfirst,rfl⟩) ⟨by simpa using g1,λi x hi=>by simpa using g2 i x hi⟩ hk
   ·split at hx
    ·rename_i hcap;rw [aG] at hx;obtain ⟨oc,hoc,rfl⟩:=hx;simp only [bz,bo] at hk;obtain ⟨g1,g2⟩:=key _ _ hoc;exact N3 hC hn ho hf (.inr ⟨rfl,eU hcap,rfl⟩) ⟨by simpa using g1,λi x hi=>by simpa using g2 i x hi⟩ hk
    ·cases hx
  ·cases hx
 case call c=>
  obtain ⟨callee,as,ts⟩:=c;cases callee with
  |value f=>
   cases f<;>simp only at hx
   case func f=>
    split at hx
    ·rename_i hlt;simp only [aG] at hx;obtain ⟨oa,ha,rfl⟩:=hx;exact TG ow hC hn hp hlt ho rfl ha hk
    ·cases hx
   all_goals
    simp only [aK,aD,aE] at hx;obtain ⟨oy,hy,oa,ha,rfl⟩:=hx;exact TH ow hC hn hp ho rfl hy ha hk
  |invoke r m=>cases hx
  |builtin b=>
   cases b<;>simp only at hx<;>try (cases hx;done)
   case len=>
    split at hx
    ·rename_i y u h1 h2;have e1:=lF h1;have e2:=lF h2;subst e1 e2;split at hx
     ·simp only [aG] at hx;obtain ⟨oy,hy,rfl⟩:=hx;exact Su (Sat P) ow hC hn ho ‹_› hy hk
     ·simp only [aG] at hx;obtain ⟨oy,hy,rfl⟩:=hx;exact Sv (Sat P) ow hC hn ho ‹_› hy hk
     ·simp only [aG] at hx;obtain ⟨oy,hy,rfl⟩:=hx;exact Ss (Sat P) ow hC hn ho ‹_› hy hk
     ·cases hx
    ·cases hx
   case delete=>
    split at hx
    ·rename_i y z u v h1 h2;have e1:=lF h1;have e2:=lF h2;subst e1 e2;split at hx
     ·rename_i kt e hu;simp only [aK,aD,aE] at hx;obtain ⟨oy,hy,oz,hz,ks,hks,rfl⟩:=hx;exact Sr (Sat P) ow hC hn ho hu hy hz hks hk
     ·cases hx
    ·cases hx
   case clear=>
    split at hx
    ·rename_i y u h1 h2;have e1:=lF h1;have e2:=lF h2;subst e1 e2;split at hx
     ·rename_i e hu;simp only [aK,aD] at hx;obtain ⟨zs,hz,ds,hd,hx⟩:=hx;split at hx
      ·cases hx
      ·rename_i hc;simp only [aD,aE] at hx;obtain ⟨oy,hy,rfl⟩:=hx;simp only [ne_eq,b_,χ,not_or,kU] at hc;exact QF (Sat P) ow hC hn ho hu hz hd hc.1 hc.2 hy hk
     ·cases hx
    ·cases hx
   case min=>
    split at hx
    ·rename_i y z h1;have e1:=lF h1;subst e1;simp only [aK,aD,aE] at hx;obtain ⟨oy,hy,oz,hz,rfl⟩:=hx;exact Sn (Sat P) ow hC hn ho hy hz hk
    ·cases hx
   case max=>
    split at hx
    ·rename_i y z h1;have e1:=lF h1;subst e1;simp only [aK,aD,aE] at hx;obtain ⟨oy,hy,oz,hz,rfl⟩:=hx;exact Sm (Sat P) ow hC hn ho hy hz hk
    ·cases hx
   case append=>
    split at hx
    ·rename_i y z u v h1 h2;have e1:=lF h1;have e2:=lF h2;subst e1 e2;split at hx
     ·rename_i e _ hu hv;simp only [aK,aD] at hx;obtain ⟨zs,hz,hx⟩:=hx;split at hx
      ·cases hx
      ·rename_i hc;simp only [aD,aE,aG] at hx;obtain ⟨oy,hy,oz,hoz,by_,⟨i,hi,rfl⟩,rfl⟩:=hx;have hci:P.cellsOf e=i.size:=by simp [Program.cellsOf,hi]
       simp only [ne_eq,b_,χ,not_or,kU] at hc;rw [hci] at hk;exact TL (Sat P) ow hC hn ho hu hv hi hz (by rw [←hci];exact hc.1) hy hoz hk
     ·cases hx
    ·cases hx
end
end Go.Vx
