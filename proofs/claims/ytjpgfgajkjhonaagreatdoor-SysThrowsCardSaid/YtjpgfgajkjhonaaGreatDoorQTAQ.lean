/- A drawn row in any order, but what may be done first is. Conditions: none; lemmas on the definitions before. -/
import Derived.Test.YtjpgfgajkjhonaaGreatDoorQTAO
import Derived.OrdersHeld
namespace Go.Vx
def sofS {α : Type} : Sem α → Prop
 | .pure _ => True
 | .load _ _ k => ∀ v, sofS (k v)
 | .new _ k => ∀ r, sofS (k r)
 | .shape _ k => ∀ s, sofS (k s)
 | .frozen _ k => ∀ b, sofS (k b)
 | .program k => ∀ p, sofS (k p)
 | .mark _ k => sofS k
 | .halt _ => True
 | _ => False
theorem sofS_bind' {α β : Type} {f : α → Sem β} (hf : ∀ a, sofS (f a)) (s : Sem α) : sofS s → sofS (s.bind f) := by
 induction s with
 | pure a => intro _; exact hf a
 | load _ _ _ ih => intro h v; exact ih v (h v)
 | new _ _ ih => intro h v; exact ih v (h v)
 | shape _ _ ih => intro h v; exact ih v (h v)
 | frozen _ _ ih => intro h v; exact ih v (h v)
 | program _ ih => intro h v; exact ih v (h v)
 | mark _ _ ih => intro h; exact ih h
 | halt _ => intro _; trivial
 | _ => intro h; exact h.elim
theorem sofS_bind {α β : Type} {f : α → Sem β} {s : Sem α} (hf : ∀ a, sofS (f a)) (h : sofS s) : sofS (s.bind f) := sofS_bind' hf s h
def Ext (w w' : World) : Prop := w.heap.size ≤ w'.heap.size ∧ ∀ b, b < w.heap.size → w'.heap[b]? = w.heap[b]?
theorem Ext.refl (w : World) : Ext w w := ⟨Nat.le_refl _, fun _ _ => rfl⟩
theorem Ext.trans {a b c : World} (h : Ext a b) (g : Ext b c) : Ext a c :=
 ⟨Nat.le_trans h.1 g.1, fun x hx => by rw [g.2 x (Nat.lt_of_lt_of_le hx h.1), h.2 x hx]⟩
theorem sof_run {α : Type} {P : Program} : ∀ {s : Sem α}, sofS s → ∀ {w w' : World} {x : α}, s.run P w = .ok x w' → Ext w w'
 | .pure _, _, w, w', x, hr => by
  simp only [Sem.run, Result.ok.injEq] at hr
  rw [← hr.2]; exact Ext.refl w
 | .load m a k, h, w, w', x, hr => by
  simp only [Sem.run] at hr
  split at hr
  ·exact sof_run (h _) hr
  ·split at hr
   ·exact sof_run (h _) hr
   ·cases hr
 | .new o k, h, w, w', x, hr => by
  simp only [Sem.run] at hr
  refine Ext.trans ?_ (sof_run (h _) hr)
  exact ⟨by simp, fun b hb => by simp [Array.getElem?_push, Nat.ne_of_lt hb]⟩
 | .shape _ k, h, w, w', x, hr => by
  simp only [Sem.run] at hr
  exact sof_run (h _) hr
 | .frozen _ k, h, w, w', x, hr => by
  simp only [Sem.run] at hr
  exact sof_run (h _) hr
 | .program k, h, w, w', x, hr => by
  simp only [Sem.run] at hr
  exact sof_run (h _) hr
 | .mark _ k, h, w, w', x, hr => by
  simp only [Sem.run] at hr
  exact sof_run (s := k) h hr
 | .halt _, _, w, w', x, hr => by
  simp only [Sem.run] at hr
  cases hr
def sofO (o : Oper) : Prop := match o.op with
 | .move _ | .assign _ | .extract _ _ | .load _ _ | .alloc _ => True
 | _ => False
theorem sofS_typeInfo (t : TypeId) : sofS (typeInfo t) := by
 unfold typeInfo
 refine sofS_bind (s := program) (fun p => ?_) (fun _ => trivial)
 split <;> trivial
theorem sofS_underlying (t : TypeId) : sofS (underlying t) := by
 unfold underlying
 refine sofS_bind (s := program) (fun p => ?_) (fun _ => trivial)
 split <;> trivial
theorem sofS_isAgg (t : TypeId) : sofS (isAgg t) := by
 unfold isAgg
 refine sofS_bind (fun p => ?_) (sofS_underlying t)
 split <;> trivial
theorem sofS_sizeOf (t : TypeId) : sofS (sizeOf t) := by
 unfold sizeOf
 exact sofS_bind (fun _ => trivial) (sofS_typeInfo t)
theorem sofS_cells (a : Addr) : ∀ (n i : Nat) (acc : Array Value), sofS (loadCellsFrom a i n acc)
 | 0, _, _ => trivial
 | n + 1, i, acc => by
  unfold loadCellsFrom
  exact sofS_bind (s := load (a.add i)) (fun v => sofS_cells a n (i + 1) _) (fun _ => trivial)
theorem sofS_loadAt (t : TypeId) (v : Value) : sofS (Instr.loadAt t v) := by
 unfold Instr.loadAt
 refine sofS_bind (fun a => ?_) ?_
 ·unfold loadVar
  refine sofS_bind (fun b => ?_) (sofS_isAgg t)
  split
  ·refine sofS_bind (s := sizeOf t) (fun n => ?_) (sofS_sizeOf t)
   exact sofS_bind (s := loadCells a n) (fun cs => trivial) (sofS_cells a n 0 #[])
  ·exact fun _ => trivial
 ·unfold Instr.sureAddr
  split <;> trivial
theorem sofS_alloc (t : TypeId) : sofS (Instr.alloc t true (.tuple #[])) := by
 unfold Instr.alloc
 refine sofS_bind (fun z => ?_) ?_
 ·refine sofS_bind (fun a => trivial) ?_
  exact fun _ => trivial
 ·unfold zeroValue
  refine sofS_bind (fun i => ?_) (sofS_typeInfo t)
  split <;> trivial
theorem sofS_exec {o : Oper} (h : sofO o) (ρ : Operand → Value) : sofS (execOp ρ o) := by
 unfold sofO at h
 unfold execOp
 cases ho : o.op <;> rw [ho] at h <;> try exact h.elim
 case move x => trivial
 case assign x => trivial
 case extract x i =>
  refine sofS_bind (fun _ => trivial) ?_
  unfold Instr.extract
  split
  ·split <;> trivial
  ·trivial
 case load t x => exact sofS_bind (fun _ => trivial) (sofS_loadAt t _)
 case alloc t => exact sofS_bind (fun _ => trivial) (sofS_alloc t)
theorem sofO_val {o : Oper} (h : sofO o) {P : Program} {ρ : Operand → Value} {w w' : World} {x : Next} (hr : (execOp ρ o).run P w = .ok x w') : Ext w w' ∧ ∃ v, x = .value v := by
  refine ⟨sof_run (sofS_exec h ρ) hr, ?_⟩
  unfold sofO at h
  have key : ∀ {s : Sem Value}, ((do pure (Next.value (← s))) : Sem Next).run P w = .ok x w' → ∃ v, x = .value v := by
    intro s hs
    have : ∀ (s : Sem Value) (w : World), (s.bind fun v => Sem.pure (Next.value v)).run P w = .ok x w' → ∃ v, x = .value v := by
      intro s
      induction s with
      | pure a => intro w h; simp only [Sem.bind, Sem.run, Result.ok.injEq] at h; exact ⟨_, h.1.symm⟩
      | load m a k ih =>
        intro w h
        simp only [Sem.bind, Sem.run] at h
        split at h
        · exact ih _ _ h
        · split at h
          · exact ih _ _ h
          · cases h
      | store m a v k ih =>
        intro w h
        cases v <;> simp only [Sem.bind, Sem.run] at h <;> first
          | cases h; done
          | (split at h
             · split at h
               · cases h
               · exact ih _ h
             · split at h
               · exact ih _ h
               · cases h)
      | new _ _ ih => intro w h; simp only [Sem.bind, Sem.run] at h; exact ih _ _ h
      | shape _ _ ih => intro w h; simp only [Sem.bind, Sem.run] at h; exact ih _ _ h
      | freeze _ _ _ ih => intro w h; simp only [Sem.bind, Sem.run] at h; exact ih _ h
      | frozen _ _ ih => intro w h; simp only [Sem.bind, Sem.run] at h; exact ih _ _ h
      | getObj _ _ ih => intro w h; simp only [Sem.bind, Sem.run] at h; split at h <;> first | (cases h; done) | exact ih _ _ h
      | setObj _ _ _ ih => intro w h; simp only [Sem.bind, Sem.run] at h; split at h <;> first | (cases h; done) | exact ih _ h
      | choose _ _ ih => intro w h; simp only [Sem.bind, Sem.run] at h; split at h <;> exact ih _ _ h
      | sys _ _ ih => intro w h; simp only [Sem.bind, Sem.run] at h; exact ih _ _ h
      | program _ ih => intro w h; simp only [Sem.bind, Sem.run] at h; exact ih _ _ h
      | mark _ _ ih => intro w h; simp only [Sem.bind, Sem.run] at h; exact ih _ h
      | halt _ => intro w h; simp only [Sem.bind, Sem.run] at h; cases h
    exact this s w hs
  unfold execOp at hr
  cases ho : o.op <;> rw [ho] at h hr <;> try exact h.elim
  case move y => simp only [pure, Sem.run, Result.ok.injEq] at hr; exact ⟨_, hr.1.symm⟩
  case assign y => simp only [pure, Sem.run, Result.ok.injEq] at hr; exact ⟨_, hr.1.symm⟩
  all_goals exact key hr
section
variable {P : Program} {E : Ent} {n : Nat} {G : Nat → Prop} {ρ : List Value} {t : T} {h : H} {a : Act} {w : World} {o : Oper} {K KP : V → T → H → Prop}
def YP (P : Program) (G : Nat → Prop) (w : World) (ρ : List Value) (a : Act) (o : Oper) (K : V → T → H → Prop) (t : T) (h : H) : Prop :=
 ∃ v' v, (∀ w2, (execOp a.eval o).run P w2 = .ok (.value v') w2) ∧ Rep2 G w ρ v' v ∧ K v t h
def YL (P : Program) (G : Nat → Prop) (w : World) (ρ : List Value) (a : Act) (o : Oper) (K : V → T → H → Prop) (t : T) (h : H) : Prop :=
 ∃ v' v, (∀ w2, Ext w w2 → (execOp a.eval o).run P w2 = .ok (.value v') w2) ∧ Rep2 G w ρ v' v ∧ K v t h
theorem yp_quiet {v' : Value} {v : V} (hr : ∀ w2, (execOp a.eval o).run P w2 = .ok (.value v') w2) (hv : Rep2 G w ρ v' v) (hk : K v t h) : YP P G w ρ a o K t h := ⟨v', v, hr, hv, hk⟩
theorem Ext.cell {w w2 : World} (he : Ext w w2) {ad : Addr} {v : Value} (hc : w.cell? ad = some v) : w2.cell? ad = some v := by
 unfold World.cell? at *
 have hlt : ad.block < w.heap.size := by
  rcases Nat.lt_or_ge ad.block w.heap.size with h | h
  ·exact h
  ·rw [Array.getElem?_eq_none h] at hc; simp at hc
 rw [he.2 _ hlt]
 exact hc
theorem yl_one {ty : TypeId} {x : Operand} {ad : Addr} {v' : Value} {v : V} (ho : o.op = .load ty x) (hp : a.eval x = .pointer (some ad)) (hl : ldn P ty = some none)
  (hc : w.cell? ad = some v') (hv : RepC G w ρ v' v) (hk : K v t h) : YL P G w ρ a o K t h := by
 refine ⟨v', v, fun w2 he => ?_, .c hv, hk⟩
 simp [execOp, ho, hp, Instr.loadAt, Instr.sureAddr, ldn_none hl, he.cell hc]
theorem yl_agg {ty : TypeId} {x : Operand} {b off k : Nat} {U : Nat → Value} {vs : List V} (ho : o.op = .load ty x) (hp : a.eval x = .pointer (some ⟨b, off, none⟩)) (hl : ldn P ty = some (some k))
  (hlen : vs.length = k) (hU : ∀ (j : Nat) (y : V), vs[j]? = some y → w.cell? ⟨b, off + j, none⟩ = some (U j) ∧ RepC G w ρ (U j) y) (hk : K (.ag vs) t h) : YL P G w ρ a o K t h := by
 refine ⟨.agg ((List.range vs.length).map U).toArray, .ag vs, fun w2 he => ?_, (.o (.ag _ vs (by simp) (fun i y hi => ?_))), hk⟩
 ·have hrun : (loadVar ty ⟨b, off, none⟩).run P w2 = .ok (.agg ((List.range vs.length).map U).toArray) w2 := by
   refine ldn_some hl _ _ (by simpa using hlen) (fun j v hv => ?_)
   rw [add_off]
   simp only [List.getElem?_map, Option.map_eq_some_iff] at hv
   obtain ⟨j', hj', rfl⟩ := hv
   have hjl : j < vs.length := by
    have := (List.getElem?_eq_some_iff.1 hj').1
    simpa using this
   rw [List.getElem?_range hjl] at hj'
   cases hj'
   exact he.cell (hU j _ (List.getElem?_eq_getElem hjl)).1
  simp [execOp, ho, hp, Instr.loadAt, Instr.sureAddr, hrun]
 ·have hil : i < vs.length := (List.getElem?_eq_some_iff.1 hi).1
  simpa [Array.getD_eq_getD_getElem?, hil] using (hU i y hi).2
theorem y_mv (hC : Conc E n G ρ t h a w) {x : Operand} {ox : O} {ty : TypeId} (ho : o.op = .move x ∨ o.op = .assign x) (hx : opd P ty x = some ox) (hk : K (gv t ox) t h) : YP P G w ρ a o K t h := by
 refine yp_quiet (v' := a.eval x) (fun w => ?_) (opd_ok hC hx) hk
 rcases ho with ho | ho <;> simp [execOp, ho]
section
variable (S : Nat → List V → H → (Out → H → Prop) → Prop) (ow : Nat → Bool)
theorem y_ld (hC : Conc E n G ρ t h a w) {ty t1 : TypeId} {x : Operand} {ox : O} {m : Option Nat} (ho : o.op = .load ty x) (hx : opd P t1 x = some ox) (hl : ldn P ty = some m)
  (hk : opx S ow (.ld ox m) t h K KP) : YL P G w ρ a o K t h := by
 have hv := opd_ok hC hx
 simp only [opx] at hk
 split at hk
 ·skip
  rename_i id off hg
  rw [hg] at hv
  obtain ⟨b, hp, hρ⟩ := hv.pt
  rw [get?_eq] at hk
  split at hk
  ·rename_i cs hcs
   obtain ⟨b', arr, ty', hb, h1, h2, h3⟩ := hC.ok.hr.rep id _ _ hρ hcs
   simp only [Value.pointer.injEq, Option.some.injEq, Addr.mk.injEq, and_true] at hb
   obtain ⟨rfl, _⟩ := hb
   cases m with
   | none =>
    simp only [get?_eq] at hk
    split at hk
    ·rename_i v hvv
     have hol : off < arr.size := by rw [h2]; exact (List.getElem?_eq_some_iff.1 hvv).1
     refine yl_one ho hp hl (v' := arr[off]) (by rw [cell_arr h1]; exact Array.getElem?_eq_getElem hol) ?_ hk
     have := h3 off v hvv
     simpa [Array.getD_eq_getD_getElem?, hol] using this
    ·exact hk.elim
   | some k =>
    simp only [fl_eq] at hk
    have hlen := nbq hk.1
    refine yl_agg ho hp hl (U := fun j => arr.getD (off + j) undef) hlen (fun j y hy => ?_) hk.2
    have hj : j < k := by rw [← hlen]; exact (List.getElem?_eq_some_iff.1 hy).1
    rw [List.getElem?_take, if_pos hj, List.getElem?_drop] at hy
    have hol : off + j < arr.size := by rw [h2]; exact (List.getElem?_eq_some_iff.1 hy).1
    refine ⟨?_, h3 (off + j) y hy⟩
    rw [cell_arr h1, Array.getD_eq_getD_getElem?, Array.getElem?_eq_getElem hol]; rfl
  ·exact hk.elim
 ·skip
  rename_i row off hg
  rw [hg] at hv
  obtain ⟨b, oo, U, hp, hGb, hU, hD⟩ := hv.el
  cases m with
  | none =>
   simp only [get?_eq] at hk
   split at hk
   ·rename_i v hvv
    exact yl_one ho hp hl (hU off v hvv) (.k (.d (hD off v hvv))) hk
   ·exact hk.elim
  | some k =>
   simp only [fl_eq] at hk
   have hlen := nbq hk.1
   refine yl_agg ho hp hl (U := fun j => U (off + j)) hlen (fun j y hy => ?_) hk.2
   have hj : j < k := by rw [← hlen]; exact (List.getElem?_eq_some_iff.1 hy).1
   rw [List.getElem?_map, List.getElem?_take, if_pos hj, List.getElem?_drop] at hy
   cases hr : row[off + j]? with
   | none => rw [hr] at hy; cases hy
   | some y0 =>
    rw [hr] at hy; cases hy
    exact ⟨by rw [Nat.add_assoc]; exact hU _ _ hr, .k (.d (hD _ _ hr))⟩
 ·skip
  rename_i id z i off hg
  rw [hg] at hv
  obtain ⟨b, nn, c, hp, hρ⟩ := hv.ql
  rw [get?_eq] at hk
  split at hk
  ·rename_i z' rs hrs
   obtain ⟨hz, row, hrow, hk⟩ := hk
   obtain rfl := nbq hz
   obtain ⟨b', cap, arr, ty', hb, h1, h2, hle, h3⟩ := rows_cell (hC.ok.hr.rep id _ _ hρ hrs) hrow
   simp only [Value.slice.injEq, Option.some.injEq, Addr.mk.injEq, and_true] at hb
   obtain ⟨rfl, _, _⟩ := hb
   cases m with
   | none =>
    simp only [get?_eq] at hk
    split at hk
    ·rename_i v hvv
     exact yl_one ho hp hl (h3 off v hvv).1 (.k (.d (h3 off v hvv).2)) hk
    ·exact hk.elim
   | some k =>
    simp only [fl_eq] at hk
    have hlen := nbq hk.1
    refine yl_agg ho hp hl (U := fun j => arr.getD (i * z + (off + j)) undef) hlen (fun j y hy => ?_) hk.2
    have hj : j < k := by rw [← hlen]; exact (List.getElem?_eq_some_iff.1 hy).1
    rw [List.getElem?_map, List.getElem?_take, if_pos hj, List.getElem?_drop] at hy
    cases hr : row[off + j]? with
    | none => rw [hr] at hy; cases hy
    | some y0 =>
     rw [hr] at hy; cases hy
     exact ⟨by rw [Nat.add_assoc]; exact (h3 _ _ hr).1, .k (.d (h3 _ _ hr).2)⟩
  ·rename_i z' rs i' row hrs
   obtain ⟨⟨hz, rfl⟩, hk⟩ := hk
   obtain rfl := nbq hz
   obtain ⟨b', cap, arr, ty', hb, h1, h2, h3, h4, ⟨h0, hrz⟩, h5, h6⟩ := hC.ok.hr.rep id _ _ hρ hrs
   simp only [Value.slice.injEq, Option.some.injEq, Addr.mk.injEq, and_true] at hb
   obtain ⟨rfl, _, _⟩ := hb
   cases m with
   | none =>
    simp only [get?_eq] at hk
    split at hk
    ·rename_i v hvv
     have hol : off < row.length := (List.getElem?_eq_some_iff.1 hvv).1
     have hle : i * z + z ≤ arr.size := by
      rw [h4]
      have : (i + 1) * z ≤ cap * z := Nat.mul_le_mul_right _ (by omega)
      rw [Nat.add_mul] at this
      omega
     refine yl_one ho hp hl (v' := arr.getD (i * z + off) undef) ?_ (h6 off v hvv) hk
     rw [cell_arr h1, Array.getD_eq_getD_getElem?, Array.getElem?_eq_getElem (by omega)]
     rfl
    ·exact hk.elim
   | some k => exact hk.elim
  ·exact hk.elim
 ·exact hk.elim
theorem y_fa (hC : Conc E n G ρ t h a w) {ty t1 : TypeId} {x : Operand} {f : Nat} {fs : Array Field} {fd : Field} {ox : O} (ho : o.op = .fieldAddr ty x f) (hu : P.underlying ty = some (.struct fs)) (hf : fs[f]? = some fd)
  (hz : P.cellsOf fd.type ≠ 0) (hx : opd P t1 x = some ox) (hk : opx S ow (.fa ox fd.offset) t h K KP) : YP P G w ρ a o K t h := by
 have hv := opd_ok hC hx
 have hrun : ∀ ad : Addr, a.eval x = .pointer (some ad) → ∀ w : World, (execOp a.eval o).run P w = .ok (.value (.pointer (some (ad.add fd.offset)))) w := by
  intro ad had w
  unfold Program.cellsOf at hz
  cases hi : P.info? fd.type with
  | none => rw [hi] at hz; simp at hz
  | some i =>
   rw [hi] at hz
   simp at hz
   simp [execOp, ho, had, Instr.fieldAt, run_underlying hu, hf, Instr.sureAddr, fieldPlace, sizeOf, typeInfo, hi, hz]
 simp only [opx] at hk
 split at hk
 ·rename_i id off hg
  rw [hg] at hv
  obtain ⟨b, hp, hρ⟩ := hv.pt
  rw [fnat_eq] at hk
  refine yp_quiet (hrun _ hp) ?_ hk
  rw [add_off]
  exact .k (.p id _ b hρ)
 ·rename_i row off hg
  rw [hg] at hv
  obtain ⟨b, oo, U, hp, hGb, hU, hD⟩ := hv.el
  rw [fnat_eq] at hk
  refine yp_quiet (hrun _ hp) ?_ hk
  rw [add_off, Nat.add_assoc]
  exact .k (.e b oo _ row U hGb hU hD)
 ·rename_i id z i off hg
  rw [hg] at hv
  obtain ⟨b, nn, c, hp, hρ⟩ := hv.ql
  rw [fnat_eq] at hk
  refine yp_quiet (hrun _ hp) ?_ hk
  rw [add_off, Nat.add_assoc]
  exact .k (.q id z i _ b nn c hρ)
 ·exact hk.elim
theorem y_ex (hC : Conc E n G ρ t h a w) {t1 : TypeId} {x : Operand} {i : Nat} {ox : O} (ho : o.op = .extract x i) (hx : opd P t1 x = some ox) (hk : opx S ow (.ex ox i) t h K KP) : YP P G w ρ a o K t h := by
 have hvx := opd_ok hC hx
 simp only [opx] at hk
 split at hk
 ·rename_i vs hg
  rw [hg] at hvx
  obtain ⟨cs, hv, hs, hr⟩ := hvx.tul
  rw [get?_eq] at hk
  split at hk
  ·rename_i v hi
   have hil : i < cs.size := by rw [hs]; exact (List.getElem?_eq_some_iff.1 hi).1
   refine yp_quiet (v' := cs.getD i undef) (fun w => ?_) (.o (hr i v hi)) hk
   simp [execOp, ho, Instr.extract, hv, hil]
  ·exact hk.elim
 ·exact hk.elim
theorem y_nc (hC : Conc E n G ρ t h a w) {t1 : TypeId} {x : Operand} {ox : O} (ho : o.op = .nilCheck x) (hx : opd P t1 x = some ox) (hk : opx S ow (.nc ox) t h K KP) : YP P G w ρ a o K t h := by
 have hvx := opd_ok hC hx
 simp only [opx] at hk
 split at hk
 ·rename_i i oo hg
  rw [hg] at hvx
  obtain ⟨b, hv, _⟩ := hvx.pt
  exact yp_quiet (v' := a.eval x) (fun w => by simp [execOp, ho, hv]) hvx hk
 ·rename_i r oo hg
  rw [hg] at hvx
  obtain ⟨b, _, _, hv, _⟩ := hvx.el
  exact yp_quiet (v' := a.eval x) (fun w => by simp [execOp, ho, hv]) hvx hk
 ·rename_i i z j oo hg
  rw [hg] at hvx
  obtain ⟨b, _, _, hv, _⟩ := hvx.ql
  exact yp_quiet (v' := a.eval x) (fun w => by simp [execOp, ho, hv]) hvx hk
 ·rename_i f c hg
  rw [hg] at hvx
  obtain ⟨cs, hv, _⟩ := hvx.fcl
  cases hb : Nat.blt f 2000000 <;> rw [hb] at hk
  ·exact hk.elim
  have hlt : f < 2000000 := by simpa [Nat.blt_eq] using hb
  have hv' : ∃ g y1 y2, a.eval x = .func (.func g) y1 y2 := by
   by_cases h1 : f < 1000000
   ·exact ⟨_, _, _, fcv_fn hv h1⟩
   ·exact ⟨_, _, _, fcv_bm hv h1 hlt⟩
  obtain ⟨g, y1, y2, hv'⟩ := hv'
  exact yp_quiet (v' := a.eval x) (fun w => by simp [execOp, ho, hv']) hvx hk
 ·rename_i f hg
  rw [hg] at hvx
  have hv : a.eval x = .func (.func f) #[] #[] := fn_val hvx.toD
  exact yp_quiet (v' := a.eval x) (fun w => by simp [execOp, ho, hv]) hvx hk
 ·rename_i row off hg
  rw [hg] at hvx
  have hv := hvx.toD
  generalize hav : a.eval x = av at hv
  cases hv with
  | pt b o _ _ U h1 h2 h3 => exact yp_quiet (v' := a.eval x) (fun w => by simp [execOp, ho, hav]) (by rw [hav]; exact .k (.e b o off row U h1 h2 h3)) hk
 ·exact hk.elim
end
theorem comp_soft {P : Program} {ty : TypeId} {op : Op} {x : X} (hx : compO P ty op = some x) (hs : softX x = true ∨ pureX x = true ∨ ldX x = true) : (∃ y, op = .move y) ∨ (∃ y, op = .assign y) ∨ (∃ y i, op = .extract y i) ∨ (∃ t y, op = .load t y) ∨ (∃ t, op = .alloc t) ∨ (∃ y, op = .nilCheck y) ∨ ∃ t y f, op = .fieldAddr t y f := by
 cases op
 case move y => exact .inl ⟨_, rfl⟩
 case assign y => exact .inr (.inl ⟨_, rfl⟩)
 case extract y i => exact .inr (.inr (.inl ⟨_, _, rfl⟩))
 case load t y => exact .inr (.inr (.inr (.inl ⟨_, _, rfl⟩)))
 case alloc t => exact .inr (.inr (.inr (.inr (.inl ⟨_, rfl⟩))))
 case nilCheck y => exact .inr (.inr (.inr (.inr (.inr (.inl ⟨_, rfl⟩)))))
 case fieldAddr t y f => exact .inr (.inr (.inr (.inr (.inr (.inr ⟨_, _, _, rfl⟩)))))
 all_goals
  exfalso
  simp only [compO, Option.bind_eq_bind] at hx
  repeat' (first
   | contradiction
   | (cases hx; done)
   | (obtain ⟨_, hx⟩ := hx)
   | (split at hx)
   | (simp only [Option.map_eq_some_iff, Option.bind_eq_some_iff, Option.some.injEq, reduceCtorEq] at hx)
   | (rcases hs with hs | hs | hs <;> cases hs; done))
end
section
variable {P : Program} {ops : Array Oper} {Q : Exit → Act → World → Prop} {S : World → Prop} {md : Region.Mode}
theorem wpOp_soft {j : Nat} {oi oj : Oper} {v : Value} (hj : ops[j]? = some oj) (hap : oi.apart ops oj = true)
  (hsi : ∀ cs b, oi.op ≠ .select cs b) (hsj : ∀ cs b, oj.op ≠ .select cs b) (hQ : ∀ c a w, ¬ Q (.panic c) a w)
  (hS : (∀ w, S w) ∨ (sofO oj ∧ ∀ w w', S w → Ext w w' → S w')) {K : Act → World → Prop} {a : Act} {w : World}
  (hw : S w) (hy : YieldsIf P ops S oi v a) (h : wpOp P ops Q j K (a.put oi.dst v) w) :
  wpOp P ops Q j (fun a' w' => S w' ∧ YieldsIf P ops S oi v a' ∧ K (a'.put oi.dst v) w') a w := by
 rcases hS with hS | ⟨hso, hS⟩
 ·exact wpOp_mono (fun a' w' h => ⟨hS w', h⟩) (wpOp_putIf hj hap hsi hsj (fun c a w h => (hQ c _ w h).elim) hy h)
 ·have h' := wpOp_putIf hj hap hsi hsj (fun c a w h => (hQ c _ w h).elim) hy h
  unfold wpOp at h' ⊢
  simp only [hj] at h' ⊢
  split
  ·rename_i hwn
   rw [if_pos hwn] at h'
   rcases h' with h' | h'
   ·refine .inl ?_
    unfold Oper.wp at h' ⊢
    cases hr : (execOp a.eval oj).run P w with
    | ok x w' =>
     rw [hr] at h'
     obtain ⟨he, v', rfl⟩ := sofO_val hso hr
     exact ⟨hS w w' hw he, h'⟩
    | halt x w' =>
     rw [hr] at h'
     cases x <;> exact h'
   ·exact .inr h'
  ·rename_i hwn
   rw [if_neg hwn] at h'
   exact ⟨hw, h'⟩
theorem soft_first {n m : Nat} {is : List I} {bs : List (List Nat)} (D : Dry P n ops is bs m) {i : Nat} {oi : Oper} {v : Value} (hi : ops[i]? = some oi) (hsel : ∀ (j : Nat) (o : Oper) cs b, ops[j]? = some o → o.op ≠ .select cs b)
  (hQ : ∀ c a w, ¬ Q (.panic c) a w) :
  ∀ (fuel : Nat) (listed : Array Bool) (a : Act) (w : World), listed.size = ops.size →
   (∀ (j : Nat) (b : List Nat), listed.getD j false = true → bs[j]? = some b → ∀ k ∈ b, listed.getD k false = true) →
   (∀ j oj, ops[j]? = some oj → j ≠ i → listed.getD j true = false → (∀ b, bs[j]? = some b → i ∉ b) → oi.apart ops oj = true ∧ ((∀ w, S w) ∨ (sofO oj ∧ ∀ w w', S w → Ext w w' → S w'))) →
   i ∈ Region.ready .any ops listed → YieldsIf P ops S oi v a → S w →
   wpAny P .any ops Q fuel (listed.setIfInBounds i true) (a.put oi.dst v) w → wpAny P .any ops Q (fuel + 1) listed a w := by
 intro fuel
 induction fuel with
 | zero =>
  intro listed a w _ _ _ hr hy hS H
  refine ⟨fun h => (by rw [h] at hr; cases hr), fun j hj => ?_⟩
  by_cases hji : j = i
  ·subst hji; exact hy.wpOp hi hS H
  ·have := ready_mono hj hji
   rw [H.1] at this
   cases this
 | succ fuel ih =>
  intro listed a w hsz hcl hfree hr hy hS H
  refine ⟨fun h => (by rw [h] at hr; cases hr), fun j hj => ?_⟩
  by_cases hji : j = i
  ·subst hji; exact hy.wpOp hi hS H
  ·have h1 := H.2 j (ready_mono hj hji)
   obtain ⟨hjun, oj, hoj, hall⟩ := mem_ready.1 hj
   have hnl : ¬ listed.getD i false = true := by
    have h0 := (mem_ready.1 hr).1
    have hil : i < listed.size := by rw [hsz]; exact (Array.getElem?_eq_some_iff.1 hi).1
    simp [hil] at h0 ⊢
    exact h0
   obtain ⟨b, hb, hb1, hb2⟩ := D.cl j oj hoj
   have hready : ∀ k ∈ b, listed.getD k false = true := fun k hk => by
    rcases hb2 k hk with h1 | ⟨k', h1, b', h2, h3⟩
    ·obtain ⟨e, e1, e2, rfl⟩ := deps_mem.1 h1
     exact hall e e1 e2
    ·obtain ⟨e, e1, e2, rfl⟩ := deps_mem.1 h1
     exact hcl _ b' (hall e e1 e2) h2 k h3
   have hib : ∀ b', bs[j]? = some b' → i ∉ b' := fun b' hb' hm => by
    rw [hb] at hb'; cases hb'
    exact hnl (hready i hm)
   obtain ⟨f1, f2⟩ := hfree j oj hoj hji hjun hib
   have hst := wpOp_soft hoj f1 (fun cs b => hsel i oi cs b hi) (fun cs b => hsel j oj cs b hoj) hQ f2 hS hy h1
   have hjl : j < listed.size := by rw [hsz]; exact (Array.getElem?_eq_some_iff.1 hoj).1
   have hset : ∀ k, (listed.setIfInBounds j true).getD k false = true ↔ k = j ∨ listed.getD k false = true := fun k => by
    by_cases hkj : k = j
    ·subst hkj; simp [hjl]
    ·rw [getD_set_ne false (Ne.symm hkj)]; simp [hkj]
   have hcl' : ∀ (j' : Nat) (b : List Nat), (listed.setIfInBounds j true).getD j' false = true → bs[j']? = some b → ∀ k ∈ b, (listed.setIfInBounds j true).getD k false = true := by
    intro j' b' g1 g2 k hk
    rw [hset] at g1 ⊢
    rcases g1 with g1 | g1
    ·rw [g1, hb] at g2; cases g2; exact .inr (hready k hk)
    ·exact .inr (hcl j' b' g1 g2 k hk)
   have hfree' : ∀ k ok, ops[k]? = some ok → k ≠ i → (listed.setIfInBounds j true).getD k true = false → (∀ b, bs[k]? = some b → i ∉ b) →
     oi.apart ops ok = true ∧ ((∀ w, S w) ∨ (sofO ok ∧ ∀ w w', S w → Ext w w' → S w')) := fun k ok hk hki hun hno => by
    refine hfree k ok hk hki ?_ hno
    by_cases hjk : j = k
    ·subst hjk; exact hjun
    ·rw [getD_set_ne true hjk] at hun; exact hun
   refine wpOp_mono (fun a' w' h3 => ih (listed.setIfInBounds j true) a' w' (by simpa using hsz) hcl' hfree' (ready_mono hr (Ne.symm hji)) h3.2.1 h3.1 ?_) hst
   rw [Array.setIfInBounds_comm _ _ hji]
   exact h3.2.2
end
section
variable {P : Program} {E : Ent} {n : Nat} {K : Ex → T → H → Prop} {ops : Array Oper} {is : List I} {bs : List (List Nat)} {m : Nat} (ow : Nat → Bool)
theorem pure_ld {x : X} (h : pureX x = true) (g : ldX x = true) : False := by cases x <;> first | (cases g; done) | (cases h; done)
theorem y_first {G : Nat → Prop} {ρ : List Value} {t : T} {h : H} {a : Act} {w : World} {o : Oper} {KK KP : V → T → H → Prop} (hC : Conc E n G ρ t h a w) {x : X} (hx : compO P o.type o.op = some x ∨ x = .bad) (hp : pureX x = true ∨ ldX x = true) (hk : opx (Sat P) ow x t h KK KP) :
  (pureX x = true ∧ YP P G w ρ a o KK t h) ∨ (ldX x = true ∧ YL P G w ρ a o KK t h) := by
 rcases hx with hx | rfl
 case inr => exact hk.elim
 rcases comp_soft hx (.inr hp) with ⟨y, ho⟩ | ⟨y, ho⟩ | ⟨y, i, ho⟩ | ⟨ty, y, ho⟩ | ⟨ty, ho⟩ | ⟨y, ho⟩ | ⟨ty, y, f, ho⟩ <;> rw [ho] at hx <;> simp only [compO] at hx
 ·split at hx
  ·cases hx; rcases hp with hp | hp <;> cases hp
  ·simp only [Option.map_eq_some_iff] at hx
   obtain ⟨oy, hy, rfl⟩ := hx
   exact .inl ⟨rfl, y_mv hC (.inl ho) hy hk⟩
 ·split at hx
  ·cases hx; rcases hp with hp | hp <;> cases hp
  ·simp only [Option.map_eq_some_iff] at hx
   obtain ⟨oy, hy, rfl⟩ := hx
   exact .inl ⟨rfl, y_mv hC (.inr ho) hy hk⟩
 ·simp only [Option.bind_eq_bind, Option.bind_eq_some_iff, Option.some.injEq] at hx
  obtain ⟨oy, hy, rfl⟩ := hx
  exact .inl ⟨rfl, y_ex (Sat P) ow hC ho hy hk⟩
 ·have ld : (do some (X.ld (← opd P ty y) (← ldn P ty))) = some x → ldX x = true ∧ YL P G w ρ a o KK t h := fun hx => by
   simp only [Option.bind_eq_bind, Option.bind_eq_some_iff, Option.some.injEq] at hx
   obtain ⟨oy, hy, m, hm, rfl⟩ := hx
   exact ⟨rfl, y_ld (Sat P) ow hC ho hy hm hk⟩
  split at hx
  ·split at hx
   ·split at hx
    ·simp only [Option.bind_eq_bind, Option.bind_eq_some_iff] at hx
     obtain ⟨k, hl, oy, hy, hx⟩ := hx
     split at hx
     ·cases hx; rcases hp with hp | hp <;> cases hp
     ·cases hx
    ·cases hx
   ·exact .inr (ld hx)
  ·exact .inr (ld hx)
 ·have al : (zer P ty).map X.al = some x → False := fun hx => by
   simp only [Option.map_eq_some_iff] at hx
   obtain ⟨zs, hz, rfl⟩ := hx
   rcases hp with hp | hp <;> cases hp
  exfalso
  split at hx
  ·split at hx
   ·simp only [Option.bind_eq_bind, Option.bind_eq_some_iff] at hx
    obtain ⟨zs, hz, hx⟩ := hx
    split at hx
    ·split at hx
     ·cases hx; rcases hp with hp | hp <;> cases hp
     ·cases hx
    ·cases hx
   ·exact al hx
  ·exact al hx
 ·simp only [Option.map_eq_some_iff] at hx
  obtain ⟨oy, hy, rfl⟩ := hx
  exact .inl ⟨rfl, y_nc (Sat P) ow hC ho hy hk⟩
 ·split at hx
  ·rename_i fs hu
   simp only [Option.bind_eq_bind, Option.bind_eq_some_iff] at hx
   obtain ⟨fd, hf, hx⟩ := hx
   split at hx
   ·cases hx
   ·rename_i hz
    simp only [Option.bind_eq_some_iff, Option.some.injEq] at hx
    obtain ⟨oy, hy, rfl⟩ := hx
    exact .inl ⟨rfl, y_fa (Sat P) ow hC ho hu hf hz hy hk⟩
  ·cases hx
theorem sof_of {o : Oper} {x : X} (hx : compO P o.type o.op = some x ∨ x = .bad) (hs : softX x = true) : sofO o := by
 rcases hx with hx | rfl
 case inr => cases hs
 rcases comp_soft hx (.inl hs) with ⟨y, ho⟩ | ⟨y, ho⟩ | ⟨y, i, ho⟩ | ⟨ty, y, ho⟩ | ⟨ty, ho⟩ | ⟨y, ho⟩ | ⟨ty, y, f, ho⟩ <;> unfold sofO <;> rw [ho] at hx ⊢ <;> try trivial
 ·simp only [compO, Option.map_eq_some_iff] at hx
  obtain ⟨oy, hy, rfl⟩ := hx
  cases hs
 ·exfalso
  simp only [compO] at hx
  split at hx
  ·simp only [Option.bind_eq_bind, Option.bind_eq_some_iff] at hx
   obtain ⟨fd, hf, hx⟩ := hx
   split at hx
   ·cases hx
   ·simp only [Option.bind_eq_some_iff, Option.some.injEq] at hx
    obtain ⟨oy, hy, rfl⟩ := hx
    cases hs
  ·cases hx
theorem apart_symm {x y : Oper} (h : x.apart ops y = true) : y.apart ops x = true := by
 unfold Oper.apart at *
 cases hx : x.dst <;> cases hy : y.dst <;> simp_all
 exact fun e => h.1.2 e.symm
theorem apA_ok (h : apA ops bs m = true) : (∀ (j : Nat) (o : Oper) cs b, ops[j]? = some o → o.op ≠ .select cs b) ∧ ∀ (i k : Nat) (x y : Oper) (bi bk : List Nat), i < m → k < m → i ≠ k → ops[i]? = some x → ops[k]? = some y → bs[i]? = some bi → bs[k]? = some bk → i ∉ bk → k ∉ bi → x.apart ops y = true := by
 unfold apA at h
 rw [Bool.and_eq_true] at h
 obtain ⟨h1, h2⟩ := h
 refine ⟨fun j o cs b hj he => ?_, ?_⟩
 ·have := List.all_eq_true.1 h1 o (Array.mem_toList_iff.2 (Array.mem_of_getElem? hj))
  unfold noSel at this
  rw [he] at this
  cases this
 ·have key : ∀ (i k : Nat) (x y : Oper) (bk : List Nat), i < k → k < m → ops[i]? = some x → ops[k]? = some y → bs[k]? = some bk → i ∉ bk → x.apart ops y = true := by
   intro i k x y bk hik hk hx hy hb hn
   have h3 := List.all_eq_true.1 (List.all_eq_true.1 h2 k (List.mem_range.2 hk)) i (List.mem_range.2 hik)
   rw [hb, hx, hy, Option.getD_some] at h3
   have : has bk i = false := by
    cases hh : has bk i with
    | false => rfl
    | true => exact absurd (has_iff.1 hh) hn
   rw [this, Bool.false_or] at h3
   exact h3
  intro i k x y bi bk hi hk hne hx hy hbi hbk h3 h4
  rcases Nat.lt_or_gt_of_ne hne with h | h
  ·exact key i k x y bk h hk hx hy hbk h3
  ·exact apart_symm (key k i y x bi h hi hy hx hbi h4)
def AInv2 (E : Ent) (n : Nat) (K : Ex → T → H → Prop) (q : List (I × List Nat)) (s : List I) (is : List I) (bs : List (List Nat)) (m : Nat) (P : Program) (listed : Array Bool) (a : Act) (w : World) : Prop :=
  (∀ (j : Nat) (b : List Nat), listed.getD j false = true → bs[j]? = some b → ∀ k ∈ b, listed.getD k false = true) ∧
  ((∃ (done : List Nat) (k : Nat) (G : Nat → Prop) (ρ : List Value) (t : T) (h : H), done.Nodup ∧ done.length + k = m ∧ (∀ j, listed.getD j false = true ↔ j ∈ done) ∧ (∀ j ∈ done, j < m) ∧ Conc E n G ρ t h a w ∧ amx (Sat P) ow q s k done t h K) ∨
   ∃ (k : Nat) (G : Nat → Prop) (ρ : List Value) (t : T) (h : H), m ≤ k ∧ (∀ j, listed.getD j false = true ↔ j < k) ∧ Conc E n G ρ t h a w ∧ rx (Sat P) ow (is.drop k) t h K)
theorem any2_ok (D : Dry P n ops is bs m) (hap : apA ops bs m = true) (hnp : ∀ v t h, ¬ K (.pan v) t h) {q : List (I × List Nat)} (hq : q = (is.zip bs).take m) : ∀ (fuel : Nat) (listed : Array Bool) (a : Act) (w : World), listed.size = ops.size → listed.toList.count false ≤ fuel →
  AInv2 ow E n K q (is.drop m) is bs m P listed a w → wpAny P .any ops (QK E n K) fuel listed a w := by
 have hil := D.il
 have hbl := D.bl
 have hml := D.ml
 obtain ⟨hsel, hap⟩ := apA_ok hap
 have hQ : ∀ c a w, ¬ QK E n K (.panic c) a w := fun c a w ⟨_, _, _, _, _, _, _, _, _, hk⟩ => hnp _ _ _ hk
 have hqg : ∀ (j : Nat) (x : I) (b : List Nat), j < m → is[j]? = some x → bs[j]? = some b → q[j]? = some (x, b) := fun j x b hj hx hb => by
  rw [hq, List.getElem?_take, if_pos hj, List.getElem?_zip_eq_some]
  exact ⟨hx, hb⟩
 have hql : q.length = m := by rw [hq]; simp; omega
 have turn : ∀ (listed : Array Bool) (a : Act) (w : World), AInv2 ow E n K q (is.drop m) is bs m P listed a w → (∀ j, j < m → listed.getD j false = true) →
   ∃ (k : Nat) (G : Nat → Prop) (ρ : List Value) (t : T) (h : H), m ≤ k ∧ (∀ j, listed.getD j false = true ↔ j < k) ∧ Conc E n G ρ t h a w ∧ rx (Sat P) ow (is.drop k) t h K := by
  intro listed a w ⟨_, h3⟩ hall
  rcases h3 with ⟨done, k, G, ρ, t, h, d1, d2, d3, d4, hC, hk⟩ | h3
  ·have hk0 : k = 0 := by
    have h1 : (List.range m).length ≤ done.length := nd_le List.nodup_range fun j hj => (d3 j).1 (hall j (List.mem_range.1 hj))
    rw [List.length_range] at h1
    omega
   subst hk0
   exact ⟨m, G, ρ, t, h, Nat.le_refl _, fun j => ⟨fun hj => d4 j ((d3 j).1 hj), hall j⟩, hC, hk⟩
  ·exact h3
 have fin : ∀ (listed : Array Bool) (a : Act) (w : World), listed.size = ops.size → AInv2 ow E n K q (is.drop m) is bs m P listed a w → Region.ready .any ops listed = [] → QK E n K .normal a w := by
  intro listed a w hs hI hr
  have hall := dry_done D hr hs
  obtain ⟨k, G, ρ, t', h', k1, k3, hC, hk⟩ := turn listed a w hI (fun j hj => hall j (by omega))
  have hkk : ops.size ≤ k := by
   rcases Nat.lt_or_ge k ops.size with h | h
   ·have := (k3 k).1 (hall k h); omega
   ·exact h
  rw [List.drop_eq_nil_of_le (by omega)] at hk
  exact ⟨G, ρ, t', h', hC, hk⟩
 intro fuel
 induction fuel with
 | zero =>
  intro listed a w hs hc hI
  have hall : ∀ j, j < ops.size → listed.getD j false = true := fun j hj => by
   have hj' : j < listed.size := by omega
   have h0 : listed.toList.count false = 0 := by omega
   rw [List.count_eq_zero] at h0
   cases hv : listed[j] with
   | true => simp [hj', hv]
   | false => exact absurd (by rw [Array.mem_toList_iff, ← hv]; exact Array.getElem_mem hj') h0
  have hr : Region.ready .any ops listed = [] := by
   rw [List.eq_nil_iff_forall_not_mem]
   intro j hj
   obtain ⟨h1, o, h2, _⟩ := mem_ready.1 hj
   have h3 := hall j (Array.getElem?_eq_some_iff.1 h2).1
   have hj' := getD_lt h3
   simp [hj'] at h1 h3
   rw [h3] at h1
   cases h1
  exact ⟨hr, fin listed a w hs hI hr⟩
 | succ fuel ih =>
  intro listed a w hs hc hI
  have mem_redy : ∀ {done : List Nat} {j : Nat}, j ∈ redy q done → j < m ∧ j ∉ done ∧ ∃ (x : I) (b : List Nat), is[j]? = some x ∧ bs[j]? = some b ∧ q[j]? = some (x, b) ∧ ∀ k ∈ b, k ∈ done := by
   intro done j hj
   unfold redy at hj
   rw [List.mem_filter, List.mem_range] at hj
   obtain ⟨h1, h2⟩ := hj
   rw [hql] at h1
   have hx := List.getElem?_eq_getElem (show j < is.length by omega)
   have hb := List.getElem?_eq_getElem (show j < bs.length by omega)
   have hqj := hqg j _ _ h1 hx hb
   rw [get?_eq, hqj] at h2
   simp only [Bool.and_eq_true, Bool.not_eq_true', List.all_eq_true] at h2
   refine ⟨h1, fun hd => ?_, _, _, hx, hb, hqj, fun k hk => has_iff.1 (h2.2 k hk)⟩
   rw [has_iff.2 hd] at h2
   cases h2.1
  by_cases hfi : ∃ (done : List Nat) (k : Nat) (G : Nat → Prop) (ρ : List Value) (t : T) (h : H) (j : Nat), done.Nodup ∧ done.length + (k + 1) = m ∧ (∀ j, listed.getD j false = true ↔ j ∈ done) ∧ (∀ j ∈ done, j < m) ∧ Conc E n G ρ t h a w ∧ firstJ q done = some j ∧
    amx (Sat P) ow q (is.drop m) (k + 1) done t h K
  ·obtain ⟨done, k, G, ρ, t, h, j, d1, d2, d3, d4, hC, hfj, hk⟩ := hfi
   have hjr := List.mem_of_find?_eq_some hfj
   have hjf := List.find?_some hfj
   obtain ⟨hjm, hjd, x, b, hx, hb, hqj, hbd⟩ := mem_redy hjr
   obtain ⟨o, ho⟩ : ∃ o, ops[j]? = some o := ⟨_, Array.getElem?_eq_getElem (by omega)⟩
   obtain ⟨x', hx', hci⟩ := D.ci j o ho
   obtain rfl : x' = x := by rw [hx] at hx'; exact (Option.some.inj hx').symm
   obtain ⟨b', hb', hb1, hb2⟩ := D.cl j o ho
   obtain rfl : b' = b := by rw [hb] at hb'; exact (Option.some.inj hb').symm
   rw [amx_succ, hfj] at hk
   simp only [get?_eq, hqj] at hk
   unfold firstOk at hjf
   rw [get?_eq, hqj] at hjf
   simp only [Bool.and_eq_true, Bool.or_eq_true] at hjf
   obtain ⟨hg, hkind⟩ := hjf
   have hg : x'.g = none := by
    cases hgg : x'.g with
    | none => rfl
    | some _ => rw [hgg] at hg; cases hg
   obtain ⟨cx, hd, hlt, hgo⟩ := compI_ok hci
   have hgo : o.guard = none := by
    cases hgg : o.guard with
    | none => rfl
    | some p =>
     rw [hgg] at hgo
     obtain ⟨d, _, e⟩ := hgo
     rw [hg] at e
     cases e
   simp only [rx1, hg] at hk
   have hwn : Region.wanted o (yielded ops a.tmps) = true := by simp [Region.wanted, hgo]
   have hready : ∀ k ∈ b', listed.getD k false = true := fun k hk => (d3 k).2 (hbd k hk)
   have hnl : ¬ listed.getD j false = true := fun hh => hjd ((d3 j).1 hh)
   have hjl : j < listed.size := by omega
   have hrdy : j ∈ Region.ready .any ops listed := by
    rw [mem_ready]
    refine ⟨by simpa [hjl] using hnl, o, ho, fun e he hbd => ?_⟩
    exact hready _ (hb1 _ (deps_mem.2 ⟨e, he, hbd, rfl⟩))
   have hset : ∀ k, (listed.setIfInBounds j true).getD k false = true ↔ k = j ∨ listed.getD k false = true := fun k => by
    by_cases hkj : k = j
    ·subst hkj; simp [hjl]
    ·rw [getD_set_ne false (Ne.symm hkj)]; simp [hkj]
   have hcl : ∀ (j' : Nat) (b : List Nat), (listed.setIfInBounds j true).getD j' false = true → bs[j']? = some b → ∀ k ∈ b, (listed.setIfInBounds j true).getD k false = true := by
    intro j' b' h1 h2 k hk
    rw [hset] at h1 ⊢
    rcases h1 with rfl | h1
    ·rw [hb] at h2; cases h2; exact .inr (hready k hk)
    ·exact .inr (hI.1 j' b' h1 h2 k hk)
   have hcnt : (listed.setIfInBounds j true).toList.count false ≤ fuel := by
    have := count_set (show listed.getD j true = false by simpa [hjl] using hnl)
    omega
   have hsz : (listed.setIfInBounds j true).size = ops.size := by simpa using hs
   have next : ∀ (v' : Value) (v : V), Rep2 G w ρ v' v → (Put x'.d v t fun t => amx (Sat P) ow q (is.drop m) k (j :: done) t h K) → wpAny P .any ops (QK E n K) fuel (listed.setIfInBounds j true) (a.put o.dst v') w := by
    intro v' v hv hput
    rw [Put_putv, hd] at hput
    refine ih _ _ _ hsz hcnt ⟨hcl, .inl ⟨j :: done, k, G, ρ, _, h, List.nodup_cons.2 ⟨hjd, d1⟩, by rw [List.length_cons]; omega, fun x => by rw [hset, List.mem_cons, d3], fun x hx => ?_, hC.putv o.dst hlt hv, hput⟩⟩
    rcases List.mem_cons.1 hx with rfl | hx
    ·exact hjm
    ·exact d4 x hx
   have apart : ∀ k ok, ops[k]? = some ok → k ≠ j → listed.getD k true = false → (∀ b, bs[k]? = some b → j ∉ b) → k < m ∧ o.apart ops ok = true := by
    intro k ok hok hkj hun hno
    have hkl : k < ops.size := (Array.getElem?_eq_some_iff.1 hok).1
    obtain ⟨bk, hbk⟩ : ∃ bk, bs[k]? = some bk := ⟨_, List.getElem?_eq_getElem (by omega)⟩
    have hkm : k < m := by
     rcases Nat.lt_or_ge k m with h | h
     ·exact h
     ·exact absurd (D.fu k bk h hbk j (by omega)) (hno bk hbk)
    refine ⟨hkm, hap j k o ok _ _ hjm hkm (Ne.symm hkj) ho hok hb hbk (hno bk hbk) fun hkb => ?_⟩
    have := hready k hkb
    have hks : k < listed.size := by omega
    simp [hks] at this hun
    rw [this] at hun
    cases hun
   rcases y_first ow hC cx (hkind.imp id fun h => h.1) hk with ⟨hpu, v', v, hrun, hv, hput⟩ | ⟨hld, v', v, hrun, hv, hput⟩
   ·exact soft_first (S := fun _ => True) D ho hsel hQ fuel listed a w hs hI.1 (fun k ok hok hkj hun hno => ⟨(apart k ok hok hkj hun hno).2, .inl fun _ => trivial⟩) hrdy (.inl ⟨hwn, fun w2 _ => hrun w2⟩) trivial (next v' v hv hput)
   ·rcases hkind with hpu | ⟨_, hall⟩
    ·exact (pure_ld hpu hld).elim
    ·refine soft_first (S := Ext w) D ho hsel hQ fuel listed a w hs hI.1 (fun k ok hok hkj hun hno => ?_) hrdy (.inl ⟨hwn, hrun⟩) (Ext.refl w) (next v' v hv hput)
     obtain ⟨hkm, hapk⟩ := apart k ok hok hkj hun hno
     refine ⟨hapk, .inr ⟨?_, fun w1 w2 h1 h2 => h1.trans h2⟩⟩
     obtain ⟨xk, hxk, hcik⟩ := D.ci k ok hok
     obtain ⟨bk, hbk⟩ : ∃ bk, bs[k]? = some bk := ⟨_, List.getElem?_eq_getElem (by omega)⟩
     have hqk := hqg k xk bk hkm hxk hbk
     have h3 := List.all_eq_true.1 hall k (List.mem_range.2 (by omega))
     rw [get?_eq, hqk] at h3
     simp only [Bool.or_eq_true] at h3
     have hks : k < listed.size := by omega
     rcases h3 with h3 | h3 | h3 | h3
     ·have := (d3 k).2 (has_iff.1 h3)
      simp [hks] at this hun
      rw [this] at hun
      cases hun
     ·exact absurd (nbq h3) hkj
     ·exact absurd (has_iff.1 h3) (hno bk hbk)
     ·exact sof_of (compI_ok hcik).1 h3
  ·refine ⟨fin listed a w hs hI, fun j hj => ?_⟩
   obtain ⟨hun, o, ho, hdep⟩ := mem_ready.1 hj
   have hjs : j < ops.size := (Array.getElem?_eq_some_iff.1 ho).1
   have hjl : j < listed.size := by omega
   have hnl : ¬ listed.getD j false = true := by simpa [hjl] using hun
   obtain ⟨b, hb, hb1, hb2⟩ := D.cl j o ho
   obtain ⟨i, hi, hci⟩ := D.ci j o ho
   have hready : ∀ k ∈ b, listed.getD k false = true := fun k hk => by
    rcases hb2 k hk with h1 | ⟨k', h1, b', h2, h3⟩
    ·obtain ⟨e, e1, e2, rfl⟩ := deps_mem.1 h1
     exact hdep e e1 e2
    ·obtain ⟨e, e1, e2, rfl⟩ := deps_mem.1 h1
     exact hI.1 _ b' (hdep e e1 e2) h2 k h3
   have hset : ∀ k, (listed.setIfInBounds j true).getD k false = true ↔ k = j ∨ listed.getD k false = true := fun k => by
    by_cases hkj : k = j
    ·subst hkj; simp [hjl]
    ·rw [getD_set_ne false (Ne.symm hkj)]; simp [hkj]
   have hcl : ∀ (j' : Nat) (b : List Nat), (listed.setIfInBounds j true).getD j' false = true → bs[j']? = some b → ∀ k ∈ b, (listed.setIfInBounds j true).getD k false = true := by
    intro j' b' h1 h2 k hk
    rw [hset] at h1 ⊢
    rcases h1 with rfl | h1
    ·rw [hb] at h2; cases h2; exact .inr (hready k hk)
    ·exact .inr (hI.1 j' b' h1 h2 k hk)
   have hcnt : (listed.setIfInBounds j true).toList.count false ≤ fuel := by have := count_set hun; omega
   have hsz : (listed.setIfInBounds j true).size = ops.size := by simpa using hs
   have go : (if Region.wanted o (yielded ops a.tmps) then o.wp P a w (wpAny P .any ops (QK E n K) fuel (listed.setIfInBounds j true)) (QK E n K) else wpAny P .any ops (QK E n K) fuel (listed.setIfInBounds j true) (a.put o.dst undef) w) →
     wpOp P ops (QK E n K) j (wpAny P .any ops (QK E n K) fuel (listed.setIfInBounds j true)) a w := by
    intro hg
    unfold wpOp
    simp only [ho]
    split
    ·rename_i hw; rw [if_pos hw] at hg; exact .inl hg
    ·rename_i hw; rw [if_neg hw] at hg; exact hg
   refine go ?_
   by_cases hjm : j < m
   ·rcases hI.2 with ⟨done, k, G, ρ, t, h, d1, d2, d3, d4, hC, hk⟩ | ⟨k, G, ρ, t, h, k1, k3, _⟩
    ·have hjd : j ∉ done := fun hd => hnl ((d3 j).2 hd)
     have hk0 : k ≠ 0 := by
      intro e
      have h1 : (j :: done).length ≤ (List.range m).length := nd_le (List.nodup_cons.2 ⟨hjd, d1⟩) fun x hx => by
       rw [List.mem_range]
       rcases List.mem_cons.1 hx with rfl | hx
       ·exact hjm
       ·exact d4 x hx
      rw [List.length_range, List.length_cons] at h1
      omega
     obtain ⟨k, rfl⟩ : ∃ k', k = k' + 1 := ⟨k - 1, by omega⟩
     have hno : firstJ q done = none := by
      cases hf : firstJ q done with
      | none => rfl
      | some j' => exact absurd ⟨done, k, G, ρ, t, h, j', d1, d2, d3, d4, hC, hf, hk⟩ hfi
     rw [amx_succ, hno] at hk
     have hqj := hqg j i b hjm hi hb
     have hmem : j ∈ redy q done := by
      unfold redy
      rw [List.mem_filter, List.mem_range]
      refine ⟨by omega, ?_⟩
      rw [get?_eq, hqj]
      simp only [Bool.and_eq_true, Bool.not_eq_true', List.all_eq_true]
      refine ⟨?_, fun x hx => has_iff.2 ((d3 x).1 (hready x hx))⟩
      cases hh : has done j with
      | false => rfl
      | true => exact absurd (has_iff.1 hh) hjd
     have hk2 := andl_mem hk j hmem
     rw [get?_eq, hqj] at hk2
     exact step1_ok ow hC hci hk2 (fun a' w' G' ρ' t' h' hC' hk' => ih _ _ _ hsz hcnt ⟨hcl, .inl ⟨j :: done, k, G', ρ', t', h', List.nodup_cons.2 ⟨hjd, d1⟩, by rw [List.length_cons]; omega, fun x => by rw [hset, List.mem_cons, d3], fun x hx => by
      rcases List.mem_cons.1 hx with rfl | hx
      ·exact hjm
      ·exact d4 x hx, hC', hk'⟩⟩) PQ.qk
    ·exact absurd ((k3 j).2 (by omega)) hnl
   ·have hall : ∀ i, i < m → listed.getD i false = true := fun i hi => hready i (D.fu j b (by omega) hb i (by omega))
    obtain ⟨k, G, ρ, t', h', k1, k3, hC, hk⟩ := turn listed a w hI hall
    have hjk : j = k := by
     have h1 : k ≤ j := by
      rcases Nat.lt_or_ge j k with h | h
      ·exact absurd ((k3 j).2 h) hnl
      ·exact h
     rcases Nat.lt_or_ge k j with h2 | h2
     ·have := (k3 k).1 (hready k (D.fu j b (by omega) hb k h2)); omega
     ·omega
    subst hjk
    have hdrop : is.drop j = i :: is.drop (j + 1) := by
     have hlt : j < is.length := by omega
     rw [List.drop_eq_getElem_cons hlt]
     rw [List.getElem?_eq_getElem hlt] at hi
     rw [Option.some.inj hi]
    rw [hdrop] at hk
    exact step_ok ow hC hci hk (fun a' w' G' ρ' t' h' hC' hk' => ih _ _ _ hsz hcnt ⟨hcl, .inr ⟨j + 1, G', ρ', t', h', by omega, fun k => by rw [hset, k3]; omega, hC', hk'⟩⟩) PQ.qk
end
end Go.Vx
