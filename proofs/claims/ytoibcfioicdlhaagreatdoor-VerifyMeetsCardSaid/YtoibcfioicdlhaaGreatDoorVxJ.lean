/- Each small operation does in the model what it does to the picture: structs and slices built, held against each other, appended to. Conditions: none; lemmas on the definitions before. -/
import Derived.Test.YtoibcfioicdlhaaGreatDoorVxI
namespace Go.Vx
section
variable {P : Program} {E : Ent} {n : Nat} {G : Nat → Prop} {ρ : List Value} {t : T} {h : H} {a : Act} {w : World} {o : Oper} {nxt : Act → World → Prop} {Q : Exit → Act → World → Prop} {K KP : V → T → H → Prop}
variable (S : Nat → List V → H → (Out → H → Prop) → Prop) (ow : Nat → Bool)

theorem foldl_map' {α β γ : Type} (f : γ → β → γ) (g : α → β) (l : List α) (c : γ) : (l.map g).foldl f c = l.foldl (fun c x => f c (g x)) c := by
  induction l generalizing c with
  | nil => rfl
  | cons x l ih => simp [ih]

theorem op_bd (hC : Conc E n G ρ t h a w) (hn : Nxt E n a o K nxt) {ty : TypeId} {fs : Array Field} {ps : Array (Nat × Operand)} {pl : List (Nat × Nat)} {oq : List (Nat × Nat × O)} {zs : List V} (ho : o.op = .build ty ps) (hu : P.underlying ty = some (.struct fs))
    (hpl : fs.toList.mapM (fun f => (P.info? f.type).map fun i => (f.offset, i.size)) = some pl) (hz : zer P ty = some zs)
    (hq : oq.length = ps.size ∧ ∀ (k : Nat) (p : Nat × Operand) (q : Nat × Nat × O), ps[k]? = some p → oq[k]? = some q → pl[p.1]? = some (q.1, q.2.1) ∧ ∃ ty', opd P ty' p.2 = some q.2.2)
    (hk : opx S ow (.bd zs oq) t h K KP) : o.wp P a w nxt Q := by
  simp only [opx, fl_eq] at hk
  obtain ⟨hall, hk⟩ := hk
  obtain ⟨i, z, hi, hz0, hzs, _, hzr⟩ := zer_ok (G := G) (w := w) (ρ := ρ) hz
  have hall' : ∀ q ∈ oq, (gv t q.2.2).cs.length = q.2.1 ∧ q.1 + q.2.1 ≤ zs.length ∧ (gv t q.2.2).cs.all stor = true := by
    intro q hq
    have := List.all_eq_true.1 hall q hq
    simp only [Bool.and_eq_true] at this
    exact ⟨nbq this.1.1, Nat.le_of_ble_eq_true this.1.2, this.2⟩
  obtain ⟨out, o1, o2, o3⟩ := fill_ok (G := G) (w := w) (ρ := ρ) (pl.toArray[·]?) (ps.map fun (i, x) => (i, a.eval x)).toList (oq.map fun q => (q.1, (gv t q.2.2).cs)) z.cells zs (by simp [hq.1])
    (fun k p q hp hq' => by
      simp only [Array.toList_map, List.getElem?_map, Option.map_eq_some_iff] at hp hq'
      obtain ⟨p0, hp0, rfl⟩ := hp
      obtain ⟨q0, hq0, rfl⟩ := hq'
      obtain ⟨g1, ty', g2⟩ := hq.2 k p0 q0 (by simpa using hp0) hq0
      obtain ⟨e1, e2, e3⟩ := hall' q0 (List.mem_of_getElem? hq0)
      obtain ⟨c1, c2⟩ := cells_ok (opd_ok hC g2) e3
      refine ⟨by simp [g1, e1], by simp only; omega, c1, c2⟩)
    hzs (fun j x hx => .k (hzr j x hx).1)
  rw [foldl_map'] at o3
  have hb : P.built ty (ps.map fun (i, x) => (i, a.eval x)).toList = some out := by
    simp only [Program.built, hi, hu, hz0, hpl]
    exact o1
  refine wp_quiet hC hn (v' := .agg out) ?_ (.o (.ag out _ ?_ o3)) hk
  · simp only [execOp, ho]
    exact run_execv (run_build w ty _ out hb)
  · have : ∀ (l : List (Nat × Nat × O)) (c : List V), (l.foldl (fun cs p => lay cs p.1 (gv t p.2.2).cs) c).length = c.length := by
      intro l
      induction l with
      | nil => intro c; rfl
      | cons q l ih => intro c; simp only [List.foldl_cons]; rw [ih, lay_len]
    rw [this, o2, hzs]

theorem chunk_len {α : Type} (z : Nat) : ∀ (n : Nat) (l : List α), (chunk z n l).length = n
  | 0, _ => rfl
  | n + 1, l => by simp [chunk, chunk_len z n]
theorem chunk_get {α : Type} (z : Nat) : ∀ (n : Nat) (l : List α) (i : Nat), i < n → (chunk z n l)[i]? = some ((l.drop (i * z)).take z)
  | 0, _, _, h => by omega
  | n + 1, l, 0, _ => by simp [chunk]
  | n + 1, l, i + 1, h => by
    simp only [chunk, List.getElem?_cons_succ]
    rw [chunk_get z n _ i (by omega), List.drop_drop, Nat.add_mul, Nat.one_mul, Nat.add_comm]

theorem rep_flat (zs : List V) (n i : Nat) (h : i < n * zs.length) : (List.replicate n zs).flatten[i]? = zs[i % zs.length]? := by
  induction n generalizing i with
  | zero => simp at h
  | succ n ih =>
    rw [List.replicate_succ, List.flatten_cons]
    by_cases hi : i < zs.length
    · rw [List.getElem?_append_left hi, Nat.mod_eq_of_lt hi]
    · rw [List.getElem?_append_right (by omega), ih (i - zs.length) (by rw [Nat.add_mul] at h; omega)]
      rw [Nat.mod_eq_sub_mod (by omega : i ≥ zs.length)]

theorem op_bs (hC : Conc E n G ρ t h a w) (hn : Nxt E n a o K nxt) {ty e : TypeId} {m : Nat} {ps : Array (Nat × Operand)} {oq : List (Nat × O)} {zs : List V} (ho : o.op = .buildSlice ty m ps) (hu : P.underlying ty = some (.slice e))
    (hz : zer P e = some zs) (hzl : zs.length = P.cellsOf e) (hz0 : P.cellsOf e ≠ 0) (hm : m * P.cellsOf e ≤ 16777216) (hm0 : m ≠ 0)
    (hq : oq.length = ps.size ∧ ∀ (k : Nat) (p : Nat × Operand) (q : Nat × O), ps[k]? = some p → oq[k]? = some q → p.1 = q.1 ∧ ∃ ty', opd P ty' p.2 = some q.2)
    (hk : opx S ow (.bs (P.cellsOf e) zs m oq) t h K KP) : o.wp P a w nxt Q := by
  simp only [opx, fl_eq] at hk
  obtain ⟨hall, hk⟩ := hk
  obtain ⟨i, z, hi, hz1, hzs, _, hzr⟩ := zer_ok (G := G) (w := w) (ρ := ρ) hz
  have hci : P.cellsOf e = i.size := by simp [Program.cellsOf, hi]
  have hall' : ∀ q ∈ oq, (gv t q.2).cs.length = P.cellsOf e ∧ q.1 * P.cellsOf e + P.cellsOf e ≤ m * P.cellsOf e ∧ (gv t q.2).cs.all stor = true := by
    intro q hq
    have := List.all_eq_true.1 hall q hq
    simp only [Bool.and_eq_true] at this
    exact ⟨nbq this.1.1, Nat.le_of_ble_eq_true this.1.2, this.2⟩
  have hfl : (List.replicate m zs).flatten.length = m * P.cellsOf e := by simp [hzl]
  obtain ⟨out, o1, o2, o3⟩ := fill_ok (G := G) (w := w) (ρ := ρ) (fun i => some (i * P.cellsOf e, P.cellsOf e)) (ps.map fun (i, x) => (i, a.eval x)).toList (oq.map fun q => (q.1 * P.cellsOf e, (gv t q.2).cs))
    ((Array.range (m * P.cellsOf e)).map (z.cells[· % z.cells.size]!)) (List.replicate m zs).flatten (by simp [hq.1])
    (fun k p q hp hq' => by
      simp only [Array.toList_map, List.getElem?_map, Option.map_eq_some_iff] at hp hq'
      obtain ⟨p0, hp0, rfl⟩ := hp
      obtain ⟨q0, hq0, rfl⟩ := hq'
      obtain ⟨g1, ty', g2⟩ := hq.2 k p0 q0 (by simpa using hp0) hq0
      obtain ⟨e1, e2, e3⟩ := hall' q0 (List.mem_of_getElem? hq0)
      obtain ⟨c1, c2⟩ := cells_ok (opd_ok hC g2) e3
      refine ⟨by simp [g1, e1], by simp; omega, c1, c2⟩)
    (by rw [hfl]; simp) (fun j x hx => by
      have hjl : j < m * P.cellsOf e := by rw [← hfl]; exact (List.getElem?_eq_some_iff.1 hx).1
      rw [rep_flat zs m j (by rw [hzl]; exact hjl)] at hx
      have hr := (hzr _ x hx).1
      have he : ((Array.range (m * P.cellsOf e)).map (z.cells[· % z.cells.size]!)).getD j undef = z.cells.getD (j % zs.length) undef := by
        have hml : j % z.cells.size < z.cells.size := Nat.mod_lt _ (by omega)
        rw [Array.getD_eq_getD_getElem?, Array.getD_eq_getD_getElem?]
        simp only [Array.getElem?_map, Array.getElem?_range, hjl, if_true, Option.map_some, Option.getD_some]
        rw [hzs] at hml
        rw [hzs, getElem!_pos z.cells (j % zs.length) (by omega), Array.getElem?_eq_getElem (by omega)]
        rfl
      rw [he]
      exact .k hr)
  rw [foldl_map'] at o3
  have hfll : ∀ (l : List (Nat × O)) (c : List V), (l.foldl (fun cs p => lay cs (p.1 * P.cellsOf e) (gv t p.2).cs) c).length = c.length := by
    intro l
    induction l with
    | nil => intro c; rfl
    | cons q l ih => intro c; simp only [List.foldl_cons]; rw [ih, lay_len]
  obtain ⟨G', t', h', ds, hC1, hG', hdl, hds, hk⟩ := frz_ok _ G t h (fun j => out.getD j undef) hC o3 hk
  rw [hfll, hfl] at hdl
  have hos : out.size = m * P.cellsOf e := by rw [o2]; simp
  have hg := Grw.alloc w (.cells out e)
  have hC2 := hC1.grow (G' := fun b => G' b ∨ b = w.heap.size) hg (fun b hb => .inl hb) (fun b hb => by
    rcases hb with hb | hb
    · exact .inl hb
    · subst hb; exact .inr ⟨Nat.le_refl _, by simp⟩)
  have hrow : ∀ (i : Nat) (row : List D), (chunk (P.cellsOf e) m ds)[i]? = some row → i < m ∧ row = (ds.drop (i * P.cellsOf e)).take (P.cellsOf e) := by
    intro i row hr
    have hil : i < m := by
      have := (List.getElem?_eq_some_iff.1 hr).1
      rwa [chunk_len] at this
    rw [chunk_get _ _ _ _ hil] at hr
    cases hr
    exact ⟨hil, rfl⟩
  have hat : ∀ (i : Nat) (row : List D) (j : Nat) (x : D), (chunk (P.cellsOf e) m ds)[i]? = some row → row[j]? = some x → ds[i * P.cellsOf e + j]? = some x := by
    intro i row j x hr hx
    obtain ⟨_, rfl⟩ := hrow i row hr
    rw [List.getElem?_take] at hx
    split at hx
    · rwa [List.getElem?_drop] at hx
    · cases hx
  have hm' : m ≤ maxLen := by
    have : m ≤ m * P.cellsOf e := Nat.le_mul_of_pos_right _ (by omega)
    exact Nat.le_trans (by omega : m ≤ 16777216) (by decide)
  have hrun : (Instr.buildSlice ty m (ps.map fun (i, x) => (i, a.eval x))).run P w = .ok (.slice (some ⟨w.heap.size, 0, none⟩) m m) (w.alloc (.cells out e)) := by
    rw [hci] at o1 hm hz0
    have hne : (m * i.size = 0) = False := eq_false (fun h0 => by rcases Nat.mul_eq_zero.1 h0 with h1 | h1 <;> omega)
    have hne2 : ¬ (16777216 < m * i.size) := by omega
    simp only [Array.toList_map] at o1
    simp [Instr.buildSlice, run_underlying hu, sizeOf, typeInfo, zeroValue, hi, hz1, hne, hne2, o1, newRow]
  have hexec : (execOp a.eval o).run P w = .ok (.value (.slice (some ⟨w.heap.size, 0, none⟩) m m)) (w.alloc (.cells out e)) := by
    simp only [execOp, ho]
    exact run_execv hrun
  unfold bsn at hk
  rcases hk with hk | hk
  · simp only [fnat_eq] at hk
    have hC' := hC1.push hg (.slice (some ⟨w.heap.size, 0, none⟩) m m) (.rows (P.cellsOf e) (chunk (P.cellsOf e) m ds)) (fun b hb => by simp only [blk, Option.some.injEq] at hb; omega)
      (.inr ⟨w.heap.size, m, out, e, by rw [chunk_len], heap_alloc_new w _, by rw [chunk_len]; exact Nat.le_refl _, hm', hos, fun i row hr => by
        refine ⟨?_, fun j x hx => (hds _ x (hat i row j x hr hx)).mono (fun b hb => hb) (fun b hb => hg.old b (hC1.ok.hr.gl b hb))⟩
        obtain ⟨hil, rfl⟩ := hrow i row hr
        have : (i + 1) * P.cellsOf e ≤ m * P.cellsOf e := Nat.mul_le_mul_right _ hil
        rw [Nat.add_mul] at this
        rw [List.length_take, List.length_drop, hdl]
        omega⟩)
    refine wp_val hexec (hn _ _ _ _ _ _ _ hC' (.k (.os h'.length _ _ _ ?_)) hk)
    rw [← hC1.ok.hr.len]; simp
  have hD : RepD (fun b => G' b ∨ b = w.heap.size) (w.alloc (.cells out e)) (.slice (some ⟨w.heap.size, 0, none⟩) m m) (.sl (P.cellsOf e) (chunk (P.cellsOf e) m ds)) := by
    have := RepD.sl (G := fun b => G' b ∨ b = w.heap.size) (w := w.alloc (.cells out e)) w.heap.size 0 m (P.cellsOf e) (chunk (P.cellsOf e) m ds) (fun i j => out.getD (i * P.cellsOf e + j) undef)
      (by rw [chunk_len]; exact Nat.le_refl _) hm' (.inr rfl)
      (fun i row hr => by
        obtain ⟨hil, rfl⟩ := hrow i row hr
        have : (i + 1) * P.cellsOf e ≤ m * P.cellsOf e := Nat.mul_le_mul_right _ hil
        rw [Nat.add_mul] at this
        simp; omega)
      (fun i row j x hr hx => by
        have hl : i * P.cellsOf e + j < out.size := by rw [hos, ← hdl]; exact (List.getElem?_eq_some_iff.1 (hat i row j x hr hx)).1
        rw [cell_arr (heap_alloc_new w _), Nat.zero_add, Array.getD_eq_getD_getElem?, Array.getElem?_eq_getElem hl]; rfl)
      (fun i row j x hr hx => (hds _ x (hat i row j x hr hx)).mono (fun b hb => .inl hb) (fun b hb => by
        rcases hb with hb
        exact hg.old b (hC1.ok.hr.gl b hb)))
    rwa [chunk_len] at this
  exact wp_val hexec (hn _ _ _ _ _ _ _ hC2 (.d hD) hk)
end
end Go.Vx
