/- Each small operation does in the model what it does to the picture: structs and slices built, held against each other, appended to. Conditions: none; lemmas on the definitions before. -/
import Derived.Test.YtjpgfgajkjhonaaGreatDoorQTAF
namespace Go.Vx
section
variable {P : Program} {E : Ent} {n : Nat} {G : Nat → Prop} {ρ : List Value} {t : T} {h : H} {a : Act} {w : World} {o : Oper} {nxt : Act → World → Prop} {Q : Exit → Act → World → Prop} {K KP : V → T → H → Prop}
variable (S : Nat → List V → H → (Out → H → Prop) → Prop) (ow : Nat → Bool)
theorem foldl_map' {α β γ : Type} (f : γ → β → γ) (g : α → β) (l : List α) (c : γ) : (l.map g).foldl f c = l.foldl (fun c x => f c (g x)) c := by
 induction l generalizing c with
 | nil => rfl
 | cons x l ih => simp [ih]
theorem op_bd (hC : Conc E n G ρ t h a w) (hn : Nxt E n a o K nxt) {ty : TypeId} {fs : Array Field} {ps : Array (Nat × Operand)} {pl : List (Nat × Nat)} {oq : List (Nat × Nat × O)} {zs : List V} (ho : o.op = .build ty ps) (hu : P.underlying ty = some (.struct fs))
  (hpl : fs.toList.mapM (fun f => (P.info? f.type).map fun i => (f.offset, i.size)) = some pl) (hz : zer P ty = some zs)
  (hq : oq.length = ps.size ∧ ∀ (k : Nat) (p : Nat × Operand) (q : Nat × Nat × O), ps[k]? = some p → oq[k]? = some q → pl[p.1]? = some (q.1, q.2.1) ∧ ∃ ty', opd P ty' p.2 = some q.2.2)
  (hk : opx S ow (.bd zs oq) t h K KP) : o.wp P a w nxt Q := by
 simp only [opx, fl_eq] at hk
 obtain ⟨hall, hk⟩ := hk
 obtain ⟨i, z, hi, hz0, hzs, _, hzr⟩ := zer_ok (G := G) (w := w) (ρ := ρ) hz
 have hall' : ∀ q ∈ oq, (gv t q.2.2).cs.length = q.2.1 ∧ q.1 + q.2.1 ≤ zs.length ∧ (gv t q.2.2).cs.all stor = true := by
  intro q hq
  have := List.all_eq_true.1 hall q hq
  simp only [Bool.and_eq_true] at this
  exact ⟨nbq this.1.1, Nat.le_of_ble_eq_true this.1.2, this.2⟩
 obtain ⟨out, o1, o2, o3⟩ := fill_ok (G := G) (w := w) (ρ := ρ) (pl.toArray[·]?) (ps.map fun (i, x) => (i, a.eval x)).toList (oq.map fun q => (q.1, (gv t q.2.2).cs)) z.cells zs (by simp [hq.1])
  (fun k p q hp hq' => by
   simp only [Array.toList_map, List.getElem?_map, Option.map_eq_some_iff] at hp hq'
   obtain ⟨p0, hp0, rfl⟩ := hp
   obtain ⟨q0, hq0, rfl⟩ := hq'
   obtain ⟨g1, ty', g2⟩ := hq.2 k p0 q0 (by simpa using hp0) hq0
   obtain ⟨e1, e2, e3⟩ := hall' q0 (List.mem_of_getElem? hq0)
   obtain ⟨c1, c2⟩ := cells_ok (opd_ok hC g2) e3
   refine ⟨by simp [g1, e1], by simp only; omega, c1, c2⟩)
  hzs (fun j x hx => .k (hzr j x hx).1)
 rw [foldl_map'] at o3
 have hb : P.built ty (ps.map fun (i, x) => (i, a.eval x)).toList = some out := by
  simp only [Program.built, hi, hu, hz0, hpl]
  exact o1
 refine wp_quiet hC hn (v' := .agg out) ?_ (.o (.ag out _ ?_ o3)) hk
 ·simp only [execOp, ho]
  exact run_execv (run_build w ty _ out hb)
 ·have : ∀ (l : List (Nat × Nat × O)) (c : List V), (l.foldl (fun cs p => lay cs p.1 (gv t p.2.2).cs) c).length = c.length := by
   intro l
   induction l with
   | nil => intro c; rfl
   | cons q l ih => intro c; simp only [List.foldl_cons]; rw [ih, lay_len]
  rw [this, o2, hzs]
theorem chunk_len {α : Type} (z : Nat) : ∀ (n : Nat) (l : List α), (chunk z n l).length = n
 | 0, _ => rfl
 | n + 1, l => by simp [chunk, chunk_len z n]
theorem chunk_get {α : Type} (z : Nat) : ∀ (n : Nat) (l : List α) (i : Nat), i < n → (chunk z n l)[i]? = some ((l.drop (i * z)).take z)
 | 0, _, _, h => by omega
 | n + 1, l, 0, _ => by simp [chunk]
 | n + 1, l, i + 1, h => by
  simp only [chunk, List.getElem?_cons_succ]
  rw [chunk_get z n _ i (by omega), List.drop_drop, Nat.add_mul, Nat.one_mul, Nat.add_comm]
theorem rep_flat (zs : List V) (n i : Nat) (h : i < n * zs.length) : (List.replicate n zs).flatten[i]? = zs[i % zs.length]? := by
 induction n generalizing i with
 | zero => simp at h
 | succ n ih =>
  rw [List.replicate_succ, List.flatten_cons]
  by_cases hi : i < zs.length
  ·rw [List.getElem?_append_left hi, Nat.mod_eq_of_lt hi]
  ·rw [List.getElem?_append_right (by omega), ih (i - zs.length) (by rw [Nat.add_mul] at h; omega)]
   rw [Nat.mod_eq_sub_mod (by omega : i ≥ zs.length)]
theorem op_bs (hC : Conc E n G ρ t h a w) (hn : Nxt E n a o K nxt) {ty e : TypeId} {m : Nat} {ps : Array (Nat × Operand)} {oq : List (Nat × O)} {zs : List V} (ho : o.op = .buildSlice ty m ps) (hu : P.underlying ty = some (.slice e))
  (hz : zer P e = some zs) (hzl : zs.length = P.cellsOf e) (hz0 : P.cellsOf e ≠ 0) (hm : m * P.cellsOf e ≤ 16777216) (hm0 : m ≠ 0)
  (hq : oq.length = ps.size ∧ ∀ (k : Nat) (p : Nat × Operand) (q : Nat × O), ps[k]? = some p → oq[k]? = some q → p.1 = q.1 ∧ ∃ ty', opd P ty' p.2 = some q.2)
  (hk : opx S ow (.bs (P.cellsOf e) zs m oq) t h K KP) : o.wp P a w nxt Q := by
 simp only [opx, fl_eq] at hk
 obtain ⟨hall, hk⟩ := hk
 obtain ⟨i, z, hi, hz1, hzs, _, hzr⟩ := zer_ok (G := G) (w := w) (ρ := ρ) hz
 have hci : P.cellsOf e = i.size := by simp [Program.cellsOf, hi]
 have hall' : ∀ q ∈ oq, (gv t q.2).cs.length = P.cellsOf e ∧ q.1 * P.cellsOf e + P.cellsOf e ≤ m * P.cellsOf e ∧ (gv t q.2).cs.all stor = true := by
  intro q hq
  have := List.all_eq_true.1 hall q hq
  simp only [Bool.and_eq_true] at this
  exact ⟨nbq this.1.1, Nat.le_of_ble_eq_true this.1.2, this.2⟩
 have hfl : (List.replicate m zs).flatten.length = m * P.cellsOf e := by simp [hzl]
 obtain ⟨out, o1, o2, o3⟩ := fill_ok (G := G) (w := w) (ρ := ρ) (fun i => some (i * P.cellsOf e, P.cellsOf e)) (ps.map fun (i, x) => (i, a.eval x)).toList (oq.map fun q => (q.1 * P.cellsOf e, (gv t q.2).cs))
  ((Array.range (m * P.cellsOf e)).map (z.cells[· % z.cells.size]!)) (List.replicate m zs).flatten (by simp [hq.1])
  (fun k p q hp hq' => by
   simp only [Array.toList_map, List.getElem?_map, Option.map_eq_some_iff] at hp hq'
   obtain ⟨p0, hp0, rfl⟩ := hp
   obtain ⟨q0, hq0, rfl⟩ := hq'
   obtain ⟨g1, ty', g2⟩ := hq.2 k p0 q0 (by simpa using hp0) hq0
   obtain ⟨e1, e2, e3⟩ := hall' q0 (List.mem_of_getElem? hq0)
   obtain ⟨c1, c2⟩ := cells_ok (opd_ok hC g2) e3
   refine ⟨by simp [g1, e1], by simp; omega, c1, c2⟩)
  (by rw [hfl]; simp) (fun j x hx => by
   have hjl : j < m * P.cellsOf e := by rw [← hfl]; exact (List.getElem?_eq_some_iff.1 hx).1
   rw [rep_flat zs m j (by rw [hzl]; exact hjl)] at hx
   have hr := (hzr _ x hx).1
   have he : ((Array.range (m * P.cellsOf e)).map (z.cells[· % z.cells.size]!)).getD j undef = z.cells.getD (j % zs.length) undef := by
    have hml : j % z.cells.size < z.cells.size := Nat.mod_lt _ (by omega)
    rw [Array.getD_eq_getD_getElem?, Array.getD_eq_getD_getElem?]
    simp only [Array.getElem?_map, Array.getElem?_range, hjl, if_true, Option.map_some, Option.getD_some]
    rw [hzs] at hml
    rw [hzs, getElem!_pos z.cells (j % zs.length) (by omega), Array.getElem?_eq_getElem (by omega)]
    rfl
   rw [he]
   exact .k hr)
 rw [foldl_map'] at o3
 have hfll : ∀ (l : List (Nat × O)) (c : List V), (l.foldl (fun cs p => lay cs (p.1 * P.cellsOf e) (gv t p.2).cs) c).length = c.length := by
  intro l
  induction l with
  | nil => intro c; rfl
  | cons q l ih => intro c; simp only [List.foldl_cons]; rw [ih, lay_len]
 obtain ⟨G', t', h', ds, hC1, hG', hdl, hds, hk⟩ := frz_ok _ G t h (fun j => out.getD j undef) hC o3 hk
 rw [hfll, hfl] at hdl
 have hos : out.size = m * P.cellsOf e := by rw [o2]; simp
 have hg := Grw.alloc w (.cells out e)
 have hC2 := hC1.grow (G' := fun b => G' b ∨ b = w.heap.size) hg (fun b hb => .inl hb) (fun b hb => by
  rcases hb with hb | hb
  ·exact .inl hb
  ·subst hb; exact .inr ⟨Nat.le_refl _, by simp, _, _, _, heap_alloc_new w _⟩)
 have hrow : ∀ (i : Nat) (row : List D), (chunk (P.cellsOf e) m ds)[i]? = some row → i < m ∧ row = (ds.drop (i * P.cellsOf e)).take (P.cellsOf e) := by
  intro i row hr
  have hil : i < m := by
   have := (List.getElem?_eq_some_iff.1 hr).1
   rwa [chunk_len] at this
  rw [chunk_get _ _ _ _ hil] at hr
  cases hr
  exact ⟨hil, rfl⟩
 have hat : ∀ (i : Nat) (row : List D) (j : Nat) (x : D), (chunk (P.cellsOf e) m ds)[i]? = some row → row[j]? = some x → ds[i * P.cellsOf e + j]? = some x := by
  intro i row j x hr hx
  obtain ⟨_, rfl⟩ := hrow i row hr
  rw [List.getElem?_take] at hx
  split at hx
  ·rwa [List.getElem?_drop] at hx
  ·cases hx
 have hm' : m ≤ maxLen := by
  have : m ≤ m * P.cellsOf e := Nat.le_mul_of_pos_right _ (by omega)
  exact Nat.le_trans (by omega : m ≤ 16777216) (by decide)
 have hrun : (Instr.buildSlice ty m (ps.map fun (i, x) => (i, a.eval x))).run P w = .ok (.slice (some ⟨w.heap.size, 0, none⟩) m m) (w.alloc (.cells out e)) := by
  rw [hci] at o1 hm hz0
  have hne : (m * i.size = 0) = False := eq_false (fun h0 => by rcases Nat.mul_eq_zero.1 h0 with h1 | h1 <;> omega)
  have hne2 : ¬ (16777216 < m * i.size) := by omega
  simp only [Array.toList_map] at o1
  simp [Instr.buildSlice, run_underlying hu, sizeOf, typeInfo, zeroValue, hi, hz1, hne, hne2, o1, newRow]
 have hexec : (execOp a.eval o).run P w = .ok (.value (.slice (some ⟨w.heap.size, 0, none⟩) m m)) (w.alloc (.cells out e)) := by
  simp only [execOp, ho]
  exact run_execv hrun
 unfold bsn at hk
 rcases hk with hk | hk
 ·simp only [fnat_eq] at hk
  have hC' := hC1.push hg (.slice (some ⟨w.heap.size, 0, none⟩) m m) (.rows (P.cellsOf e) (chunk (P.cellsOf e) m ds)) (fun b hb => by simp only [blk, Option.some.injEq] at hb; omega)
   (.inr ⟨w.heap.size, m, out, e, by rw [chunk_len], heap_alloc_new w _, by rw [chunk_len]; exact Nat.le_refl _, hm', hos, fun i row hr => by
    refine ⟨?_, fun j x hx => (hds _ x (hat i row j x hr hx)).mono (fun b hb => hb) (fun b hb => hg.old b (hC1.ok.hr.gl b hb))⟩
    obtain ⟨hil, rfl⟩ := hrow i row hr
    have : (i + 1) * P.cellsOf e ≤ m * P.cellsOf e := Nat.mul_le_mul_right _ hil
    rw [Nat.add_mul] at this
    rw [List.length_take, List.length_drop, hdl]
    omega⟩)
  refine wp_val hexec (hn _ _ _ _ _ _ _ hC' (.k (.os h'.length _ _ _ ?_)) hk)
  rw [← hC1.ok.hr.len]; simp
 have hD : RepD (fun b => G' b ∨ b = w.heap.size) (w.alloc (.cells out e)) (.slice (some ⟨w.heap.size, 0, none⟩) m m) (.sl (P.cellsOf e) (chunk (P.cellsOf e) m ds)) := by
  have := RepD.sl (G := fun b => G' b ∨ b = w.heap.size) (w := w.alloc (.cells out e)) w.heap.size 0 m (P.cellsOf e) (chunk (P.cellsOf e) m ds) (fun i j => out.getD (i * P.cellsOf e + j) undef)
   (by rw [chunk_len]; exact Nat.le_refl _) hm' (.inr rfl)
   (fun i row hr => by
    obtain ⟨hil, rfl⟩ := hrow i row hr
    have : (i + 1) * P.cellsOf e ≤ m * P.cellsOf e := Nat.mul_le_mul_right _ hil
    rw [Nat.add_mul] at this
    simp; omega)
   (fun i row j x hr hx => by
    have hl : i * P.cellsOf e + j < out.size := by rw [hos, ← hdl]; exact (List.getElem?_eq_some_iff.1 (hat i row j x hr hx)).1
    rw [cell_arr (heap_alloc_new w _), Nat.zero_add, Array.getD_eq_getD_getElem?, Array.getElem?_eq_getElem hl]; rfl)
   (fun i row j x hr hx => (hds _ x (hat i row j x hr hx)).mono (fun b hb => .inl hb) (fun b hb => by
    rcases hb with hb
    exact hg.old b (hC1.ok.hr.gl b hb)))
  rwa [chunk_len] at this
 exact wp_val hexec (hn _ _ _ _ _ _ _ hC2 (.d hD) hk)
end
end Go.Vx
namespace Go.Vx
theorem eqx_b {ks : List Nat} {x y : List V} {K : Bool → Prop} (h : eqx ks x y K) : ∃ e, eqb ks x y = some e ∧ K e := by
 unfold eqx at h
 split at h
 ·exact ⟨_, ‹_›, h⟩
 ·exact h.elim
theorem eqb_cons {k : Nat} {ks : List Nat} {x y : List V} {e : Bool} (h : eqb (k :: ks) x y = some e) : ∃ x0 r y0 s b e', x = x0 :: r ∧ y = y0 :: s ∧ eq1 k x0 y0 = some b ∧ eqb ks r s = some e' ∧ e = (b && e') := by
 cases x with
 | nil => simp [eqb] at h
 | cons x0 r => cases y with
  | nil => simp [eqb] at h
  | cons y0 s =>
   simp only [eqb] at h
   split at h
   ·split at h
    ·cases h; exact ⟨_, _, _, _, _, _, rfl, rfl, ‹_›, ‹_›, rfl⟩
    ·cases h
   ·cases h
theorem eqb_nil {x y : List V} {e : Bool} (h : eqb [] x y = some e) : x = [] ∧ y = [] ∧ e = true := by
 cases x <;> cases y <;> simp [eqb] at h ⊢
 exact h
theorem eqb_len : ∀ (ks : List Nat) (x y : List V) (e : Bool), eqb ks x y = some e → x.length = ks.length ∧ y.length = ks.length := by
 intro ks
 induction ks with
 | nil => intro x y e h; obtain ⟨rfl, rfl, _⟩ := eqb_nil h; simp
 | cons k ks ih =>
  intro x y e h
  obtain ⟨x0, r, y0, s, b, e', rfl, rfl, _, h2, _⟩ := eqb_cons h
  have := ih _ _ _ h2
  simp [this]
theorem eqb_append : ∀ (a b : List Nat) (x y : List V) (e : Bool), eqb (a ++ b) x y = some e → ∃ e1 e2, eqb a (x.take a.length) (y.take a.length) = some e1 ∧ eqb b (x.drop a.length) (y.drop a.length) = some e2 ∧ e = (e1 && e2) := by
 intro a
 induction a with
 | nil => intro b x y e h; exact ⟨true, e, by simp [eqb], by simpa using h, by simp⟩
 | cons k a ih =>
  intro b x y e h
  obtain ⟨x0, r, y0, s, b1, e', rfl, rfl, h1, h2, rfl⟩ := eqb_cons h
  obtain ⟨e1, e2, g1, g2, rfl⟩ := ih _ _ _ _ h2
  exact ⟨b1 && e1, e2, by simp [eqb, h1, g1], by simpa using g2, by simp [Bool.and_assoc]⟩
section
variable {P : Program} {E : Ent} {n : Nat} {G : Nat → Prop} {ρ : List Value} {t : T} {h : H} {a : Act} {w : World} {o : Oper} {nxt : Act → World → Prop} {Q : Exit → Act → World → Prop} {K KP : V → T → H → Prop}
def Shp (P : Program) (G : Nat → Prop) (w : World) (ρ : List Value) (ty : TypeId) (v : Value) (cs : List V) : Prop :=
 match P.underlying ty with
 | some (.struct _) => ∃ arr : Array Value, v = .agg arr ∧ arr.size = cs.length ∧ ∀ (i : Nat) (x : V), cs[i]? = some x → RepC G w ρ (arr.getD i undef) x
 | _ => ∃ x, cs = [x] ∧ RepC G w ρ v x
theorem part_ok {ty : TypeId} {arr : Array Value} {cs : List V} {off : Nat} {ks : List Nat} {m : Nat} (hs : arr.size = cs.length) (hr : ∀ (i : Nat) (x : V), cs[i]? = some x → RepC G w ρ (arr.getD i undef) x) (hf : flat P m ty = some ks) (hle : off + ks.length ≤ cs.length) :
  ∃ v, (part ty arr off).run P w = .ok v w ∧ Shp P G w ρ ty v ((cs.drop off).take ks.length) := by
 cases m with
 | zero => cases hf
 | succ m =>
  simp only [flat] at hf
  have scalar : ∀ d, P.underlying ty = some d → (∀ fs, d ≠ .struct fs) → (∀ k e, d ≠ .array k e) → ks.length = 1 → ∃ v, (part ty arr off).run P w = .ok v w ∧ Shp P G w ρ ty v ((cs.drop off).take ks.length) := by
   intro d hd h1 h2 h3
   have hol : off < arr.size := by omega
   have hag : isAg P ty = some false := by
    cases d <;> first | exact absurd rfl (h1 _) | exact absurd rfl (h2 _ _) | simp [isAg, hd]
   refine ⟨arr[off], by simp [part, run_isAgg hag, hol], ?_⟩
   have hoc : off < cs.length := by omega
   have hx := hr off _ (List.getElem?_eq_getElem hoc)
   have hcs : (cs.drop off).take ks.length = [cs[off]] := by
    rw [h3, List.drop_eq_getElem_cons hoc]
    rfl
   rw [hcs]
   unfold Shp
   rw [hd]
   rw [Array.getD_eq_getD_getElem?, Array.getElem?_eq_getElem hol] at hx
   cases d <;> first | exact ⟨_, rfl, hx⟩ | exact absurd rfl (h1 _)
  split at hf
  ·rename_i k hd; cases hf; exact scalar _ hd (by simp) (by simp) rfl
  ·rename_i hd; cases hf; exact scalar _ hd (by simp) (by simp) rfl
  ·rename_i hd; cases hf; exact scalar _ hd (by simp) (by simp) rfl
  ·rename_i fs hd
   split at hf
   ·cases hf
   ·simp only [Option.bind_eq_bind, Option.bind_eq_some_iff] at hf
    obtain ⟨b, hb, hif⟩ := hf
    split at hif
    ·rename_i hbl
     cases hif
     have hag : isAg P ty = some true := by simp [isAg, hd]
     unfold Program.cellsOf at hbl
     cases hi : P.info? ty with
     | none => exfalso; simp [Program.underlying, hi] at hd
     | some i =>
      rw [hi] at hbl
      simp at hbl
      refine ⟨.agg (arr.extract off (off + ks.length)), by simp [part, run_isAgg hag, sizeOf, typeInfo, hi, hbl], ?_⟩
      unfold Shp
      rw [hd]
      refine ⟨_, rfl, by simp; omega, fun j x hx => ?_⟩
      rw [List.getElem?_take] at hx
      split at hx
      ·rename_i hj
       rw [List.getElem?_drop] at hx
       have := hr _ x hx
       have hl : off + j < arr.size := by rw [hs]; exact (List.getElem?_eq_some_iff.1 hx).1
       rw [Array.getD_eq_getD_getElem?, Array.getElem?_eq_getElem hl] at this
       rw [Array.getD_eq_getD_getElem?, Array.getElem?_extract, if_pos (by omega), Array.getElem?_eq_getElem hl]
       exact this
      ·cases hx
    ·cases hif
  ·cases hf
theorem equalIn_ok : ∀ (m : Nat) (ty : TypeId) (ks : List Nat) (x y : Value) (cx cy : List V) (e : Bool) (d : Nat), flat P m ty = some ks → Shp P G w ρ ty x cx → Shp P G w ρ ty y cy → eqb ks cx cy = some e → m ≤ d →
  (Op.equalIn d ty x y).run P w = .ok e w := by
 intro m
 induction m with
 | zero => intro ty ks x y cx cy e d hf; cases hf
 | succ m ih =>
  intro ty ks x y cx cy e d hf hx hy he hd
  obtain ⟨d, rfl⟩ : ∃ d', d = d' + 1 := ⟨d - 1, by omega⟩
  simp only [flat] at hf
  split at hf
  ·rename_i k hu
   cases hf
   simp only [Shp, hu] at hx hy
   obtain ⟨vx, rfl, hx⟩ := hx
   obtain ⟨vy, rfl, hy⟩ := hy
   obtain ⟨x0, r, y0, s, b, e', h1, h2, h3, h4, rfl⟩ := eqb_cons he
   cases h1; cases h2
   obtain ⟨_, _, rfl⟩ := eqb_nil h4
   unfold eq1 at h3
   split at h3 <;> first | (cases h3; done) | (rename_i hh; cases hh; done) | skip
   ·rename_i k1 a1 k2 b1 _
    cases hkk : Nat.beq (kn k1) (kn k2) <;> rw [hkk] at h3
    ·cases h3
    ·cases h3
     obtain rfl : k1 = k2 := by revert hkk; cases k1 <;> cases k2 <;> simp [kn]
     have e1 := (Rep2.c hx).int
     have e2 := (Rep2.c hy).int
     rw [e1, e2, Bool.and_true]
     exact run_equalIn_int w d ty _ _ _ _ hu
  ·rename_i hu
   cases hf
   simp only [Shp, hu] at hx hy
   obtain ⟨vx, rfl, hx⟩ := hx
   obtain ⟨vy, rfl, hy⟩ := hy
   obtain ⟨x0, r, y0, s, b, e', h1, h2, h3, h4, rfl⟩ := eqb_cons he
   cases h1; cases h2
   obtain ⟨_, _, rfl⟩ := eqb_nil h4
   unfold eq1 at h3
   split at h3 <;> first | (cases h3; done) | (rename_i hh; cases hh; done) | skip
   ·cases h3
    have e1 := (Rep2.c hx).bool
    have e2 := (Rep2.c hy).bool
    rw [e1, e2, Bool.and_true]
    exact run_equalIn_bool' w d ty _ _ hu
  ·rename_i hu
   cases hf
   simp only [Shp, hu] at hx hy
   obtain ⟨vx, rfl, hx⟩ := hx
   obtain ⟨vy, rfl, hy⟩ := hy
   obtain ⟨x0, r, y0, s, b, e', h1, h2, h3, h4, rfl⟩ := eqb_cons he
   cases h1; cases h2
   obtain ⟨_, _, rfl⟩ := eqb_nil h4
   unfold eq1 at h3
   split at h3 <;> first | (cases h3; done) | (rename_i hh; cases hh; done) | skip
   ·cases h3
    obtain ⟨s1, e1, e2, _⟩ := (Rep2.c hx).str
    obtain ⟨s2, e3, e4, _⟩ := (Rep2.c hy).str
    rw [e1, e3, Bool.and_true]
    rw [run_equalIn_string w d ty _ _ hu, ByteArray.toList_eq, ByteArray.toList_eq, e2, e4]
  ·rename_i fs hu
   split at hf
   ·cases hf
   ·rename_i hst
    simp only [Option.bind_eq_bind, Option.bind_eq_some_iff] at hf
    obtain ⟨b, hb, hif⟩ := hf
    split at hif
    ·cases hif
     simp only [Shp, hu] at hx hy
     obtain ⟨ax, rfl, hxs, hxr⟩ := hx
     obtain ⟨ay, rfl, hys, hyr⟩ := hy
     have hfo : P.fieldsOf ty = fs := by simp [Program.fieldsOf, hu]
     rw [run_equalIn_struct w d ty ax ay (by rw [hfo]; exact hu) (by simpa using hst), hfo]
     have key : ∀ (fl : List Field) (off : Nat) (b : List Nat) (e : Bool), flatFs (flat P m) off fl = some b → eqb b (cx.drop off) (cy.drop off) = some e → off + b.length = cx.length → off + b.length = cy.length →
       (Op.eqFields d ax ay fl).run P w = .ok e w := by
      intro fl
      induction fl with
      | nil =>
       intro off b e hb he h1 h2
       cases hb
       have : cx.drop off = [] := List.drop_eq_nil_of_le (by simp at h1; omega)
       have h' : cy.drop off = [] := List.drop_eq_nil_of_le (by simp at h2; omega)
       rw [this, h'] at he
       simp [eqb] at he
       subst he
       simp [Op.eqFields]
      | cons f fl ihf =>
       intro off b e hb he h1 h2
       simp only [flatFs] at hb
       split at hb
       ·cases hb
       ·rename_i hn
        simp only [Bool.or_eq_true, decide_eq_true_eq, bne_iff_ne, ne_eq, not_or, Decidable.not_not] at hn
        obtain ⟨hn1, hn2⟩ := hn
        simp only [Option.bind_eq_bind, Option.bind_eq_some_iff] at hb
        obtain ⟨b1, hb1, b2, hb2, hbb⟩ := hb
        cases hbb
        simp only [List.length_append] at h1 h2
        obtain ⟨e1, e2, g1, g2, rfl⟩ := eqb_append _ _ _ _ _ he
        obtain ⟨v1, p1, s1⟩ := part_ok (off := off) hxs hxr hb1 (by omega)
        obtain ⟨v2, p2, s2⟩ := part_ok (off := off) hys hyr hb1 (by omega)
        have hr := ih _ _ _ _ _ _ _ d hb1 s1 s2 g1 (by omega)
        rw [List.drop_drop, List.drop_drop] at g2
        have hrest := ihf (off + b1.length) b2 e2 hb2 g2 (by omega) (by omega)
        subst hn2
        simp only [Op.eqFields, hn1, ne_eq, not_false_eq_true, if_true, Sem.run_bind, p1, p2, hr, Result.andThen_ok, Sem.run_ite]
        cases e1
        ·simp
        ·simpa using hrest
     refine key fs.toList 0 ks e hb (by simpa using he) ?_ ?_
     ·have := (eqb_len _ _ _ _ he).1; omega
     ·have := (eqb_len _ _ _ _ he).2; omega
    ·cases hif
  ·cases hf
theorem flat_shp {m : Nat} {ty : TypeId} {ks : List Nat} {v : Value} {x : V} {b : Bool} (hf : flat P m ty = some ks) (ha : isAg P ty = some b) (hg : x.isag = b) (hv : Rep2 G w ρ v x) (hs : x.cs.all stor = true) : Shp P G w ρ ty v x.cs := by
 obtain ⟨h1, h2⟩ := cells_ok hv hs
 simp only [isAg, Option.map_eq_some_iff] at ha
 obtain ⟨d, hd, hb⟩ := ha
 have scalar : b = false → (∀ fs, d ≠ .struct fs) → Shp P G w ρ ty v x.cs := by
  rintro rfl hn
  have hcs : x.cs = [x] := by cases x <;> first | rfl | cases hg
  have hc : RepC G w ρ v x := by
   cases hv with
   | o h => cases h with
    | c h => exact h
    | ag => cases hg
   | tu => rw [hcs] at hs; simp [stor] at hs
  rw [hcs]
  unfold Shp
  rw [hd]
  cases d <;> first | exact absurd rfl (hn _) | exact ⟨x, rfl, hc⟩
 cases m with
 | zero => cases hf
 | succ m =>
  simp only [flat, hd] at hf
  cases d <;> simp only at hf hb <;> first | (cases hf; done) | (subst hb; exact scalar rfl (by simp)) | skip
  subst hb
  cases x <;> first | (cases hg; done) | skip
  obtain ⟨cs, rfl, g1, g2⟩ := hv.agl
  unfold Shp
  rw [hd]
  exact ⟨cs, rfl, g1, g2⟩
theorem eqb_stor : ∀ (ks : List Nat) (x y : List V) (e : Bool), eqb ks x y = some e → x.all stor = true ∧ y.all stor = true := by
 intro ks
 induction ks with
 | nil => intro x y e h; obtain ⟨rfl, rfl, _⟩ := eqb_nil h; simp
 | cons k ks ih =>
  intro x y e h
  obtain ⟨x0, r, y0, s, b, e', rfl, rfl, h1, h2, _⟩ := eqb_cons h
  have := ih _ _ _ h2
  unfold eq1 at h1
  split at h1 <;> first | (cases h1; done) | simp [this, stor]
variable (S : Nat → List V → H → (Out → H → Prop) → Prop) (ow : Nat → Bool)
theorem op_eq (hC : Conc E n G ρ t h a w) (hn : Nxt E n a o K nxt) {ne st : Bool} {ks : List Nat} {ty t1 t2 t3 : TypeId} {x y : Operand} {ox oy : O} (ho : o.op = .binOp (if ne then .neq else .eql) ty x y t3) (hx : opd P t1 x = some ox) (hy : opd P t2 y = some oy)
  (hni : ∀ k, P.underlying ty ≠ some (.int k)) (hg : P.eqGuardType P.depth ty = false) (hf : flat P 100 ty = some ks) (ha : isAg P ty = some st) (hk : opx S ow (.eq ne st ks ox oy) t h K KP) : o.wp P a w nxt Q := by
 have hvx := opd_ok hC hx
 have hvy := opd_ok hC hy
 simp only [opx] at hk
 obtain ⟨⟨g1, g2⟩, hk⟩ := hk
 obtain ⟨e, he, hk⟩ := eqx_b hk
 obtain ⟨s1, s2⟩ := eqb_stor _ _ _ _ he
 have hsx := flat_shp hf ha g1 hvx s1
 have hsy := flat_shp hf ha g2 hvy s2
 have hr := equalIn_ok 100 ty ks _ _ _ _ e 10000 hf hsx hsy he (by decide)
 refine wp_quiet hC hn (v' := .bool (bif ne then !e else e)) ?_ (.d (.bool _)) hk
 simp only [execOp, ho]
 refine run_execv ?_
 generalize a.eval x = vx at *
 generalize a.eval y = vy at *
 cases hu : P.underlying ty with
 | none => simp [isAg, hu] at ha
 | some d =>
  replace hf : flat P (99 + 1) ty = some ks := hf
  rw [flat] at hf
  simp only [hu] at hf
  cases d <;> simp only at hf <;> first | (cases hf; done) | skip
  ·cases hf
   simp only [Shp, hu] at hsx hsy
   obtain ⟨cx, ex, hsx⟩ := hsx
   obtain ⟨cy, ey, hsy⟩ := hsy
   rw [ex, ey] at he
   obtain ⟨x0, r, y0, s, b, e', h1, h2, h3, h4, rfl⟩ := eqb_cons he
   cases h1; cases h2
   unfold eq1 at h3
   split at h3 <;> first | (cases h3; done) | (rename_i hh; cases hh; done) | skip
   have e1 := (Rep2.c hsx).bool
   have e2 := (Rep2.c hsy).bool
   subst e1 e2
   cases ne <;> simp [eqGuard, binOp, Op.equal, Op.maxDepth, hr]
  ·exact absurd hu (hni _)
  ·cases hf
   simp only [Shp, hu] at hsx hsy
   obtain ⟨cx, ex, hsx⟩ := hsx
   obtain ⟨cy, ey, hsy⟩ := hsy
   rw [ex, ey] at he
   obtain ⟨x0, r, y0, s, b, e', h1, h2, h3, h4, rfl⟩ := eqb_cons he
   cases h1; cases h2
   unfold eq1 at h3
   split at h3 <;> first | (cases h3; done) | (rename_i hh; cases hh; done) | skip
   obtain ⟨s1, e1, _, _⟩ := (Rep2.c hsx).str
   obtain ⟨s2, e2, _, _⟩ := (Rep2.c hsy).str
   subst e1 e2
   rw [run_equalIn_string w _ ty _ _ hu] at hr
   simp only [Result.ok.injEq, and_true] at hr
   cases ne <;> simp [eqGuard, binOp, Op.stringOp, hr]
  ·simp only [Shp, hu] at hsx hsy
   obtain ⟨ax, rfl, _⟩ := hsx
   obtain ⟨ay, rfl, _⟩ := hsy
   cases ne
   ·simp only [Bool.false_eq_true, if_false, cond_false, Sem.run_bind, run_eqGuard_agg w _ ty x y ax ay hg, Result.andThen_ok, run_eql_struct, hr]
   ·simp only [if_true, cond_true, Sem.run_bind, run_eqGuard_agg w _ ty x y ax ay hg, Result.andThen_ok, run_neq_struct, hr]
end
end Go.Vx
namespace Go.Vx
section
variable {P : Program} {E : Ent} {n : Nat} {G : Nat → Prop} {ρ : List Value} {t : T} {h : H} {a : Act} {w : World} {o : Oper} {nxt : Act → World → Prop} {Q : Exit → Act → World → Prop} {K KP : V → T → H → Prop}
theorem run_ap_in {ty uy ty' e : TypeId} {i : TypeInfo} (ht : P.underlying ty = some (.slice e)) (hu : ∃ e', P.underlying uy = some (.slice e')) (hi : P.info? e = some i) {b sLen sCap m : Nat} {cur : Array Value} {ty0 : TypeId} (hg : w.heap[b]? = some (.cells cur ty0 (0, 0)))
  {y : Value} {news : List Value} (hl : (Builtin.lenOf y).run P w = .ok m w) (hf : (Builtin.firstCells i.size m y).run P w = .ok news.toArray w) (h1 : ∀ u ∈ news, u.oneCell' = true)
  (hroom : sLen + m ≤ sCap) (hfit : sLen * i.size + news.length ≤ cur.size) :
  (Builtin.append_ #[ty, uy] ty' #[.slice (some ⟨b, 0, none⟩) sLen sCap, y]).run P w =
   .ok (.slice (some ⟨b, 0, none⟩) (sLen + m) sCap) (w.setRow b (cur.toList.take (sLen * i.size) ++ news ++ cur.toList.drop (sLen * i.size + news.length)).toArray) := by
 obtain ⟨e', hu⟩ := hu
 have hst := run_storeCells_at (P := P) b (sLen * i.size) ty0 news 0 cur w hg (by simpa using hfit) h1
 simp only [Nat.add_zero] at hst
 simp [Builtin.append_, run_underlying ht, run_underlying hu, sizeOf, typeInfo, hi, hl, hf, hroom, Addr.add_lit, hst]
theorem run_ap_nil {ty uy ty' e : TypeId} {i : TypeInfo} (ht : P.underlying ty = some (.slice e)) (hu : ∃ e', P.underlying uy = some (.slice e')) (hi : P.info? e = some i)
  {y : Value} (hl : (Builtin.lenOf y).run P w = .ok 0 w) (hf : (Builtin.firstCells i.size 0 y).run P w = .ok #[] w) :
  (Builtin.append_ #[ty, uy] ty' #[.slice none 0 0, y]).run P w = .ok (.slice none 0 0) w := by
 obtain ⟨e', hu⟩ := hu
 simp [Builtin.append_, run_underlying ht, run_underlying hu, sizeOf, typeInfo, hi, hl, hf]
theorem run_ap_new {ty uy ty' e : TypeId} {i : TypeInfo} {z : Value} (ht : P.underlying ty = some (.slice e)) (hu : ∃ e', P.underlying uy = some (.slice e')) (hi : P.info? e = some i) (hz : i.zero = some z) {base : Option Addr} {sLen sCap m : Nat}
  {x y : Value} {olds news : List Value} (hx : x = .slice base sLen sCap) (hfo : (Builtin.firstCells i.size sLen x).run P w.drew = .ok olds.toArray w.drew) (hl : (Builtin.lenOf y).run P w = .ok m w) (hf : (Builtin.firstCells i.size m y).run P w.drew = .ok news.toArray w.drew)
  (hg : sCap < sLen + m) (h63 : sLen + m ≤ 9223372036854775807) (hb : (sLen + m) * i.bytes ≤ 140737488355328) :
  (Builtin.append_ #[ty, uy] ty' #[x, y]).run P w =
   .ok (.slice (some ⟨w.heap.size, 0, none⟩) (sLen + m) (grownCap w (sLen + m) sCap e))
    (w.drew.alloc (.cells (olds ++ news ++ (Builtin.zeroCells z.cells (grownCap w (sLen + m) sCap e - (sLen + m))).toList).toArray e)) := by
 obtain ⟨e', hu⟩ := hu
 subst hx
 have hn : ¬ (sLen + m ≤ sCap) := by omega
 have h63' : ¬ (9223372036854775807 < ((sLen : Int) + (m : Int))) := by omega
 have h48' : ¬ (281474976710656 < Builtin.nextslicecap (sLen + m) sCap * i.bytes) := by have := growslice_fits hg hb; omega
 simp [Builtin.append_, run_underlying ht, run_underlying hu, sizeOf, typeInfo, zeroValue, hi, hz, hl, hn, h63', h48', Question.forced, hf, hfo, newRow, grownCap]
 congr 2
 apply Array.ext'
 simp
theorem src_ok {y : Value} {z : Nat} {ys : List (List D)} (hD : RepD G w y (.sl z ys)) : (Builtin.lenOf y).run P w = .ok ys.length w ∧ ∃ news : List Value, (∀ w', w'.heap = w.heap → (Builtin.firstCells z ys.length y).run P w' = .ok news.toArray w') ∧ news.length = ys.length * z ∧
  (∀ u ∈ news, u.oneCell' = true) ∧ ∀ (i : Nat) (row : List D), ys[i]? = some row → row.length = z ∧ ∀ (j : Nat) (x : D), row[j]? = some x → RepD G w (news.getD (i * z + j) undef) x := by
 rcases hD.sll with ⟨⟨a0, rfl⟩, rfl⟩ | ⟨b, oo, c, U, rfl, g1, g2, g3, g4, g5, g6⟩
 ·refine ⟨by simp [Builtin.lenOf], [], fun w' _ => by cases a0 <;> simp [Builtin.firstCells, loadCells, loadCellsFrom], by simp, by simp, by simp⟩
 ·by_cases hz : z = 0
  ·subst hz
   refine ⟨by simp [Builtin.lenOf], [], fun w' _ => by simp [Builtin.firstCells, loadCells, loadCellsFrom], by simp, by simp, fun i row hr => ⟨g4 i row hr, fun j x hx => ?_⟩⟩
   have := (List.getElem?_eq_some_iff.1 hx).1
   rw [g4 i row hr] at this
   omega
  ·have hzp : 0 < z := Nat.pos_of_ne_zero hz
   let f : Nat → Value := fun k => U (k / z) (k % z)
   have hcell : ∀ k, k < ys.length * z → w.cell? ⟨b, oo + k, none⟩ = some (f k) ∧ (f k).oneCell' = true := by
    intro k hk
    have hkz : k / z < ys.length := (Nat.div_lt_iff_lt_mul hzp).2 hk
    have hr := List.getElem?_eq_getElem hkz
    have hml : k % z < (ys[k / z]).length := by rw [g4 _ _ hr]; exact Nat.mod_lt _ hzp
    have hx := List.getElem?_eq_getElem hml
    have h5 := g5 _ _ _ _ hr hx
    have h6 := g6 _ _ _ _ hr hx
    have he : k / z * z + k % z = k := by rw [Nat.mul_comm]; exact Nat.div_add_mod k z
    rw [he] at h5
    exact ⟨h5, h6.one⟩
   refine ⟨by simp [Builtin.lenOf], (List.range (ys.length * z)).map f, fun w' hw' => ?_, by simp, fun u hu => ?_, fun i row hr => ⟨g4 i row hr, fun j x hx => ?_⟩⟩
   ·refine run_firstCells_some (P := P) w' z ys.length ⟨b, oo, none⟩ _ c _ (by simp) (fun j v hv => ?_)
    rw [add_off]
    simp only [List.getElem?_map, Option.map_eq_some_iff] at hv
    obtain ⟨j', hj', rfl⟩ := hv
    have hjl : j < ys.length * z := by
     have := (List.getElem?_eq_some_iff.1 hj').1
     simpa using this
    rw [List.getElem?_range hjl] at hj'
    cases hj'
    rw [World.cell?_of_block (w := w) (w' := w') (by rw [hw'])]
    exact (hcell j hjl).1
   ·simp only [List.mem_map, List.mem_range] at hu
    obtain ⟨k, hk, rfl⟩ := hu
    exact (hcell k hk).2
   ·have hil : i < ys.length := (List.getElem?_eq_some_iff.1 hr).1
    have hjl : j < z := by rw [← g4 i row hr]; exact (List.getElem?_eq_some_iff.1 hx).1
    have hlt : i * z + j < ys.length * z := by
     have : (i + 1) * z ≤ ys.length * z := Nat.mul_le_mul_right _ hil
     rw [Nat.add_mul] at this; omega
    have he : ((List.range (ys.length * z)).map f).getD (i * z + j) undef = U i j := by
     rw [List.getD_eq_getElem?_getD, List.getElem?_map, List.getElem?_range hlt]
     simp only [Option.map_some, Option.getD_some, f]
     rw [Nat.mul_comm i z, Nat.mul_add_div hzp, Nat.mul_add_mod, Nat.div_eq_of_lt hjl, Nat.mod_eq_of_lt hjl, Nat.add_zero]
    rw [he]
    exact g6 _ _ _ _ hr hx
theorem row_app {rs ys : List (List D)} {z : Nat} {olds news rest : List Value} (ho : olds.length = rs.length * z) (hn : news.length = ys.length * z)
  (h1 : ∀ (i : Nat) (row : List D), rs[i]? = some row → row.length = z ∧ ∀ (j : Nat) (x : D), row[j]? = some x → RepD G w (olds.getD (i * z + j) undef) x)
  (h2 : ∀ (i : Nat) (row : List D), ys[i]? = some row → row.length = z ∧ ∀ (j : Nat) (x : D), row[j]? = some x → RepD G w (news.getD (i * z + j) undef) x) :
  ∀ (i : Nat) (row : List D), (rs ++ ys)[i]? = some row → row.length = z ∧ ∀ (j : Nat) (x : D), row[j]? = some x → RepD G w ((olds ++ news ++ rest).toArray.getD (i * z + j) undef) x := by
 intro i row hr
 by_cases hi : i < rs.length
 ·rw [List.getElem?_append_left hi] at hr
  obtain ⟨hz, hx⟩ := h1 i row hr
  refine ⟨hz, fun j x hj => ?_⟩
  have hjl : j < z := by rw [← hz]; exact (List.getElem?_eq_some_iff.1 hj).1
  have hlt : i * z + j < olds.length := by
   have : (i + 1) * z ≤ rs.length * z := Nat.mul_le_mul_right _ hi
   rw [Nat.add_mul] at this; omega
  have := hx j x hj
  rw [List.getD_eq_getElem?_getD] at this
  rw [Array.getD_eq_getD_getElem?, List.getElem?_toArray, List.append_assoc, List.getElem?_append_left hlt]
  exact this
 ·rw [List.getElem?_append_right (by omega)] at hr
  obtain ⟨hz, hx⟩ := h2 _ row hr
  refine ⟨hz, fun j x hj => ?_⟩
  have hjl : j < z := by rw [← hz]; exact (List.getElem?_eq_some_iff.1 hj).1
  have hil : i - rs.length < ys.length := (List.getElem?_eq_some_iff.1 hr).1
  have hi2 : i * z = rs.length * z + (i - rs.length) * z := by rw [← Nat.add_mul]; congr 1; omega
  have hlt : (i - rs.length) * z + j < news.length := by
   have : (i - rs.length + 1) * z ≤ ys.length * z := Nat.mul_le_mul_right _ hil
   rw [Nat.add_mul] at this; omega
  have := hx j x hj
  rw [List.getD_eq_getElem?_getD] at this
  rw [Array.getD_eq_getD_getElem?, List.getElem?_toArray, List.append_assoc, List.getElem?_append_right (by omega), List.getElem?_append_left (by omega)]
  rw [show i * z + j - olds.length = (i - rs.length) * z + j by omega]
  exact this
theorem own_cells {hd : Value} {z : Nat} {rs : List (List D)} (hr : RepB G w ρ hd (.rows z rs)) : ∃ base cap, hd = .slice base rs.length cap ∧ rs.length ≤ cap ∧ ∃ olds : List Value, (∀ w', w'.heap = w.heap → (Builtin.firstCells z rs.length hd).run P w' = .ok olds.toArray w') ∧ olds.length = rs.length * z ∧
  ∀ (i : Nat) (row : List D), rs[i]? = some row → row.length = z ∧ ∀ (j : Nat) (x : D), row[j]? = some x → RepD G w (olds.getD (i * z + j) undef) x := by
 rcases hr with ⟨rfl, rfl⟩ | ⟨b, cap, arr, ty, rfl, h1, h2, h3, h4, h5⟩
 ·exact ⟨none, 0, rfl, by simp, [], fun w' _ => by simp [Builtin.firstCells], by simp, by simp⟩
 ·have hle : rs.length * z ≤ arr.size := by rw [h4]; exact Nat.mul_le_mul_right _ h2
  refine ⟨some ⟨b, 0, none⟩, cap, rfl, h2, arr.toList.take (rs.length * z), fun w' hw' => ?_, by simp; omega, fun i row hr => ⟨(h5 i row hr).1, fun j x hx => ?_⟩⟩
  ·refine run_firstCells_some (P := P) w' z rs.length ⟨b, 0, none⟩ _ cap _ (by simp; omega) (fun j v hv => ?_)
   rw [add_off, Nat.zero_add, World.cell?_of_block (w := w) (w' := w') (by rw [hw']), cell_arr h1]
   rw [List.getElem?_take] at hv
   split at hv
   ·simpa using hv
   ·cases hv
  ·have hil : i < rs.length := (List.getElem?_eq_some_iff.1 hr).1
   have hjl : j < z := by rw [← (h5 i row hr).1]; exact (List.getElem?_eq_some_iff.1 hx).1
   have hlt : i * z + j < rs.length * z := by
    have : (i + 1) * z ≤ rs.length * z := Nat.mul_le_mul_right _ hil
    rw [Nat.add_mul] at this; omega
   have := (h5 i row hr).2 j x hx
   rw [Array.getD_eq_getD_getElem?, ← Array.getElem?_toList] at this
   rw [List.getD_eq_getElem?_getD, List.getElem?_take, if_pos hlt]
   exact this
variable (S : Nat → List V → H → (Out → H → Prop) → Prop) (ow : Nat → Bool)
theorem nl_val {v : Value} {z : Nat} (h : Rep2 G w ρ v (.nl z)) : v = .slice none 0 0 := by
 cases h with | o h => cases h with | c h => cases h with | k h => cases h; rfl
theorem op_ap (hC : Conc E n G ρ t h a w) (hn : Nxt E n a o K nxt) {ty uy e e' t1 t2 : TypeId} {i : TypeInfo} {zs : List V} {x y : Operand} {ox oy : O} (ho : o.op = .call { callee := .builtin .append, args := #[x, y], argTypes := #[ty, uy] })
  (ht : P.underlying ty = some (.slice e)) (hu : P.underlying uy = some (.slice e')) (hi : P.info? e = some i) (hz : zer P e = some zs) (hzl : zs.length = i.size) (hx : opd P t1 x = some ox) (hy : opd P t2 y = some oy)
  (hk : opx S ow (.ap ox oy i.size i.bytes) t h K KP) : o.wp P a w nxt Q := by
 have hvx := nlv_ok hC hx
 have hvy := dv_ok (opd_ok hC hy)
 obtain ⟨i', z, hi', hz0, hzs, _, _⟩ := zer_ok (G := G) (w := w) (ρ := ρ) hz
 rw [hi] at hi'
 cases hi'
 have hue : ∃ e', P.underlying uy = some (.slice e') := ⟨e', hu⟩
 have hexec : ∀ {v' w'}, (Builtin.append_ #[ty, uy] o.type #[a.eval x, a.eval y]).run P w = .ok v' w' → (execOp a.eval o).run P w = .ok (.value v') w' := by
  intro v' w' hr
  simp [execOp, ho, resolve, invoke, builtin, hr]
 have hgrow : ∀ c : Obj, Grw w (w.drew.alloc c) := fun c => (Grw.drew w).trans (Grw.alloc w.drew c)
 have hzc : ∀ k, (Builtin.zeroCells z.cells k).size = k * i.size := by intro k; rw [size_zeroCells, hzs, hzl]
 have body : ∀ (xv : V), Rep2 G w ρ (a.eval x) xv → ∀ (ys : List (List D)), RepD G w (a.eval y) (.sl i.size ys) →
   (match xv with
    | .os id => (match get? h id with
     | some (.rows z'' rs) => (Nat.beq i.size z'' = true ∧ rs.length + ys.length ≤ 9223372036854775807 ∧ (rs.length + ys.length) * i.bytes ≤ 140737488355328) ∧
       K (.os id) (kilT id t) ((h.map (kilB id)).set id (.rows i.size (rs ++ ys)))
     | _ => False)
    | .nl _ => (ys.length ≤ 9223372036854775807 ∧ ys.length * i.bytes ≤ 140737488355328) ∧ K (.os h.length) t (h ++ [.rows i.size ys])
    | .cl z'' rs => (Nat.beq i.size z'' = true ∧ rs.length + ys.length ≤ 9223372036854775807 ∧ (rs.length + ys.length) * i.bytes ≤ 140737488355328) ∧ K (.d (.sl i.size (rs ++ ys))) t h
    | _ => False) → o.wp P a w nxt Q := by
  intro xv hvx ys hDy hk
  obtain ⟨hly, news, hfy, hnl, hn1, hnr⟩ := src_ok (P := P) hDy
  split at hk
  ·rename_i id
   rw [get?_eq] at hk
   split at hk
   ·rename_i z'' rs hrs
    obtain ⟨⟨hzz, hb1, hb2⟩, hk⟩ := hk
    obtain rfl := nbq hzz
    obtain ⟨ad, nn, c, hv, hρ⟩ := hvx.osl
    have hrep := hC.ok.hr.rep id _ _ hρ hrs
    obtain ⟨base, cap, hhd, hcap, olds, hfo, hol, hor⟩ := own_cells (P := P) hrep
    cases hhd
    have hidl : id < ρ.length := (List.getElem?_eq_some_iff.1 hρ).1
    by_cases hroom : rs.length + ys.length ≤ c
    ·skip
     rcases hrep with ⟨he, rfl⟩ | ⟨b, cap', arr, ty0, he, h1, h2, h3, h4, h5⟩
     ·cases he
      have hys : ys = [] := List.eq_nil_of_length_eq_zero (by simpa using hroom)
      subst hys
      have hnn : news = [] := List.eq_nil_of_length_eq_zero (by simpa using hnl)
      subst hnn
      have hr := run_ap_nil (ty' := o.type) ht hue hi (by simpa using hly) (by simpa using hfy w rfl)
      have hv' : a.eval x = .slice none 0 0 := hv
      rw [← hv'] at hr
      have hC' := hC.upd2 (w' := w) (v1 := .slice none 0 0) (x1 := .rows i.size []) hρ hrs (by simp) rfl (Nat.le_refl _) (fun _ _ _ => rfl) rfl rfl rfl (.inl ⟨rfl, rfl⟩) (fun b hb => .inl hb)
      refine wp_val (hexec hr) (hn _ _ _ _ _ _ _ hC' (.k (by rw [hv']; exact .os id none 0 0 (List.getElem?_set_self hidl))) (by simpa using hk))
     ·cases he
      have hr := run_ap_in (ty' := o.type) (w := w) (sLen := rs.length) (sCap := c) ht hue hi h1 hly (hfy w rfl) hn1 hroom (by
       rw [h4, hnl, ← Nat.add_mul]; exact Nat.mul_le_mul_right _ hroom)
      rw [← hv] at hr
      have holds : olds = arr.toList.take (rs.length * i.size) := by
       have h6 := hfo w rfl
       have h7 := run_firstCells_some (P := P) w i.size rs.length ⟨b, 0, none⟩ rs.length c (arr.toList.take (rs.length * i.size)) (by
        simp only [List.length_take, Array.length_toList, h4]; exact Nat.min_eq_left (Nat.mul_le_mul_right _ h2)) (fun j v hv => by
         rw [add_off, Nat.zero_add, cell_arr h1]
         rw [List.getElem?_take] at hv
         split at hv
         ·simpa using hv
         ·cases hv)
       rw [h7] at h6
       simp only [Result.ok.injEq, and_true] at h6
       simpa using h6.symm
      have hsame : ∀ k, k ≠ b → (w.setRow b (arr.toList.take (rs.length * i.size) ++ news ++ arr.toList.drop (rs.length * i.size + news.length)).toArray).heap[k]? = w.heap[k]? := fun k hk => setRow_other w b k _ hk
      have hGs : ∀ k, G k → (w.setRow b (arr.toList.take (rs.length * i.size) ++ news ++ arr.toList.drop (rs.length * i.size + news.length)).toArray).heap[k]? = w.heap[k]? := fun k hk => hsame k (fun e => by
       subst e; exact hC.ok.hr.gd k hk ⟨id, _, _, hρ, hrs, by simp, mem_bks.2 (.inl rfl)⟩)
      have hC' := hC.upd2 (w' := w.setRow b (arr.toList.take (rs.length * i.size) ++ news ++ arr.toList.drop (rs.length * i.size + news.length)).toArray) (v1 := .slice (some ⟨b, 0, none⟩) (rs.length + ys.length) c) (x1 := .rows i.size (rs ++ ys))
       hρ hrs (by simp) rfl (by simp) (fun k _ hk => hsame k (by simp only [blk, ne_eq, Option.some.injEq] at hk; omega)) rfl rfl rfl
       (.inr ⟨b, c, _, ty0, by simp, setRow_heap w b arr _ ty0 _ h1, by simpa using hroom, h3, by
        have h9 : (rs.length + ys.length) * i.size ≤ c * i.size := Nat.mul_le_mul_right _ hroom
        rw [Nat.add_mul] at h9
        simp only [List.size_toArray, List.length_append, List.length_take, List.length_drop, Array.length_toList, hnl]; omega, by
        have := row_app (rest := arr.toList.drop (rs.length * i.size + news.length)) hol hnl hor hnr
        rw [← holds]
        intro k row hr
        obtain ⟨e1, e2⟩ := this k row hr
        exact ⟨e1, fun j x hx => (e2 j x hx).mono (fun _ h => h) (by rw [holds]; exact hGs)⟩⟩) (fun k hk => .inl hk)
      refine wp_val (hexec hr) (hn _ _ _ _ _ _ _ hC' (.k (.os id _ _ _ (List.getElem?_set_self hidl))) hk)
    ·skip
     have hr := run_ap_new (ty' := o.type) (w := w) ht hue hi hz0 rfl (hfo w.drew rfl) hly (hfy w.drew rfl) (by omega) hb1 hb2
     rw [← hv] at hr
     have hge := grownCap_ge w (rs.length + ys.length) c e
     have hC' := hC.upd2 (w' := w.drew.alloc (.cells (olds ++ news ++ (Builtin.zeroCells z.cells (grownCap w (rs.length + ys.length) c e - (rs.length + ys.length))).toList).toArray e)) (v1 := .slice (some ⟨w.heap.size, 0, none⟩) (rs.length + ys.length) (grownCap w (rs.length + ys.length) c e)) (x1 := .rows i.size (rs ++ ys))
      hρ hrs (by simp) rfl (hgrow _).size (fun k hk _ => (hgrow _).old k hk) rfl rfl rfl
      (.inr ⟨w.heap.size, grownCap w (rs.length + ys.length) c e, (olds ++ news ++ (Builtin.zeroCells z.cells (grownCap w (rs.length + ys.length) c e - (rs.length + ys.length))).toList).toArray, e, by simp, heap_alloc_new w.drew _, by simpa using hge, grownCap_le_maxLen w _ _ e hb1, by
       simp only [List.size_toArray, List.length_append, Array.length_toList, hzc, hol, hnl, ← Nat.add_mul]
       congr 1; omega, by
       have := row_app (rest := (Builtin.zeroCells z.cells (grownCap w (rs.length + ys.length) c e - (rs.length + ys.length))).toList) hol hnl hor hnr
       intro k row hr
       obtain ⟨e1, e2⟩ := this k row hr
       exact ⟨e1, fun j x hx => (e2 j x hx).mono (fun _ h => h) (fun b hb => (hgrow _).old b (hC.ok.hr.gl b hb))⟩⟩) (fun k hk => by simp only [blk, Option.some.injEq] at hk; exact .inr (by omega))
     refine wp_val (hexec hr) (hn _ _ _ _ _ _ _ hC' (.k (.os id _ _ _ (List.getElem?_set_self hidl))) hk)
   ·exact hk.elim
  ·rename_i z0
   obtain ⟨⟨hb1, hb2⟩, hk⟩ := hk
   have hv : a.eval x = .slice none 0 0 := nl_val hvx
   by_cases hys : ys.length = 0
   ·have hys' : ys = [] := List.eq_nil_of_length_eq_zero hys
    subst hys'
    have hnn : news = [] := List.eq_nil_of_length_eq_zero (by simpa using hnl)
    subst hnn
    have hr := run_ap_nil (ty' := o.type) ht hue hi (by simpa using hly) (by simpa using hfy w rfl)
    have hC' := hC.push (Grw.refl w) (.slice none 0 0) (.rows i.size []) (by simp [blk]) (.inl ⟨rfl, rfl⟩)
    rw [← hv] at hr hC'
    refine wp_val (hexec hr) (hn _ _ _ _ _ _ _ hC' (.k ?_) hk)
    rw [hv]
    exact .os h.length none 0 0 (by rw [← hC.ok.hr.len]; simp)
   ·have hr := run_ap_new (ty' := o.type) (w := w) (sLen := 0) (sCap := 0) (olds := []) ht hue hi hz0 rfl (run_firstCells_none w.drew _ _ _ _) hly (hfy w.drew rfl) (by omega) (by omega) (by simpa using hb2)
    rw [← hv] at hr
    simp only [Nat.zero_add, List.nil_append] at hr
    have hge := grownCap_ge w ys.length 0 e
    have hC' := hC.push (hgrow (.cells (news ++ (Builtin.zeroCells z.cells (grownCap w ys.length 0 e - ys.length)).toList).toArray e)) (.slice (some ⟨w.heap.size, 0, none⟩) ys.length (grownCap w ys.length 0 e)) (.rows i.size ys)
     (fun b hb => by simp only [blk, Option.some.injEq] at hb; omega)
     (.inr ⟨w.heap.size, grownCap w ys.length 0 e, (news ++ (Builtin.zeroCells z.cells (grownCap w ys.length 0 e - ys.length)).toList).toArray, e, rfl, heap_alloc_new w.drew _, hge, grownCap_le_maxLen w _ _ e hb1, by
      simp only [List.size_toArray, List.length_append, Array.length_toList, hzc, hnl, ← Nat.add_mul]
      congr 1; omega, by
      have := row_app (G := G) (w := w) (rs := []) (olds := []) (rest := (Builtin.zeroCells z.cells (grownCap w ys.length 0 e - ys.length)).toList) (by simp) hnl (by simp) hnr
      intro k row hr
      obtain ⟨e1, e2⟩ := this k row (by simpa using hr)
      exact ⟨e1, fun j x hx => (e2 j x hx).mono (fun _ h => h) (fun b hb => (hgrow _).old b (hC.ok.hr.gl b hb))⟩⟩)
    refine wp_val (hexec hr) (hn _ _ _ _ _ _ _ hC' (.k (.os h.length _ _ _ ?_)) hk)
    rw [← hC.ok.hr.len]; simp
  ·rename_i z'' rs
   obtain ⟨⟨hzz, hb1, hb2⟩, hk⟩ := hk
   obtain rfl := nbq hzz
   obtain ⟨ad, nn, hv, hD⟩ := hvx.cll
   have hlen := hD.len
   obtain ⟨ad', c', he, _⟩ := hlen
   cases he
   obtain ⟨hlx, olds, hfx, hol, _, hor⟩ := src_ok (P := P) hD
   by_cases hys : ys.length = 0
   ·skip
    have hys' : ys = [] := List.eq_nil_of_length_eq_zero hys
    subst hys'
    have hnn : news = [] := List.eq_nil_of_length_eq_zero (by simpa using hnl)
    subst hnn
    have hr : (Builtin.append_ #[ty, uy] o.type #[.slice ad rs.length rs.length, a.eval y]).run P w = .ok (.slice ad rs.length rs.length) w := by
     have hfy0 := hfy w rfl
     simp only [List.length_nil] at hfy0 hly
     cases ad <;> simp [Builtin.append_, run_underlying ht, run_underlying hu, sizeOf, typeInfo, hi, hly, hfy0, storeCells]
    rw [← hv] at hr
    refine wp_quiet hC hn (hexec hr) (.d ?_) hk
    rw [hv, List.append_nil]
    exact hD
   ·have hr := run_ap_new (ty' := o.type) (w := w) ht hue hi hz0 rfl (hfx w.drew rfl) hly (hfy w.drew rfl) (by omega) hb1 hb2
    rw [← hv] at hr
    have hge := grownCap_ge w (rs.length + ys.length) rs.length e
    have hC' := hC.grow (w' := w.drew.alloc (.cells (olds ++ news ++ (Builtin.zeroCells z.cells (grownCap w (rs.length + ys.length) rs.length e - (rs.length + ys.length))).toList).toArray e)) (G' := fun b => G b ∨ b = w.heap.size) (hgrow _) (fun b hb => .inl hb) (fun b hb => by
     rcases hb with hb | rfl
     ·exact .inl hb
     ·exact .inr ⟨Nat.le_refl _, by simp, _, _, _, heap_alloc_new w.drew _⟩)
    refine wp_val (hexec hr) (hn _ _ _ _ _ _ _ hC' (.d ?_) hk)
    have hb : RepB G (w.drew.alloc (.cells (olds ++ news ++ (Builtin.zeroCells z.cells (grownCap w (rs.length + ys.length) rs.length e - (rs.length + ys.length))).toList).toArray e)) ρ (.slice (some ⟨w.heap.size, 0, none⟩) (rs.length + ys.length) (grownCap w (rs.length + ys.length) rs.length e)) (.rows i.size (rs ++ ys)) :=
     .inr ⟨w.heap.size, grownCap w (rs.length + ys.length) rs.length e, _, e, by simp, heap_alloc_new w.drew _, by simpa using hge, grownCap_le_maxLen w _ _ e hb1, by
      simp only [List.size_toArray, List.length_append, Array.length_toList, hzc, hol, hnl, ← Nat.add_mul]
      congr 1; omega, by
      have := row_app (rest := (Builtin.zeroCells z.cells (grownCap w (rs.length + ys.length) rs.length e - (rs.length + ys.length))).toList) hol hnl hor hnr
      intro k row hr
      obtain ⟨e1, e2⟩ := this k row hr
      exact ⟨e1, fun j x hx => (e2 j x hx).mono (fun _ h => h) (fun b hb => (hgrow _).old b (hC.ok.hr.gl b hb))⟩⟩
    exact hb.data.mono (fun b hb => by
     rcases hb with hb | hb
     ·exact .inl hb
     ·simp only [blk, Option.some.injEq] at hb; exact .inr hb.symm) (fun _ _ => rfl)
  ·exact hk.elim
 have fin : ∀ (z' : Nat) (ys : List (List D)), RepD G w (a.eval y) (.sl z' ys) →
   (match nlv t ox with
    | .os id => (match get? h id with
     | some (.rows z'' rs) => (Nat.beq i.size z'' = true ∧ Nat.beq i.size z' = true ∧ rs.length + ys.length ≤ 9223372036854775807 ∧ (rs.length + ys.length) * i.bytes ≤ 140737488355328) ∧
       flt (kilT id t) fun t => flb ((h.map (kilB id)).set id (.rows i.size (rs ++ ys))) fun h => K (.os id) t h
     | _ => False)
    | .nl _ => (Nat.beq i.size z' = true ∧ ys.length ≤ 9223372036854775807 ∧ ys.length * i.bytes ≤ 140737488355328) ∧ apn (fl (h ++ [.rows i.size ys]) fun h' => fnat h.length fun n => K (.os n) t h') (K (.d (.sl i.size ys)) t h)
    | .cl z'' rs => (Nat.beq i.size z'' = true ∧ Nat.beq i.size z' = true ∧ rs.length + ys.length ≤ 9223372036854775807 ∧ (rs.length + ys.length) * i.bytes ≤ 140737488355328) ∧ K (.d (.sl i.size (rs ++ ys))) t h
    | _ => False) → o.wp P a w nxt Q := by
  intro z' ys hD hk
  split at hk
  ·rename_i id hg
   split at hk
   ·rename_i h4
    simp only [flt_eq, flb_eq] at hk
    obtain rfl := nbq hk.1.2.1
    refine body (.os id) (hg ▸ hvx) ys hD ?_
    simp only [h4]
    exact ⟨⟨hk.1.1, hk.1.2.2.1, hk.1.2.2.2⟩, hk.2⟩
   ·exact hk.elim
  ·rename_i z0 hg
   simp only [fl_eq, fnat_eq] at hk
   obtain rfl := nbq hk.1.1
   have hk2 := hk.2
   unfold apn at hk2
   rcases hk2 with hk2 | hk2
   ·exact body (.nl z0) (hg ▸ hvx) ys hD ⟨hk.1.2, hk2⟩
   ·have hv : a.eval x = .slice none 0 0 := nl_val (hg ▸ hvx)
    exact body (.cl i.size []) (by rw [hv]; exact .o (.c (.k (.cl none 0 _ [] (.slz _))))) ys hD ⟨⟨Nat.beq_refl _, by simpa using hk.1.2.1, by simpa using hk.1.2.2⟩, by simpa using hk2⟩
  ·rename_i z'' rs hg
   obtain rfl := nbq hk.1.2.1
   exact body (.cl z'' rs) (hg ▸ hvx) ys hD ⟨⟨hk.1.1, hk.1.2.2.1, hk.1.2.2.2⟩, hk.2⟩
  ·exact hk.elim
 simp only [opx] at hk
 split at hk
 ·rename_i z' ys hg
  rw [hg] at hvy
  exact fin z' ys hvy.toD hk
 ·rename_i z' ys hg
  rw [hg] at hvy
  obtain ⟨ad, nn, hv, hD⟩ := hvy.cll
  exact fin z' ys (by rw [hv]; exact hD) hk
 ·exact hk.elim
end
end Go.Vx
