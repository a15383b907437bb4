/- Each small operation does in the model what it does to the picture: loads, stores, addresses, numbers. Conditions: none; lemmas on the definitions before. -/
import Derived.Test.YtoibcfioicdlhaaGreatDoorVxE
namespace Go.Vx
section
variable {P : Program} {E : Ent} {n : Nat} {G : Nat → Prop} {ρ : List Value} {t : T} {h : H} {a : Act} {w : World} {o : Oper} {nxt : Act → World → Prop} {Q : Exit → Act → World → Prop} {K KP : V → T → H → Prop}

theorem run_isAgg {ty : TypeId} {b : Bool} (hb : isAg P ty = some b) : (isAgg ty).run P w = .ok b w := by
  simp only [isAg, Option.map_eq_some_iff] at hb
  obtain ⟨d, hd, rfl⟩ := hb
  simp only [isAgg, Sem.run_bind, run_underlying hd, Result.andThen_ok]
  cases d <;> rfl

theorem ldn_none {ty : TypeId} (hl : ldn P ty = some none) (ad : Addr) : (loadVar ty ad).run P w = (load ad).run P w := by
  simp only [ldn, Option.bind_eq_bind, Option.bind_eq_some_iff] at hl
  obtain ⟨i, hi, b, hb, hx⟩ := hl
  cases b
  · simp [loadVar, run_isAgg hb]
  · simp at hx

theorem ldn_some {ty : TypeId} {k : Nat} (hl : ldn P ty = some (some k)) (ad : Addr) (cs : List Value) (hk : cs.length = k) (hc : ∀ (j : Nat) (v : Value), cs[j]? = some v → w.cell? (ad.add j) = some v) :
    (loadVar ty ad).run P w = .ok (.agg cs.toArray) w := by
  simp only [ldn, Option.bind_eq_bind, Option.bind_eq_some_iff] at hl
  obtain ⟨i, hi, b, hb, hx⟩ := hl
  cases b
  · simp at hx
  · simp at hx
    subst hx
    have := run_loadCells_list (P := P) w ad cs hc
    rw [hk] at this
    simp [loadVar, run_isAgg hb, sizeOf, typeInfo, hi, this]

theorem add_off (b off j : Nat) : (⟨b, off, none⟩ : Addr).add j = ⟨b, off + j, none⟩ := by
  unfold Addr.add; split <;> simp_all

theorem cell_arr {b off : Nat} {arr : Array Value} {ty : TypeId} (hw : w.heap[b]? = some (.cells arr ty (0, 0))) : w.cell? ⟨b, off, none⟩ = arr[off]? := by
  simp [World.cell?, hw]

/-- A whole struct out of known cells. -/
theorem ld_agg (hC : Conc E n G ρ t h a w) (hn : Nxt E n a o K nxt) {ty : TypeId} {x : Operand} {b off k : Nat} {U : Nat → Value} {vs : List V} (ho : o.op = .load ty x) (hp : a.eval x = .pointer (some ⟨b, off, none⟩)) (hl : ldn P ty = some (some k))
    (hlen : vs.length = k) (hU : ∀ (j : Nat) (y : V), vs[j]? = some y → w.cell? ⟨b, off + j, none⟩ = some (U j) ∧ RepC G w ρ (U j) y) (hk : K (.ag vs) t h) : o.wp P a w nxt Q := by
  have hrun : (loadVar ty ⟨b, off, none⟩).run P w = .ok (.agg ((List.range vs.length).map U).toArray) w := by
    refine ldn_some hl _ _ (by simpa using hlen) (fun j v hv => ?_)
    rw [add_off]
    simp only [List.getElem?_map, Option.map_eq_some_iff] at hv
    obtain ⟨j', hj', rfl⟩ := hv
    have hjl : j < vs.length := by
      have := (List.getElem?_eq_some_iff.1 hj').1
      simpa using this
    rw [List.getElem?_range hjl] at hj'
    cases hj'
    exact (hU j _ (List.getElem?_eq_getElem hjl)).1
  refine wp_quiet hC hn (v' := .agg ((List.range vs.length).map U).toArray) ?_ (.o (.ag _ vs (by simp) (fun i y hi => ?_))) hk
  · simp [execOp, ho, hp, Instr.loadAt, Instr.sureAddr, hrun]
  · have hil : i < vs.length := (List.getElem?_eq_some_iff.1 hi).1
    simpa [Array.getD_eq_getD_getElem?, hil] using (hU i y hi).2

theorem ld_one (hC : Conc E n G ρ t h a w) (hn : Nxt E n a o K nxt) {ty : TypeId} {x : Operand} {ad : Addr} {v' : Value} {v : V} (ho : o.op = .load ty x) (hp : a.eval x = .pointer (some ad)) (hl : ldn P ty = some none)
    (hc : w.cell? ad = some v') (hv : RepC G w ρ v' v) (hk : K v t h) : o.wp P a w nxt Q := by
  refine wp_quiet hC hn (v' := v') ?_ (.c hv) hk
  simp [execOp, ho, hp, Instr.loadAt, Instr.sureAddr, ldn_none hl, hc]

theorem nbq {i j : Nat} (h : Nat.beq i j = true) : i = j := Nat.eq_of_beq_eq_true h

theorem rows_cell {hd : Value} {z : Nat} {rs : List (List D)} (hr : RepB G w ρ hd (.rows z rs)) {i : Nat} {row : List D} (hi : rs[i]? = some row) :
    ∃ b cap arr ty, hd = .slice (some ⟨b, 0, none⟩) rs.length cap ∧ w.heap[b]? = some (.cells arr ty (0, 0)) ∧ row.length = z ∧ i * z + z ≤ arr.size ∧
      ∀ (j : Nat) (x : D), row[j]? = some x → w.cell? ⟨b, i * z + j, none⟩ = some (arr.getD (i * z + j) undef) ∧ RepD G w (arr.getD (i * z + j) undef) x := by
  rcases hr with ⟨_, rfl⟩ | ⟨b, cap, arr, ty, rfl, h1, h2, h3, h4, h5⟩
  · simp at hi
  · obtain ⟨hz, hx⟩ := h5 i row hi
    have hil : i < rs.length := (List.getElem?_eq_some_iff.1 hi).1
    have hle : i * z + z ≤ arr.size := by
      rw [h4]
      have : (i + 1) * z ≤ cap * z := Nat.mul_le_mul_right _ (by omega)
      rw [Nat.add_mul] at this
      omega
    refine ⟨b, cap, arr, ty, rfl, h1, hz, hle, fun j x hj => ⟨?_, hx j x hj⟩⟩
    have hjl : j < row.length := (List.getElem?_eq_some_iff.1 hj).1
    rw [cell_arr h1, Array.getD_eq_getD_getElem?, Array.getElem?_eq_getElem (by omega)]
    rfl

section
variable (S : Nat → List V → H → (Out → H → Prop) → Prop) (ow : Nat → Bool)

theorem op_ld (hC : Conc E n G ρ t h a w) (hn : Nxt E n a o K nxt) {ty t1 : TypeId} {x : Operand} {ox : O} {m : Option Nat} (ho : o.op = .load ty x) (hx : opd P t1 x = some ox) (hl : ldn P ty = some m)
    (hk : opx S ow (.ld ox m) t h K KP) : o.wp P a w nxt Q := by
  have hv := opd_ok hC hx
  simp only [opx] at hk
  split at hk
  · -- a block of one's own
    rename_i id off hg
    rw [hg] at hv
    obtain ⟨b, hp, hρ⟩ := hv.pt
    rw [get?_eq] at hk
    split at hk
    · rename_i cs hcs
      obtain ⟨b', arr, ty', hb, h1, h2, h3⟩ := hC.ok.hr.rep id _ _ hρ hcs
      simp only [Value.pointer.injEq, Option.some.injEq, Addr.mk.injEq, and_true] at hb
      obtain ⟨rfl, _⟩ := hb
      cases m with
      | none =>
        simp only [get?_eq] at hk
        split at hk
        · rename_i v hvv
          have hol : off < arr.size := by rw [h2]; exact (List.getElem?_eq_some_iff.1 hvv).1
          refine ld_one hC hn ho hp hl (v' := arr[off]) (by rw [cell_arr h1]; exact Array.getElem?_eq_getElem hol) ?_ hk
          have := h3 off v hvv
          simpa [Array.getD_eq_getD_getElem?, hol] using this
        · exact hk.elim
      | some k =>
        simp only [fl_eq] at hk
        have hlen := nbq hk.1
        refine ld_agg hC hn ho hp hl (U := fun j => arr.getD (off + j) undef) hlen (fun j y hy => ?_) hk.2
        have hj : j < k := by rw [← hlen]; exact (List.getElem?_eq_some_iff.1 hy).1
        rw [List.getElem?_take, if_pos hj, List.getElem?_drop] at hy
        have hol : off + j < arr.size := by rw [h2]; exact (List.getElem?_eq_some_iff.1 hy).1
        refine ⟨?_, h3 (off + j) y hy⟩
        rw [cell_arr h1, Array.getD_eq_getD_getElem?, Array.getElem?_eq_getElem hol]; rfl
    · exact hk.elim
  · -- data
    rename_i row off hg
    rw [hg] at hv
    obtain ⟨b, oo, U, hp, hGb, hU, hD⟩ := hv.el
    cases m with
    | none =>
      simp only [get?_eq] at hk
      split at hk
      · rename_i v hvv
        exact ld_one hC hn ho hp hl (hU off v hvv) (.k (.d (hD off v hvv))) hk
      · exact hk.elim
    | some k =>
      simp only [fl_eq] at hk
      have hlen := nbq hk.1
      refine ld_agg hC hn ho hp hl (U := fun j => U (off + j)) hlen (fun j y hy => ?_) hk.2
      have hj : j < k := by rw [← hlen]; exact (List.getElem?_eq_some_iff.1 hy).1
      rw [List.getElem?_map, List.getElem?_take, if_pos hj, List.getElem?_drop] at hy
      cases hr : row[off + j]? with
      | none => rw [hr] at hy; cases hy
      | some y0 =>
        rw [hr] at hy; cases hy
        exact ⟨by rw [Nat.add_assoc]; exact hU _ _ hr, .k (.d (hD _ _ hr))⟩
  · -- an owned slice
    rename_i id z i off hg
    rw [hg] at hv
    obtain ⟨b, nn, c, hp, hρ⟩ := hv.ql
    rw [get?_eq] at hk
    split at hk
    · rename_i z' rs hrs
      obtain ⟨hz, row, hrow, hk⟩ := hk
      obtain rfl := nbq hz
      obtain ⟨b', cap, arr, ty', hb, h1, h2, hle, h3⟩ := rows_cell (hC.ok.hr.rep id _ _ hρ hrs) hrow
      simp only [Value.slice.injEq, Option.some.injEq, Addr.mk.injEq, and_true] at hb
      obtain ⟨rfl, _, _⟩ := hb
      cases m with
      | none =>
        simp only [get?_eq] at hk
        split at hk
        · rename_i v hvv
          exact ld_one hC hn ho hp hl (h3 off v hvv).1 (.k (.d (h3 off v hvv).2)) hk
        · exact hk.elim
      | some k =>
        simp only [fl_eq] at hk
        have hlen := nbq hk.1
        refine ld_agg hC hn ho hp hl (U := fun j => arr.getD (i * z + (off + j)) undef) hlen (fun j y hy => ?_) hk.2
        have hj : j < k := by rw [← hlen]; exact (List.getElem?_eq_some_iff.1 hy).1
        rw [List.getElem?_map, List.getElem?_take, if_pos hj, List.getElem?_drop] at hy
        cases hr : row[off + j]? with
        | none => rw [hr] at hy; cases hy
        | some y0 =>
          rw [hr] at hy; cases hy
          exact ⟨by rw [Nat.add_assoc]; exact (h3 _ _ hr).1, .k (.d (h3 _ _ hr).2)⟩
    · exact hk.elim
  · exact hk.elim

theorem op_fa (hC : Conc E n G ρ t h a w) (hn : Nxt E n a o K nxt) {ty t1 : TypeId} {x : Operand} {f : Nat} {fs : Array Field} {fd : Field} {ox : O} (ho : o.op = .fieldAddr ty x f) (hu : P.underlying ty = some (.struct fs)) (hf : fs[f]? = some fd)
    (hz : P.cellsOf fd.type ≠ 0) (hx : opd P t1 x = some ox) (hk : opx S ow (.fa ox fd.offset) t h K KP) : o.wp P a w nxt Q := by
  have hv := opd_ok hC hx
  have hrun : ∀ ad : Addr, a.eval x = .pointer (some ad) → (execOp a.eval o).run P w = .ok (.value (.pointer (some (ad.add fd.offset)))) w := by
    intro ad had
    unfold Program.cellsOf at hz
    cases hi : P.info? fd.type with
    | none => rw [hi] at hz; simp at hz
    | some i =>
      rw [hi] at hz
      simp at hz
      simp [execOp, ho, had, Instr.fieldAt, run_underlying hu, hf, Instr.sureAddr, fieldPlace, sizeOf, typeInfo, hi, hz]
  simp only [opx] at hk
  split at hk
  · rename_i id off hg
    rw [hg] at hv
    obtain ⟨b, hp, hρ⟩ := hv.pt
    rw [fnat_eq] at hk
    refine wp_quiet hC hn (hrun _ hp) ?_ hk
    rw [add_off]
    exact .k (.p id _ b hρ)
  · rename_i row off hg
    rw [hg] at hv
    obtain ⟨b, oo, U, hp, hGb, hU, hD⟩ := hv.el
    rw [fnat_eq] at hk
    refine wp_quiet hC hn (hrun _ hp) ?_ hk
    rw [add_off, Nat.add_assoc]
    exact .k (.e b oo _ row U hGb hU hD)
  · rename_i id z i off hg
    rw [hg] at hv
    obtain ⟨b, nn, c, hp, hρ⟩ := hv.ql
    rw [fnat_eq] at hk
    refine wp_quiet hC hn (hrun _ hp) ?_ hk
    rw [add_off, Nat.add_assoc]
    exact .k (.q id z i _ b nn c hρ)
  · exact hk.elim

theorem op_ia (hC : Conc E n G ρ t h a w) (hn : Nxt E n a o K nxt) {ty e t1 t2 : TypeId} {x i : Operand} {ox oi : O} (ho : o.op = .indexAddr ty x i) (hu : P.underlying ty = some (.slice e)) (hc0 : P.cellsOf e ≠ 0) (hx : opd P t1 x = some ox) (hi : opd P t2 i = some oi)
    (hk : opx S ow (.ia ox oi (P.cellsOf e)) t h K KP) : o.wp P a w nxt Q := by
  have hvx := opd_ok hC hx
  have hvi := opd_ok hC hi
  have hrun : ∀ (b off len cap : Nat) (k : IntKind) (m : Int), a.eval x = .slice (some ⟨b, off, none⟩) len cap → a.eval i = .int k m → 0 ≤ m → m < len →
      (execOp a.eval o).run P w = .ok (.value (.pointer (some ⟨b, off + m.toNat * P.cellsOf e, none⟩))) w := by
    intro b off len cap k m h1 h2 h3 h4
    unfold Program.cellsOf at hc0 ⊢
    cases hie : P.info? e with
    | none => rw [hie] at hc0; simp at hc0
    | some ie =>
      simp [execOp, ho, h1, h2, Instr.indexAt, asIntOf, run_underlying hu, h3, h4, sizeOf, typeInfo, hie, add_off]
  simp only [opx] at hk
  split at hk
  · rename_i k m hgi
    rw [hgi] at hvi
    have hei := hvi.int
    have data : ∀ (z' : Nat) (rows : List (List D)), RepD G w (a.eval x) (.sl z' rows) → (∃ row, (0 ≤ m ∧ rows[m.toNat]? = some row ∧ Nat.beq z' (P.cellsOf e) = true) ∧ K (.e row 0) t h) → o.wp P a w nxt Q := by
      rintro z' rows hD ⟨row, ⟨h0, hr, hz⟩, hk⟩
      obtain rfl := nbq hz
      have hlt : m.toNat < rows.length := (List.getElem?_eq_some_iff.1 hr).1
      rcases hD.sll with ⟨_, rfl⟩ | ⟨b, oo, cap, U, hv, g1, g2, g3, g4, g5, g6⟩
      · simp at hlt
      · refine wp_quiet hC hn (hrun b oo rows.length cap k m hv hei h0 (by omega)) ?_ hk
        exact .k (.e b (oo + m.toNat * P.cellsOf e) 0 row (fun j => U m.toNat j) g3 (fun j x hj => by rw [Nat.add_assoc]; exact g5 _ _ _ _ hr hj) (fun j x hj => g6 _ _ _ _ hr hj))
    split at hk
    · rename_i z' rows hgx
      rw [hgx] at hvx
      exact data z' rows hvx.toD hk
    · rename_i z' rows hgx
      rw [hgx] at hvx
      obtain ⟨ad, nn, hv, hD⟩ := hvx.cll
      rw [← hv] at hD
      exact data z' rows hD hk
    · rename_i id hgx
      rw [hgx] at hvx
      obtain ⟨ad, nn, c, hv, hρ⟩ := hvx.osl
      rw [get?_eq] at hk
      split at hk
      · rename_i z' rs hrs
        obtain ⟨⟨h0, hlt, hz⟩, hk⟩ := hk
        obtain rfl := nbq hz
        have hlt' : m.toNat < rs.length := by omega
        obtain ⟨b', cap, arr, ty', hb, h1, h2, hle, h3⟩ := rows_cell (hC.ok.hr.rep id _ _ hρ hrs) (List.getElem?_eq_getElem hlt')
        simp only [Value.slice.injEq] at hb
        obtain ⟨rfl, rfl, rfl⟩ := hb
        refine wp_quiet hC hn (hrun b' 0 rs.length c k m hv hei h0 hlt) ?_ hk
        rw [Nat.zero_add]
        exact .k (.q id _ _ 0 b' _ _ hρ)
      · exact hk.elim
    · exact hk.elim
  · exact hk.elim
end
end
end Go.Vx
