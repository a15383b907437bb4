/- Each small operation does in the model what it does to the picture: stores, numbers, functions, slices of slices. Conditions: none; lemmas on the definitions before. -/
import Derived.Test.YtoibcfioicdlhaaGreatDoorVxF
namespace Go.Vx

theorem lay_len {α : Type} : ∀ (cs : List α) (off : Nat) (vs : List α), (lay cs off vs).length = cs.length
  | cs, 0, [] => by cases cs <;> rfl
  | _ :: r, 0, v :: vs => by simp [lay, lay_len r 0 vs]
  | [], 0, _ :: _ => rfl
  | [], _ + 1, _ => rfl
  | c :: r, n + 1, vs => by simp [lay, lay_len r n vs]

theorem lay_get {α : Type} : ∀ (cs : List α) (off : Nat) (vs : List α) (i : Nat), (lay cs off vs)[i]? = if i < off then cs[i]? else if i - off < vs.length ∧ i < cs.length then vs[i - off]? else cs[i]?
  | cs, 0, [], i => by cases cs <;> simp [lay]
  | c :: r, 0, v :: vs, i => by
    cases i with
    | zero => simp [lay]
    | succ i =>
      have := lay_get r 0 vs i
      simp only [lay, List.getElem?_cons_succ, this]
      simp
  | [], 0, _ :: _, i => by simp [lay]
  | [], n + 1, _, i => by simp [lay]
  | c :: r, n + 1, vs, i => by
    cases i with
    | zero => simp [lay]
    | succ i =>
      have := lay_get r n vs i
      simp only [lay, List.getElem?_cons_succ, this]
      simp [Nat.add_lt_add_iff_right]

theorem set_self {α : Type} {l : List α} {i : Nat} {x : α} (h : l[i]? = some x) : l.set i x = l := by
  apply List.ext_getElem?
  intro j
  rw [List.getElem?_set]
  split
  · rename_i hj; subst hj
    split
    · exact h.symm
    · rename_i hn; rw [List.getElem?_eq_none (by omega)]
  · rfl

section
variable {E : Ent} {G : Nat → Prop} {w w' : World} {ρ : List Value} {h : H} {n : Nat} {t : T} {a : Act}

/-- A block of one's own is written in place. -/
theorem Conc.upd1 (hC : Conc E n G ρ t h a w) {id : Nat} {v0 : Value} {x0 x1 : B} (hv : ρ[id]? = some v0) (hx : h[id]? = some x0) (hn : x0 ≠ .no) (hs : w'.heap.size = w.heap.size)
    (same : ∀ b, blk v0 ≠ some b → w'.heap[b]? = w.heap[b]?) (ho : w'.os = w.os) (ht : w'.tape = w.tape) (hou : w'.output = w.output)
    (new : RepB G w' ρ v0 x1) : Conc E n G ρ t (h.set id x1) a w' := by
  have hset := set_self hv
  have hO := hC.ok.upd (v1 := v0) (x1 := x1) (w' := w') hv hx hn (by omega) (fun b _ hb => same b hb) ho ht hou (by rw [hset]; exact new) (fun b hb => .inl hb) (fun _ => rfl) h rfl
    (fun j y hy hj => ⟨y, hy, Iff.rfl, fun v hv' hr => by rw [hset]; exact hr⟩)
  rw [hset] at hO
  refine ⟨hO, hC.df, hC.sz, fun i => (hC.tm i).mono (fun _ h => h) (fun b hb => same b (fun e => hC.ok.hr.gd b hb ⟨id, v0, x0, hv, hx, hn, e⟩)) (fun _ _ => rfl)⟩

/-- An owned slice has gone elsewhere, or grown. -/
theorem Conc.upd2 (hC : Conc E n G ρ t h a w) {id : Nat} {v0 v1 : Value} {x0 x1 : B} (hv : ρ[id]? = some v0) (hx : h[id]? = some x0) (hn : x0 ≠ .no) (hsl : isSl v0 = true) (hs : w.heap.size ≤ w'.heap.size)
    (same : ∀ b, b < w.heap.size → blk v0 ≠ some b → w'.heap[b]? = w.heap[b]?) (ho : w'.os = w.os) (ht : w'.tape = w.tape) (hou : w'.output = w.output)
    (new : RepB G w' (ρ.set id v1) v1 x1) (hb1 : ∀ b, blk v1 = some b → blk v0 = some b ∨ w.heap.size ≤ b) :
    Conc E n G (ρ.set id v1) (kilT id t) ((h.map (kilB id)).set id x1) a w' := by
  have hO := hC.ok.upd (v1 := v1) (x1 := x1) (w' := w') hv hx hn hs same ho ht hou new hb1 (fun e => by rw [hsl] at e; cases e) (h.map (kilB id)) (by simp)
    (fun j y hy hj => by
      rw [List.getElem?_map] at hy
      cases hj' : h[j]? with
      | none => rw [hj'] at hy; cases hy
      | some y0 =>
        rw [hj'] at hy; cases hy
        exact ⟨y0, rfl, by cases y0 <;> simp [kilB], fun v hv' hr => hr.kil hv hsl⟩)
  refine ⟨hO, hC.df, hC.sz, fun i => ?_⟩
  rw [kilT, gs_map _ rfl]
  exact ((hC.tm i).kil (v1 := v1) hv hsl).mono (fun _ h => h) (fun b hb => same b (hC.ok.hr.gl b hb) (fun e => hC.ok.hr.gd b hb ⟨id, v0, x0, hv, hx, hn, e⟩)) (fun _ _ => rfl)

/-- Cells that come to be data. -/
theorem frz_ok {K : List D → T → H → Prop} : ∀ (vs : List V) (G : Nat → Prop) (t : T) (h : H) (U : Nat → Value), Conc E n G ρ t h a w → (∀ (i : Nat) (x : V), vs[i]? = some x → RepC G w ρ (U i) x) → frz vs t h K →
    ∃ (G' : Nat → Prop) (t' : T) (h' : H) (ds : List D), Conc E n G' ρ t' h' a w ∧ (∀ b, G b → G' b) ∧ ds.length = vs.length ∧ (∀ (i : Nat) (d : D), ds[i]? = some d → RepD G' w (U i) d) ∧ K ds t' h' := by
  intro vs
  induction vs generalizing K with
  | nil => intro G t h U hC _ hk; exact ⟨G, t, h, [], hC, fun _ h => h, rfl, by simp, hk⟩
  | cons v vs ih =>
    intro G t h U hC hU hk
    have hv := hU 0 v rfl
    have go : ∀ (d : D) (G1 : Nat → Prop) (t1 : T) (h1 : H), Conc E n G1 ρ t1 h1 a w → (∀ b, G b → G1 b) → RepD G1 w (U 0) d → frz vs t1 h1 (fun xs t h => K (d :: xs) t h) →
        ∃ (G' : Nat → Prop) (t' : T) (h' : H) (ds : List D), Conc E n G' ρ t' h' a w ∧ (∀ b, G b → G' b) ∧ ds.length = (v :: vs).length ∧ (∀ (i : Nat) (d : D), ds[i]? = some d → RepD G' w (U i) d) ∧ K ds t' h' := by
      intro d G1 t1 h1 hC1 hG1 hd hk1
      obtain ⟨G', t', h', ds, g1, g2, g3, g4, g5⟩ := ih G1 t1 h1 (fun i => U (i + 1)) hC1 (fun i x hi => (hU (i + 1) x (by simpa using hi)).mono hG1 (fun _ _ => rfl) (fun _ _ => rfl)) hk1
      refine ⟨G', t', h', d :: ds, g1, fun b hb => g2 b (hG1 b hb), by simp [g3], fun i y hi => ?_, g5⟩
      cases i with
      | zero => simp at hi; subst hi; exact hd.mono g2 (fun _ _ => rfl)
      | succ i => exact g4 i y (by simpa using hi)
    cases v with
    | d x =>
      exact go x G t h hC (fun _ h => h) (Rep2.c hv).toD hk
    | cl z rs =>
      have : RepD G w (U 0) (.sl z rs) := by
        have := (Rep2.c hv).cll
        obtain ⟨a', n', h1, h2⟩ := this
        rw [h1]; exact h2
      exact go _ G t h hC (fun _ h => h) this hk
    | fc f caps =>
      cases caps with
      | nil =>
        have : RepD G w (U 0) (.fn f) := by
          obtain ⟨cs, h1, h2, _⟩ := (Rep2.c hv).fcl
          rw [fcv_nil h1 (by simpa using h2)]
          exact .fn f
        exact go _ G t h hC (fun _ h => h) this hk
      | cons c cs => exact hk.elim
    | os id =>
      simp only [frz_cons, frz1, get?_eq] at hk
      split at hk
      · rename_i z rs hx
        simp only [fl_eq] at hk
        obtain ⟨v0, hv0, hd, hC'⟩ := hC.free hx
        obtain ⟨a', n', c', h1, h2⟩ := (Rep2.c hv).osl
        rw [hv0] at h2
        cases h2
        rw [← h1] at hd hC'
        exact go _ _ _ _ hC' (fun b hb => .inl hb) hd hk
      · exact hk.elim
    | un | ud | ag _ | tu _ | p _ _ | e _ _ | q _ _ _ _ | nl _ | mp _ | ov _ _ _ => exact hk.elim
end

section
variable {P : Program} {E : Ent} {n : Nat} {G : Nat → Prop} {ρ : List Value} {t : T} {h : H} {a : Act} {w : World} {o : Oper} {nxt : Act → World → Prop} {Q : Exit → Act → World → Prop} {K KP : V → T → H → Prop}
variable (S : Nat → List V → H → (Out → H → Prop) → Prop) (ow : Nat → Bool)

/-- Cells in a row are written. -/
theorem run_st {ty ty' : TypeId} {b off m : Nat} {arr : Array Value} {v : Value} (hb : w.heap[b]? = some (.cells arr ty' (0, 0))) (hm : (P.info? ty).map (·.size) = some m) (hs : v.cells.size = m) (hle : off + m ≤ arr.size) (h1 : ∀ u ∈ v.cells.toList, u.oneCell' = true) :
    (storeVar ty ⟨b, off, none⟩ v).run P w = .ok () (w.setRow b (arr.toList.take off ++ v.cells.toList ++ arr.toList.drop (off + m)).toArray) := by
  cases hi : P.info? ty with
  | none => rw [hi] at hm; cases hm
  | some i =>
    rw [hi] at hm
    simp at hm
    have := run_storeCells_at (P := P) b off ty' v.cells.toList 0 arr w hb (by simp; omega) h1
    simp only [Nat.add_zero, Array.length_toList, hs] at this
    simp [storeVar, sizeOf, typeInfo, hi, hm, hs, this]

theorem row_get {arr : Array Value} {off m : Nat} {us : List Value} (hm : us.length = m) (hle : off + m ≤ arr.size) (i : Nat) : (arr.toList.take off ++ us ++ arr.toList.drop (off + m)).toArray.getD i undef = if off ≤ i ∧ i < off + m then us.getD (i - off) undef else arr.getD i undef := by
  simp only [Array.getD_eq_getD_getElem?, List.getElem?_toArray, List.getD_eq_getElem?_getD]
  by_cases h1 : i < off
  · rw [List.append_assoc, List.getElem?_append_left (by simp; omega), List.getElem?_take, if_pos h1, if_neg (by omega)]
    simp
  · by_cases h2 : i < off + m
    · rw [List.append_assoc, List.getElem?_append_right (by simp; omega), List.getElem?_append_left (by simp; omega), if_pos (by omega)]
      simp [Nat.min_eq_left (by omega : off ≤ arr.size)]
    · rw [List.getElem?_append_right (by simp; omega), if_neg (by omega)]
      simp only [List.length_append, List.length_take, Array.length_toList, List.getElem?_drop, hm, Nat.min_eq_left (by omega : off ≤ arr.size)]
      rw [show off + m + (i - (off + m)) = i by omega]
      simp

theorem op_st (hC : Conc E n G ρ t h a w) (hn : Nxt E n a o K nxt) {ty t1 t2 : TypeId} {x v : Operand} {ox ov : O} {m : Nat} (ho : o.op = .store ty x v) (hx : opd P t1 x = some ox) (hv : opd P t2 v = some ov) (hm : (P.info? ty).map (·.size) = some m)
    (hk : opx S ow (.st ox ov m) t h K KP) : o.wp P a w nxt Q := by
  have hvx := opd_ok hC hx
  have hvv := opd_ok hC hv
  simp only [opx] at hk
  split at hk
  · rename_i id off hg
    rw [hg] at hvx
    obtain ⟨b, hp, hρ⟩ := hvx.pt
    rw [get?_eq] at hk
    split at hk
    · rename_i cs hcs
      simp only [fl_eq] at hk
      obtain ⟨⟨hl, hle, hst⟩, hk⟩ := hk
      have hl := nbq hl
      have hle := Nat.le_of_ble_eq_true hle
      obtain ⟨c1, c2⟩ := cells_ok hvv hst
      obtain ⟨b', arr, ty', hb, h1, h2, h3⟩ := hC.ok.hr.rep id _ _ hρ hcs
      simp only [Value.pointer.injEq, Option.some.injEq, Addr.mk.injEq, and_true] at hb
      obtain ⟨rfl, _⟩ := hb
      have hone : ∀ u ∈ (a.eval v).cells.toList, u.oneCell' = true := by
        intro u hu
        obtain ⟨j, hj⟩ := List.mem_iff_getElem?.1 hu
        have hjl : j < (gv t ov).cs.length := by
          have := (List.getElem?_eq_some_iff.1 hj).1
          simp [c1] at this; exact this
        have hr := c2 j _ (List.getElem?_eq_getElem hjl)
        have he : (a.eval v).cells.getD j undef = u := by
          rw [Array.getD_eq_getD_getElem?, ← Array.getElem?_toList, hj]; rfl
        rw [he] at hr
        exact one_ok hr (List.all_eq_true.1 hst _ (List.getElem_mem hjl))
      have hrun := run_st (P := P) (ty := ty) (off := off) (v := a.eval v) h1 hm (by rw [c1, hl]) (by omega) hone
      have hlt : b < w.heap.size := (Array.getElem?_eq_some_iff.1 h1).1
      have hC' := hC.upd1 (w' := w.setRow b (arr.toList.take off ++ (a.eval v).cells.toList ++ arr.toList.drop (off + m)).toArray) (x1 := .cells (lay cs off (gv t ov).cs)) hρ hcs (by simp) (by simp)
        (fun c hc => setRow_other w b c _ (by simp only [blk, ne_eq, Option.some.injEq] at hc; omega)) rfl rfl rfl
        ⟨b, _, ty', rfl, setRow_heap w b arr _ ty' _ h1, by simp [lay_len, c1, hl]; omega, fun i y hi => by
          rw [row_get (by simp [c1, hl]) (by omega)]
          rw [lay_get] at hi
          have hs' : ∀ c, G c → (w.setRow b (arr.toList.take off ++ (a.eval v).cells.toList ++ arr.toList.drop (off + m)).toArray).heap[c]? = w.heap[c]? := fun c hc => setRow_other w b c _ (fun e => by
            subst e; exact hC.ok.hr.gd c hc ⟨id, _, _, hρ, hcs, by simp, rfl⟩)
          by_cases hio : i < off
          · rw [if_pos hio] at hi
            rw [if_neg (by omega)]
            exact (h3 i y hi).mono (fun _ h => h) hs' (fun _ _ => rfl)
          · rw [if_neg hio] at hi
            by_cases him : i < off + m
            · rw [if_pos ⟨by omega, by omega⟩] at hi
              rw [if_pos ⟨by omega, him⟩]
              have := c2 _ y hi
              rw [Array.getD_eq_getD_getElem?, ← Array.getElem?_toList] at this
              rw [List.getD_eq_getElem?_getD]
              exact this.mono (fun _ h => h) hs' (fun _ _ => rfl)
            · rw [if_neg (by omega)] at hi
              rw [if_neg (by omega)]
              exact (h3 i y hi).mono (fun _ h => h) hs' (fun _ _ => rfl)⟩
      refine wp_unit ?_ (hn undef _ _ _ _ _ _ hC' (.k .ud) hk)
      simp [execOp, ho, hp, Instr.storeAt, Instr.sureAddr, hrun]
    · exact hk.elim
  · rename_i id z i off hg
    rw [hg] at hvx
    obtain ⟨b, nn, c, hp, hρ⟩ := hvx.ql
    by_cases hst : (gv t ov).cs.all stor = true
    · obtain ⟨c1, c2⟩ := cells_ok hvv hst
      obtain ⟨G', t', h', ds, hC1, hG', hdl, hds, hk⟩ := frz_ok (gv t ov).cs G t h (fun i => (a.eval v).cells.getD i undef) hC c2 hk
      rw [get?_eq] at hk
      split at hk
      · rename_i z' rs hrs
        simp only [fl_eq] at hk
        obtain ⟨row, hrow, ⟨hz, hl, hle⟩, hk⟩ := hk
        obtain rfl := nbq hz
        have hl := nbq hl
        have hle := Nat.le_of_ble_eq_true hle
        obtain ⟨b', cap, arr, ty', hb, h1, hrz, hle2, h3⟩ := rows_cell (hC1.ok.hr.rep id _ _ hρ hrs) hrow
        simp only [Value.slice.injEq, Option.some.injEq, Addr.mk.injEq, and_true] at hb
        obtain ⟨rfl, rfl, rfl⟩ := hb
        have hone : ∀ u ∈ (a.eval v).cells.toList, u.oneCell' = true := by
          intro u hu
          obtain ⟨j, hj⟩ := List.mem_iff_getElem?.1 hu
          have hjl : j < (gv t ov).cs.length := by
            have := (List.getElem?_eq_some_iff.1 hj).1
            simp [c1] at this; exact this
          have hr := c2 j _ (List.getElem?_eq_getElem hjl)
          have he : (a.eval v).cells.getD j undef = u := by
            rw [Array.getD_eq_getD_getElem?, ← Array.getElem?_toList, hj]; rfl
          rw [he] at hr
          exact one_ok hr (List.all_eq_true.1 hst _ (List.getElem_mem hjl))
        have hrun := run_st (P := P) (ty := ty) (off := i * z + off) (v := a.eval v) h1 hm (by rw [c1, ← hdl, hl]) (by omega) hone
        have hrep := hC1.ok.hr.rep id _ _ hρ hrs
        rcases hrep with ⟨he, _⟩ | ⟨b2, cap2, arr2, ty2, he, k1, k2, k3, k4, k5⟩
        · cases he
        · simp only [Value.slice.injEq, Option.some.injEq, Addr.mk.injEq, and_true] at he
          obtain ⟨rfl, _, rfl⟩ := he
          rw [h1] at k1
          simp only [Option.some.injEq, Obj.cells.injEq, and_true] at k1
          obtain ⟨rfl, rfl⟩ := k1
          have hil : i < rs.length := (List.getElem?_eq_some_iff.1 hrow).1
          have hC2 := hC1.upd1 (w' := w.setRow b (arr.toList.take (i * z + off) ++ (a.eval v).cells.toList ++ arr.toList.drop (i * z + off + m)).toArray) (x1 := .rows z (rs.set i (lay row off ds))) hρ hrs (by simp) (by simp)
            (fun c hc => setRow_other w b c _ (by simp only [blk, ne_eq, Option.some.injEq] at hc; omega)) rfl rfl rfl
            (.inr ⟨b, c, _, ty', by simp, setRow_heap w b arr _ ty' _ h1, by simpa using k2, k3, by
              simp only [List.size_toArray, List.length_append, List.length_take, List.length_drop, Array.length_toList, c1, ← hdl, hl]; omega, fun i' row' hi' => by
              have hs' : ∀ c, G' c → (w.setRow b (arr.toList.take (i * z + off) ++ (a.eval v).cells.toList ++ arr.toList.drop (i * z + off + m)).toArray).heap[c]? = w.heap[c]? := fun c hc => setRow_other w b c _ (fun e => by
                subst e; exact hC1.ok.hr.gd c hc ⟨id, _, _, hρ, hrs, by simp, rfl⟩)
              rw [List.getElem?_set] at hi'
              split at hi'
              · rename_i hii
                subst hii
                cases hi'
                refine ⟨by rw [lay_len, hrz], fun j x hj => ?_⟩
                rw [row_get (by simp [c1, ← hdl, hl]) (by omega)]
                rw [lay_get] at hj
                by_cases hjo : j < off
                · rw [if_pos hjo] at hj
                  rw [if_neg (by omega)]
                  exact (h3 j x hj).2.mono (fun _ h => h) hs'
                · rw [if_neg hjo] at hj
                  by_cases hjm : j < off + m
                  · rw [if_pos ⟨by omega, by omega⟩] at hj
                    rw [if_pos ⟨by omega, by omega⟩]
                    have := hds _ x hj
                    rw [show i * z + j - (i * z + off) = j - off by omega]
                    rw [Array.getD_eq_getD_getElem?, ← Array.getElem?_toList] at this
                    rw [List.getD_eq_getElem?_getD]
                    exact this.mono (fun _ h => h) hs'
                  · rw [if_neg (by omega)] at hj
                    rw [if_neg (by omega)]
                    exact (h3 j x hj).2.mono (fun _ h => h) hs'
              · rename_i hii
                refine ⟨(k5 i' row' hi').1, fun j x hj => ?_⟩
                have hrl := (k5 i' row' hi').1
                have hjl : j < z := by rw [← hrl]; exact (List.getElem?_eq_some_iff.1 hj).1
                rw [row_get (by simp [c1, ← hdl, hl]) (by omega)]
                rw [if_neg (by
                  intro hh
                  rcases Nat.lt_or_gt_of_ne (fun e => hii e : i ≠ i') with hlt | hgt
                  · have : (i + 1) * z ≤ i' * z := Nat.mul_le_mul_right _ hlt
                    rw [Nat.add_mul] at this; omega
                  · have : (i' + 1) * z ≤ i * z := Nat.mul_le_mul_right _ hgt
                    rw [Nat.add_mul] at this; omega)]
                exact ((k5 i' row' hi').2 j x hj).mono (fun _ h => h) hs'⟩)
          refine wp_unit ?_ (hn undef _ _ _ _ _ _ hC2 (.k .ud) hk)
          simp [execOp, ho, hp, Instr.storeAt, Instr.sureAddr, hrun]
      · exact hk.elim
    · -- cells that can't be laid are no data
      exfalso
      apply hst
      have : ∀ (vs : List V) (t : T) (h : H) (K : List D → T → H → Prop), frz vs t h K → vs.all stor = true := by
        intro vs
        induction vs with
        | nil => intros; rfl
        | cons v vs ih =>
          intro t h K hf
          cases v <;> first | exact hf.elim | skip
          · simpa [stor] using ih _ _ _ hf
          · rename_i id
            simp only [frz_cons, frz1] at hf
            split at hf
            · simp only [fl_eq] at hf
              simpa [stor] using ih _ _ _ hf
            · exact hf.elim
          · simpa [stor] using ih _ _ _ hf
          · rename_i f caps
            cases caps with
            | nil => simpa [stor] using ih _ _ _ hf
            | cons => exact hf.elim
      exact this _ _ _ _ hk
  · exact hk.elim
end
end Go.Vx
