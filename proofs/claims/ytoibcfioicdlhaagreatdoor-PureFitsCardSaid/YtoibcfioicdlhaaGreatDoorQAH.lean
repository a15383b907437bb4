/- Appending does in the model what it does to the picture. Conditions: none; lemmas on the definitions before. -/
import Derived.Test.YtoibcfioicdlhaaGreatDoorQAG
import Derived.RangeFuncSeq
namespace Go.Vx
section
variable {P : Program} {E : Ent} {n : Nat} {G : Nat → Prop} {ρ : List Value} {t : T} {h : H} {a : Act} {w : World} {o : Oper} {nxt : Act → World → Prop} {Q : Exit → Act → World → Prop} {K KP : V → T → H → Prop}
theorem run_ap_in {ty uy ty' e : TypeId} {i : TypeInfo} (ht : P.underlying ty = some (.slice e)) (hu : ∃ e', P.underlying uy = some (.slice e')) (hi : P.info? e = some i) {b sLen sCap m : Nat} {cur : Array Value} {ty0 : TypeId} (hg : w.heap[b]? = some (.cells cur ty0 (0, 0)))
    {y : Value} {news : List Value} (hl : (Builtin.lenOf y).run P w = .ok m w) (hf : (Builtin.firstCells i.size m y).run P w = .ok news.toArray w) (h1 : ∀ u ∈ news, u.oneCell' = true)
    (hroom : sLen + m ≤ sCap) (hfit : sLen * i.size + news.length ≤ cur.size) :
    (Builtin.append_ #[ty, uy] ty' #[.slice (some ⟨b, 0, none⟩) sLen sCap, y]).run P w =
      .ok (.slice (some ⟨b, 0, none⟩) (sLen + m) sCap) (w.setRow b (cur.toList.take (sLen * i.size) ++ news ++ cur.toList.drop (sLen * i.size + news.length)).toArray) := by
  obtain ⟨e', hu⟩ := hu
  have hst := run_storeCells_at (P := P) b (sLen * i.size) ty0 news 0 cur w hg (by simpa using hfit) h1
  simp only [Nat.add_zero] at hst
  simp [Builtin.append_, run_underlying ht, run_underlying hu, sizeOf, typeInfo, hi, hl, hf, hroom, Addr.add_lit, hst]
theorem run_ap_nil {ty uy ty' e : TypeId} {i : TypeInfo} (ht : P.underlying ty = some (.slice e)) (hu : ∃ e', P.underlying uy = some (.slice e')) (hi : P.info? e = some i)
    {y : Value} (hl : (Builtin.lenOf y).run P w = .ok 0 w) (hf : (Builtin.firstCells i.size 0 y).run P w = .ok #[] w) :
    (Builtin.append_ #[ty, uy] ty' #[.slice none 0 0, y]).run P w = .ok (.slice none 0 0) w := by
  obtain ⟨e', hu⟩ := hu
  simp [Builtin.append_, run_underlying ht, run_underlying hu, sizeOf, typeInfo, hi, hl, hf]
theorem run_ap_new {ty uy ty' e : TypeId} {i : TypeInfo} {z : Value} (ht : P.underlying ty = some (.slice e)) (hu : ∃ e', P.underlying uy = some (.slice e')) (hi : P.info? e = some i) (hz : i.zero = some z) {base : Option Addr} {sLen sCap m : Nat}
    {x y : Value} {olds news : List Value} (hx : x = .slice base sLen sCap) (hfo : (Builtin.firstCells i.size sLen x).run P w.drew = .ok olds.toArray w.drew) (hl : (Builtin.lenOf y).run P w = .ok m w) (hf : (Builtin.firstCells i.size m y).run P w.drew = .ok news.toArray w.drew)
    (hg : sCap < sLen + m) (h63 : sLen + m ≤ 9223372036854775807) (hb : (sLen + m) * i.bytes ≤ 140737488355328) :
    (Builtin.append_ #[ty, uy] ty' #[x, y]).run P w =
      .ok (.slice (some ⟨w.heap.size, 0, none⟩) (sLen + m) (grownCap w (sLen + m) sCap e))
        (w.drew.alloc (.cells (olds ++ news ++ (Builtin.zeroCells z.cells (grownCap w (sLen + m) sCap e - (sLen + m))).toList).toArray e)) := by
  obtain ⟨e', hu⟩ := hu
  subst hx
  have hn : ¬ (sLen + m ≤ sCap) := by omega
  have h63' : ¬ (9223372036854775807 < ((sLen : Int) + (m : Int))) := by omega
  have h48' : ¬ (281474976710656 < Builtin.nextslicecap (sLen + m) sCap * i.bytes) := by have := growslice_fits hg hb; omega
  simp [Builtin.append_, run_underlying ht, run_underlying hu, sizeOf, typeInfo, zeroValue, hi, hz, hl, hn, h63', h48', Question.forced, hf, hfo, newRow, grownCap]
  congr 2
  apply Array.ext'
  simp
theorem src_ok {y : Value} {z : Nat} {ys : List (List D)} (hD : RepD G w y (.sl z ys)) : (Builtin.lenOf y).run P w = .ok ys.length w ∧ ∃ news : List Value, (∀ w', w'.heap = w.heap → (Builtin.firstCells z ys.length y).run P w' = .ok news.toArray w') ∧ news.length = ys.length * z ∧
    (∀ u ∈ news, u.oneCell' = true) ∧ ∀ (i : Nat) (row : List D), ys[i]? = some row → row.length = z ∧ ∀ (j : Nat) (x : D), row[j]? = some x → RepD G w (news.getD (i * z + j) undef) x := by
  rcases hD.sll with ⟨⟨a0, rfl⟩, rfl⟩ | ⟨b, oo, c, U, rfl, g1, g2, g3, g4, g5, g6⟩
  · refine ⟨by simp [Builtin.lenOf], [], fun w' _ => by cases a0 <;> simp [Builtin.firstCells, loadCells, loadCellsFrom], by simp, by simp, by simp⟩
  · by_cases hz : z = 0
    · subst hz
      refine ⟨by simp [Builtin.lenOf], [], fun w' _ => by simp [Builtin.firstCells, loadCells, loadCellsFrom], by simp, by simp, fun i row hr => ⟨g4 i row hr, fun j x hx => ?_⟩⟩
      have := (List.getElem?_eq_some_iff.1 hx).1
      rw [g4 i row hr] at this
      omega
    · have hzp : 0 < z := Nat.pos_of_ne_zero hz
      let f : Nat → Value := fun k => U (k / z) (k % z)
      have hcell : ∀ k, k < ys.length * z → w.cell? ⟨b, oo + k, none⟩ = some (f k) ∧ (f k).oneCell' = true := by
        intro k hk
        have hkz : k / z < ys.length := (Nat.div_lt_iff_lt_mul hzp).2 hk
        have hr := List.getElem?_eq_getElem hkz
        have hml : k % z < (ys[k / z]).length := by rw [g4 _ _ hr]; exact Nat.mod_lt _ hzp
        have hx := List.getElem?_eq_getElem hml
        have h5 := g5 _ _ _ _ hr hx
        have h6 := g6 _ _ _ _ hr hx
        have he : k / z * z + k % z = k := by rw [Nat.mul_comm]; exact Nat.div_add_mod k z
        rw [he] at h5
        exact ⟨h5, h6.one⟩
      refine ⟨by simp [Builtin.lenOf], (List.range (ys.length * z)).map f, fun w' hw' => ?_, by simp, fun u hu => ?_, fun i row hr => ⟨g4 i row hr, fun j x hx => ?_⟩⟩
      · refine run_firstCells_some (P := P) w' z ys.length ⟨b, oo, none⟩ _ c _ (by simp) (fun j v hv => ?_)
        rw [add_off]
        simp only [List.getElem?_map, Option.map_eq_some_iff] at hv
        obtain ⟨j', hj', rfl⟩ := hv
        have hjl : j < ys.length * z := by
          have := (List.getElem?_eq_some_iff.1 hj').1
          simpa using this
        rw [List.getElem?_range hjl] at hj'
        cases hj'
        rw [World.cell?_of_block (w := w) (w' := w') (by rw [hw'])]
        exact (hcell j hjl).1
      · simp only [List.mem_map, List.mem_range] at hu
        obtain ⟨k, hk, rfl⟩ := hu
        exact (hcell k hk).2
      · have hil : i < ys.length := (List.getElem?_eq_some_iff.1 hr).1
        have hjl : j < z := by rw [← g4 i row hr]; exact (List.getElem?_eq_some_iff.1 hx).1
        have hlt : i * z + j < ys.length * z := by
          have : (i + 1) * z ≤ ys.length * z := Nat.mul_le_mul_right _ hil
          rw [Nat.add_mul] at this; omega
        have he : ((List.range (ys.length * z)).map f).getD (i * z + j) undef = U i j := by
          rw [List.getD_eq_getElem?_getD, List.getElem?_map, List.getElem?_range hlt]
          simp only [Option.map_some, Option.getD_some, f]
          rw [Nat.mul_comm i z, Nat.mul_add_div hzp, Nat.mul_add_mod, Nat.div_eq_of_lt hjl, Nat.mod_eq_of_lt hjl, Nat.add_zero]
        rw [he]
        exact g6 _ _ _ _ hr hx
theorem row_app {rs ys : List (List D)} {z : Nat} {olds news rest : List Value} (ho : olds.length = rs.length * z) (hn : news.length = ys.length * z)
    (h1 : ∀ (i : Nat) (row : List D), rs[i]? = some row → row.length = z ∧ ∀ (j : Nat) (x : D), row[j]? = some x → RepD G w (olds.getD (i * z + j) undef) x)
    (h2 : ∀ (i : Nat) (row : List D), ys[i]? = some row → row.length = z ∧ ∀ (j : Nat) (x : D), row[j]? = some x → RepD G w (news.getD (i * z + j) undef) x) :
    ∀ (i : Nat) (row : List D), (rs ++ ys)[i]? = some row → row.length = z ∧ ∀ (j : Nat) (x : D), row[j]? = some x → RepD G w ((olds ++ news ++ rest).toArray.getD (i * z + j) undef) x := by
  intro i row hr
  by_cases hi : i < rs.length
  · rw [List.getElem?_append_left hi] at hr
    obtain ⟨hz, hx⟩ := h1 i row hr
    refine ⟨hz, fun j x hj => ?_⟩
    have hjl : j < z := by rw [← hz]; exact (List.getElem?_eq_some_iff.1 hj).1
    have hlt : i * z + j < olds.length := by
      have : (i + 1) * z ≤ rs.length * z := Nat.mul_le_mul_right _ hi
      rw [Nat.add_mul] at this; omega
    have := hx j x hj
    rw [List.getD_eq_getElem?_getD] at this
    rw [Array.getD_eq_getD_getElem?, List.getElem?_toArray, List.append_assoc, List.getElem?_append_left hlt]
    exact this
  · rw [List.getElem?_append_right (by omega)] at hr
    obtain ⟨hz, hx⟩ := h2 _ row hr
    refine ⟨hz, fun j x hj => ?_⟩
    have hjl : j < z := by rw [← hz]; exact (List.getElem?_eq_some_iff.1 hj).1
    have hil : i - rs.length < ys.length := (List.getElem?_eq_some_iff.1 hr).1
    have hi2 : i * z = rs.length * z + (i - rs.length) * z := by rw [← Nat.add_mul]; congr 1; omega
    have hlt : (i - rs.length) * z + j < news.length := by
      have : (i - rs.length + 1) * z ≤ ys.length * z := Nat.mul_le_mul_right _ hil
      rw [Nat.add_mul] at this; omega
    have := hx j x hj
    rw [List.getD_eq_getElem?_getD] at this
    rw [Array.getD_eq_getD_getElem?, List.getElem?_toArray, List.append_assoc, List.getElem?_append_right (by omega), List.getElem?_append_left (by omega)]
    rw [show i * z + j - olds.length = (i - rs.length) * z + j by omega]
    exact this
theorem own_cells {hd : Value} {z : Nat} {rs : List (List D)} (hr : RepB G w ρ hd (.rows z rs)) : ∃ base cap, hd = .slice base rs.length cap ∧ rs.length ≤ cap ∧ ∃ olds : List Value, (∀ w', w'.heap = w.heap → (Builtin.firstCells z rs.length hd).run P w' = .ok olds.toArray w') ∧ olds.length = rs.length * z ∧
    ∀ (i : Nat) (row : List D), rs[i]? = some row → row.length = z ∧ ∀ (j : Nat) (x : D), row[j]? = some x → RepD G w (olds.getD (i * z + j) undef) x := by
  rcases hr with ⟨rfl, rfl⟩ | ⟨b, cap, arr, ty, rfl, h1, h2, h3, h4, h5⟩
  · exact ⟨none, 0, rfl, by simp, [], fun w' _ => by simp [Builtin.firstCells], by simp, by simp⟩
  · have hle : rs.length * z ≤ arr.size := by rw [h4]; exact Nat.mul_le_mul_right _ h2
    refine ⟨some ⟨b, 0, none⟩, cap, rfl, h2, arr.toList.take (rs.length * z), fun w' hw' => ?_, by simp; omega, fun i row hr => ⟨(h5 i row hr).1, fun j x hx => ?_⟩⟩
    · refine run_firstCells_some (P := P) w' z rs.length ⟨b, 0, none⟩ _ cap _ (by simp; omega) (fun j v hv => ?_)
      rw [add_off, Nat.zero_add, World.cell?_of_block (w := w) (w' := w') (by rw [hw']), cell_arr h1]
      rw [List.getElem?_take] at hv
      split at hv
      · simpa using hv
      · cases hv
    · have hil : i < rs.length := (List.getElem?_eq_some_iff.1 hr).1
      have hjl : j < z := by rw [← (h5 i row hr).1]; exact (List.getElem?_eq_some_iff.1 hx).1
      have hlt : i * z + j < rs.length * z := by
        have : (i + 1) * z ≤ rs.length * z := Nat.mul_le_mul_right _ hil
        rw [Nat.add_mul] at this; omega
      have := (h5 i row hr).2 j x hx
      rw [Array.getD_eq_getD_getElem?, ← Array.getElem?_toList] at this
      rw [List.getD_eq_getElem?_getD, List.getElem?_take, if_pos hlt]
      exact this
variable (S : Nat → List V → H → (Out → H → Prop) → Prop) (ow : Nat → Bool)
theorem nl_val {v : Value} {z : Nat} (h : Rep2 G w ρ v (.nl z)) : v = .slice none 0 0 := by
  cases h with | o h => cases h with | c h => cases h with | k h => cases h; rfl
theorem op_ap (hC : Conc E n G ρ t h a w) (hn : Nxt E n a o K nxt) {ty uy e e' t1 t2 : TypeId} {i : TypeInfo} {zs : List V} {x y : Operand} {ox oy : O} (ho : o.op = .call { callee := .builtin .append, args := #[x, y], argTypes := #[ty, uy] })
    (ht : P.underlying ty = some (.slice e)) (hu : P.underlying uy = some (.slice e')) (hi : P.info? e = some i) (hz : zer P e = some zs) (hzl : zs.length = i.size) (hx : opd P t1 x = some ox) (hy : opd P t2 y = some oy)
    (hk : opx S ow (.ap ox oy i.size i.bytes) t h K KP) : o.wp P a w nxt Q := by
  have hvx := nlv_ok hC hx
  have hvy := dv_ok (opd_ok hC hy)
  obtain ⟨i', z, hi', hz0, hzs, _, _⟩ := zer_ok (G := G) (w := w) (ρ := ρ) hz
  rw [hi] at hi'
  cases hi'
  have hue : ∃ e', P.underlying uy = some (.slice e') := ⟨e', hu⟩
  have hexec : ∀ {v' w'}, (Builtin.append_ #[ty, uy] o.type #[a.eval x, a.eval y]).run P w = .ok v' w' → (execOp a.eval o).run P w = .ok (.value v') w' := by
    intro v' w' hr
    simp [execOp, ho, resolve, invoke, builtin, hr]
  have hgrow : ∀ c : Obj, Grw w (w.drew.alloc c) := fun c => (Grw.drew w).trans (Grw.alloc w.drew c)
  have hzc : ∀ k, (Builtin.zeroCells z.cells k).size = k * i.size := by intro k; rw [size_zeroCells, hzs, hzl]
  have body : ∀ (xv : V), Rep2 G w ρ (a.eval x) xv → ∀ (ys : List (List D)), RepD G w (a.eval y) (.sl i.size ys) →
      (match xv with
        | .os id => (match get? h id with
          | some (.rows z'' rs) => (Nat.beq i.size z'' = true ∧ rs.length + ys.length ≤ 9223372036854775807 ∧ (rs.length + ys.length) * i.bytes ≤ 140737488355328) ∧
              K (.os id) (kilT id t) ((h.map (kilB id)).set id (.rows i.size (rs ++ ys)))
          | _ => False)
        | .nl _ => (ys.length ≤ 9223372036854775807 ∧ ys.length * i.bytes ≤ 140737488355328) ∧ K (.os h.length) t (h ++ [.rows i.size ys])
        | .cl z'' rs => (Nat.beq i.size z'' = true ∧ rs.length + ys.length ≤ 9223372036854775807 ∧ (rs.length + ys.length) * i.bytes ≤ 140737488355328) ∧ K (.d (.sl i.size (rs ++ ys))) t h
        | _ => False) → o.wp P a w nxt Q := by
    intro xv hvx ys hDy hk
    obtain ⟨hly, news, hfy, hnl, hn1, hnr⟩ := src_ok (P := P) hDy
    split at hk
    · rename_i id
      rw [get?_eq] at hk
      split at hk
      · rename_i z'' rs hrs
        obtain ⟨⟨hzz, hb1, hb2⟩, hk⟩ := hk
        obtain rfl := nbq hzz
        obtain ⟨ad, nn, c, hv, hρ⟩ := hvx.osl
        have hrep := hC.ok.hr.rep id _ _ hρ hrs
        obtain ⟨base, cap, hhd, hcap, olds, hfo, hol, hor⟩ := own_cells (P := P) hrep
        cases hhd
        have hidl : id < ρ.length := (List.getElem?_eq_some_iff.1 hρ).1
        by_cases hroom : rs.length + ys.length ≤ c
        · skip
          rcases hrep with ⟨he, rfl⟩ | ⟨b, cap', arr, ty0, he, h1, h2, h3, h4, h5⟩
          · cases he
            have hys : ys = [] := List.eq_nil_of_length_eq_zero (by simpa using hroom)
            subst hys
            have hnn : news = [] := List.eq_nil_of_length_eq_zero (by simpa using hnl)
            subst hnn
            have hr := run_ap_nil (ty' := o.type) ht hue hi (by simpa using hly) (by simpa using hfy w rfl)
            have hv' : a.eval x = .slice none 0 0 := hv
            rw [← hv'] at hr
            have hC' := hC.upd2 (w' := w) (v1 := .slice none 0 0) (x1 := .rows i.size []) hρ hrs (by simp) rfl (Nat.le_refl _) (fun _ _ _ => rfl) rfl rfl rfl (.inl ⟨rfl, rfl⟩) (fun b hb => .inl hb)
            refine wp_val (hexec hr) (hn _ _ _ _ _ _ _ hC' (.k (by rw [hv']; exact .os id none 0 0 (List.getElem?_set_self hidl))) (by simpa using hk))
          · cases he
            have hr := run_ap_in (ty' := o.type) (w := w) (sLen := rs.length) (sCap := c) ht hue hi h1 hly (hfy w rfl) hn1 hroom (by
              rw [h4, hnl, ← Nat.add_mul]; exact Nat.mul_le_mul_right _ hroom)
            rw [← hv] at hr
            have holds : olds = arr.toList.take (rs.length * i.size) := by
              have h6 := hfo w rfl
              have h7 := run_firstCells_some (P := P) w i.size rs.length ⟨b, 0, none⟩ rs.length c (arr.toList.take (rs.length * i.size)) (by
                simp only [List.length_take, Array.length_toList, h4]; exact Nat.min_eq_left (Nat.mul_le_mul_right _ h2)) (fun j v hv => by
                  rw [add_off, Nat.zero_add, cell_arr h1]
                  rw [List.getElem?_take] at hv
                  split at hv
                  · simpa using hv
                  · cases hv)
              rw [h7] at h6
              simp only [Result.ok.injEq, and_true] at h6
              simpa using h6.symm
            have hsame : ∀ k, k ≠ b → (w.setRow b (arr.toList.take (rs.length * i.size) ++ news ++ arr.toList.drop (rs.length * i.size + news.length)).toArray).heap[k]? = w.heap[k]? := fun k hk => setRow_other w b k _ hk
            have hGs : ∀ k, G k → (w.setRow b (arr.toList.take (rs.length * i.size) ++ news ++ arr.toList.drop (rs.length * i.size + news.length)).toArray).heap[k]? = w.heap[k]? := fun k hk => hsame k (fun e => by
              subst e; exact hC.ok.hr.gd k hk ⟨id, _, _, hρ, hrs, by simp, rfl⟩)
            have hC' := hC.upd2 (w' := w.setRow b (arr.toList.take (rs.length * i.size) ++ news ++ arr.toList.drop (rs.length * i.size + news.length)).toArray) (v1 := .slice (some ⟨b, 0, none⟩) (rs.length + ys.length) c) (x1 := .rows i.size (rs ++ ys))
              hρ hrs (by simp) rfl (by simp) (fun k _ hk => hsame k (by simp only [blk, ne_eq, Option.some.injEq] at hk; omega)) rfl rfl rfl
              (.inr ⟨b, c, _, ty0, by simp, setRow_heap w b arr _ ty0 _ h1, by simpa using hroom, h3, by
                have h9 : (rs.length + ys.length) * i.size ≤ c * i.size := Nat.mul_le_mul_right _ hroom
                rw [Nat.add_mul] at h9
                simp only [List.size_toArray, List.length_append, List.length_take, List.length_drop, Array.length_toList, hnl]; omega, by
                have := row_app (rest := arr.toList.drop (rs.length * i.size + news.length)) hol hnl hor hnr
                rw [← holds]
                intro k row hr
                obtain ⟨e1, e2⟩ := this k row hr
                exact ⟨e1, fun j x hx => (e2 j x hx).mono (fun _ h => h) (by rw [holds]; exact hGs)⟩⟩) (fun k hk => .inl hk)
            refine wp_val (hexec hr) (hn _ _ _ _ _ _ _ hC' (.k (.os id _ _ _ (List.getElem?_set_self hidl))) hk)
        · skip
          have hr := run_ap_new (ty' := o.type) (w := w) ht hue hi hz0 rfl (hfo w.drew rfl) hly (hfy w.drew rfl) (by omega) hb1 hb2
          rw [← hv] at hr
          have hge := grownCap_ge w (rs.length + ys.length) c e
          have hC' := hC.upd2 (w' := w.drew.alloc (.cells (olds ++ news ++ (Builtin.zeroCells z.cells (grownCap w (rs.length + ys.length) c e - (rs.length + ys.length))).toList).toArray e)) (v1 := .slice (some ⟨w.heap.size, 0, none⟩) (rs.length + ys.length) (grownCap w (rs.length + ys.length) c e)) (x1 := .rows i.size (rs ++ ys))
            hρ hrs (by simp) rfl (hgrow _).size (fun k hk _ => (hgrow _).old k hk) rfl rfl rfl
            (.inr ⟨w.heap.size, grownCap w (rs.length + ys.length) c e, (olds ++ news ++ (Builtin.zeroCells z.cells (grownCap w (rs.length + ys.length) c e - (rs.length + ys.length))).toList).toArray, e, by simp, heap_alloc_new w.drew _, by simpa using hge, grownCap_le_maxLen w _ _ e hb1, by
              simp only [List.size_toArray, List.length_append, Array.length_toList, hzc, hol, hnl, ← Nat.add_mul]
              congr 1; omega, by
              have := row_app (rest := (Builtin.zeroCells z.cells (grownCap w (rs.length + ys.length) c e - (rs.length + ys.length))).toList) hol hnl hor hnr
              intro k row hr
              obtain ⟨e1, e2⟩ := this k row hr
              exact ⟨e1, fun j x hx => (e2 j x hx).mono (fun _ h => h) (fun b hb => (hgrow _).old b (hC.ok.hr.gl b hb))⟩⟩) (fun k hk => by simp only [blk, Option.some.injEq] at hk; exact .inr (by omega))
          refine wp_val (hexec hr) (hn _ _ _ _ _ _ _ hC' (.k (.os id _ _ _ (List.getElem?_set_self hidl))) hk)
      · exact hk.elim
    · rename_i z0
      obtain ⟨⟨hb1, hb2⟩, hk⟩ := hk
      have hv : a.eval x = .slice none 0 0 := nl_val hvx
      by_cases hys : ys.length = 0
      · have hys' : ys = [] := List.eq_nil_of_length_eq_zero hys
        subst hys'
        have hnn : news = [] := List.eq_nil_of_length_eq_zero (by simpa using hnl)
        subst hnn
        have hr := run_ap_nil (ty' := o.type) ht hue hi (by simpa using hly) (by simpa using hfy w rfl)
        have hC' := hC.push (Grw.refl w) (.slice none 0 0) (.rows i.size []) (by simp [blk]) (.inl ⟨rfl, rfl⟩)
        rw [← hv] at hr hC'
        refine wp_val (hexec hr) (hn _ _ _ _ _ _ _ hC' (.k ?_) hk)
        rw [hv]
        exact .os h.length none 0 0 (by rw [← hC.ok.hr.len]; simp)
      · have hr := run_ap_new (ty' := o.type) (w := w) (sLen := 0) (sCap := 0) (olds := []) ht hue hi hz0 rfl (run_firstCells_none w.drew _ _ _ _) hly (hfy w.drew rfl) (by omega) (by omega) (by simpa using hb2)
        rw [← hv] at hr
        simp only [Nat.zero_add, List.nil_append] at hr
        have hge := grownCap_ge w ys.length 0 e
        have hC' := hC.push (hgrow (.cells (news ++ (Builtin.zeroCells z.cells (grownCap w ys.length 0 e - ys.length)).toList).toArray e)) (.slice (some ⟨w.heap.size, 0, none⟩) ys.length (grownCap w ys.length 0 e)) (.rows i.size ys)
          (fun b hb => by simp only [blk, Option.some.injEq] at hb; omega)
          (.inr ⟨w.heap.size, grownCap w ys.length 0 e, (news ++ (Builtin.zeroCells z.cells (grownCap w ys.length 0 e - ys.length)).toList).toArray, e, rfl, heap_alloc_new w.drew _, hge, grownCap_le_maxLen w _ _ e hb1, by
            simp only [List.size_toArray, List.length_append, Array.length_toList, hzc, hnl, ← Nat.add_mul]
            congr 1; omega, by
            have := row_app (G := G) (w := w) (rs := []) (olds := []) (rest := (Builtin.zeroCells z.cells (grownCap w ys.length 0 e - ys.length)).toList) (by simp) hnl (by simp) hnr
            intro k row hr
            obtain ⟨e1, e2⟩ := this k row (by simpa using hr)
            exact ⟨e1, fun j x hx => (e2 j x hx).mono (fun _ h => h) (fun b hb => (hgrow _).old b (hC.ok.hr.gl b hb))⟩⟩)
        refine wp_val (hexec hr) (hn _ _ _ _ _ _ _ hC' (.k (.os h.length _ _ _ ?_)) hk)
        rw [← hC.ok.hr.len]; simp
    · rename_i z'' rs
      obtain ⟨⟨hzz, hb1, hb2⟩, hk⟩ := hk
      obtain rfl := nbq hzz
      obtain ⟨ad, nn, hv, hD⟩ := hvx.cll
      have hlen := hD.len
      obtain ⟨ad', c', he, _⟩ := hlen
      cases he
      obtain ⟨hlx, olds, hfx, hol, _, hor⟩ := src_ok (P := P) hD
      by_cases hys : ys.length = 0
      · skip
        have hys' : ys = [] := List.eq_nil_of_length_eq_zero hys
        subst hys'
        have hnn : news = [] := List.eq_nil_of_length_eq_zero (by simpa using hnl)
        subst hnn
        have hr : (Builtin.append_ #[ty, uy] o.type #[.slice ad rs.length rs.length, a.eval y]).run P w = .ok (.slice ad rs.length rs.length) w := by
          have hfy0 := hfy w rfl
          simp only [List.length_nil] at hfy0 hly
          cases ad <;> simp [Builtin.append_, run_underlying ht, run_underlying hu, sizeOf, typeInfo, hi, hly, hfy0, storeCells]
        rw [← hv] at hr
        refine wp_quiet hC hn (hexec hr) (.d ?_) hk
        rw [hv, List.append_nil]
        exact hD
      · have hr := run_ap_new (ty' := o.type) (w := w) ht hue hi hz0 rfl (hfx w.drew rfl) hly (hfy w.drew rfl) (by omega) hb1 hb2
        rw [← hv] at hr
        have hge := grownCap_ge w (rs.length + ys.length) rs.length e
        have hC' := hC.grow (w' := w.drew.alloc (.cells (olds ++ news ++ (Builtin.zeroCells z.cells (grownCap w (rs.length + ys.length) rs.length e - (rs.length + ys.length))).toList).toArray e)) (G' := fun b => G b ∨ b = w.heap.size) (hgrow _) (fun b hb => .inl hb) (fun b hb => by
          rcases hb with hb | rfl
          · exact .inl hb
          · exact .inr ⟨Nat.le_refl _, by simp, _, _, _, heap_alloc_new w.drew _⟩)
        refine wp_val (hexec hr) (hn _ _ _ _ _ _ _ hC' (.d ?_) hk)
        have hb : RepB G (w.drew.alloc (.cells (olds ++ news ++ (Builtin.zeroCells z.cells (grownCap w (rs.length + ys.length) rs.length e - (rs.length + ys.length))).toList).toArray e)) ρ (.slice (some ⟨w.heap.size, 0, none⟩) (rs.length + ys.length) (grownCap w (rs.length + ys.length) rs.length e)) (.rows i.size (rs ++ ys)) :=
          .inr ⟨w.heap.size, grownCap w (rs.length + ys.length) rs.length e, _, e, by simp, heap_alloc_new w.drew _, by simpa using hge, grownCap_le_maxLen w _ _ e hb1, by
            simp only [List.size_toArray, List.length_append, Array.length_toList, hzc, hol, hnl, ← Nat.add_mul]
            congr 1; omega, by
            have := row_app (rest := (Builtin.zeroCells z.cells (grownCap w (rs.length + ys.length) rs.length e - (rs.length + ys.length))).toList) hol hnl hor hnr
            intro k row hr
            obtain ⟨e1, e2⟩ := this k row hr
            exact ⟨e1, fun j x hx => (e2 j x hx).mono (fun _ h => h) (fun b hb => (hgrow _).old b (hC.ok.hr.gl b hb))⟩⟩
        exact hb.data.mono (fun b hb => by
          rcases hb with hb | hb
          · exact .inl hb
          · simp only [blk, Option.some.injEq] at hb; exact .inr hb.symm) (fun _ _ => rfl)
    · exact hk.elim
  have fin : ∀ (z' : Nat) (ys : List (List D)), RepD G w (a.eval y) (.sl z' ys) →
      (match nlv t ox with
        | .os id => (match get? h id with
          | some (.rows z'' rs) => (Nat.beq i.size z'' = true ∧ Nat.beq i.size z' = true ∧ rs.length + ys.length ≤ 9223372036854775807 ∧ (rs.length + ys.length) * i.bytes ≤ 140737488355328) ∧
              flt (kilT id t) fun t => flb ((h.map (kilB id)).set id (.rows i.size (rs ++ ys))) fun h => K (.os id) t h
          | _ => False)
        | .nl _ => (Nat.beq i.size z' = true ∧ ys.length ≤ 9223372036854775807 ∧ ys.length * i.bytes ≤ 140737488355328) ∧ apn (fl (h ++ [.rows i.size ys]) fun h' => fnat h.length fun n => K (.os n) t h') (K (.d (.sl i.size ys)) t h)
        | .cl z'' rs => (Nat.beq i.size z'' = true ∧ Nat.beq i.size z' = true ∧ rs.length + ys.length ≤ 9223372036854775807 ∧ (rs.length + ys.length) * i.bytes ≤ 140737488355328) ∧ K (.d (.sl i.size (rs ++ ys))) t h
        | _ => False) → o.wp P a w nxt Q := by
    intro z' ys hD hk
    split at hk
    · rename_i id hg
      split at hk
      · rename_i h4
        simp only [flt_eq, flb_eq] at hk
        obtain rfl := nbq hk.1.2.1
        refine body (.os id) (hg ▸ hvx) ys hD ?_
        simp only [h4]
        exact ⟨⟨hk.1.1, hk.1.2.2.1, hk.1.2.2.2⟩, hk.2⟩
      · exact hk.elim
    · rename_i z0 hg
      simp only [fl_eq, fnat_eq] at hk
      obtain rfl := nbq hk.1.1
      have hk2 := hk.2
      unfold apn at hk2
      rcases hk2 with hk2 | hk2
      · exact body (.nl z0) (hg ▸ hvx) ys hD ⟨hk.1.2, hk2⟩
      · have hv : a.eval x = .slice none 0 0 := nl_val (hg ▸ hvx)
        exact body (.cl i.size []) (by rw [hv]; exact .o (.c (.k (.cl none 0 _ [] (.slz _))))) ys hD ⟨⟨Nat.beq_refl _, by simpa using hk.1.2.1, by simpa using hk.1.2.2⟩, by simpa using hk2⟩
    · rename_i z'' rs hg
      obtain rfl := nbq hk.1.2.1
      exact body (.cl z'' rs) (hg ▸ hvx) ys hD ⟨⟨hk.1.1, hk.1.2.2.1, hk.1.2.2.2⟩, hk.2⟩
    · exact hk.elim
  simp only [opx] at hk
  split at hk
  · rename_i z' ys hg
    rw [hg] at hvy
    exact fin z' ys hvy.toD hk
  · rename_i z' ys hg
    rw [hg] at hvy
    obtain ⟨ad, nn, hv, hD⟩ := hvy.cll
    exact fin z' ys (by rw [hv]; exact hD) hk
  · exact hk.elim
end
end Go.Vx
namespace Go.Vx
section ren
variable {G : Nat → Prop} {w : World} {ρ ρ' : List Value} {f : Nat → Nat}
theorem RepK.ren {v : Value} {x : V} (h : RepK G w ρ v x) (hf : ∀ i ∈ idc x, ρ'[f i]? = ρ[i]?) : RepK G w ρ' v (rnc f x) := by
  cases h with
  | un => exact .un _
  | ud => exact .ud
  | d h => exact .d h
  | p id off b h => exact .p _ off b ((hf id (by simp [idc])).trans h)
  | e b o off row U h1 h2 h3 => exact .e b o off row U h1 h2 h3
  | os id a n c h => exact .os _ a n c ((hf id (by simp [idc])).trans h)
  | q id z i off b n c h => exact .q _ z i off b n c ((hf id (by simp [idc])).trans h)
  | cl a n z rows h => exact .cl a n z rows h
  | nl z => exact .nl z
  | mp id r h => exact .mp _ r ((hf id (by simp [idc])).trans h)
  | ov id z i _ a n c h hv => exact .ov _ z i _ a n c ((hf id (by simp [idc])).trans h) hv
theorem RepC.ren {v : Value} {x : V} (h : RepC G w ρ v x) (hf : ∀ i ∈ id0 x, ρ'[f i]? = ρ[i]?) : RepC G w ρ' v (rn0 f x) := by
  cases h with
  | k h =>
    have e1 : rn0 f x = rnc f x := by cases h <;> rfl
    have e2 : id0 x = idc x := by cases h <;> rfl
    rw [e1]
    exact .k (h.ren (by rw [← e2]; exact hf))
  | fc g u cs caps h0 h1 h2 =>
    refine .fc g _ cs _ h0 (by simpa using h1) (fun i x hx => ?_)
    rw [List.getElem?_map] at hx
    cases hc : caps[i]? with
    | none => rw [hc] at hx; cases hx
    | some x0 =>
      rw [hc] at hx; cases hx
      exact (h2 i x0 hc).ren (fun j hj => hf j (by simp only [id0, List.mem_flatMap]; exact ⟨x0, List.mem_of_getElem? hc, hj⟩))
theorem Rep1.ren {v : Value} {x : V} (h : Rep1 G w ρ v x) (hf : ∀ i ∈ id1 x, ρ'[f i]? = ρ[i]?) : Rep1 G w ρ' v (rn1 f x) := by
  cases h with
  | c h =>
    have e1 : rn1 f x = rn0 f x := by
      cases h with
      | k h => cases h <;> rfl
      | fc => rfl
    have e2 : id1 x = id0 x := by
      cases h with
      | k h => cases h <;> rfl
      | fc => rfl
    rw [e1]
    exact .c (h.ren (by rw [← e2]; exact hf))
  | ag cs vs h1 h2 =>
    refine .ag cs _ (by simpa using h1) (fun i x hx => ?_)
    rw [List.getElem?_map] at hx
    cases hc : vs[i]? with
    | none => rw [hc] at hx; cases hx
    | some x0 =>
      rw [hc] at hx; cases hx
      exact (h2 i x0 hc).ren (fun j hj => hf j (by simp only [id1, List.mem_flatMap]; exact ⟨x0, List.mem_of_getElem? hc, hj⟩))
theorem Rep2.ren {v : Value} {x : V} (h : Rep2 G w ρ v x) (hf : ∀ i ∈ id2 x, ρ'[f i]? = ρ[i]?) : Rep2 G w ρ' v (rn2 f x) := by
  cases h with
  | o h =>
    have e1 : rn2 f x = rn1 f x := by
      cases h with
      | c h => cases h with
        | k h => cases h <;> rfl
        | fc => rfl
      | ag => rfl
    have e2 : id2 x = id1 x := by
      cases h with
      | c h => cases h with
        | k h => cases h <;> rfl
        | fc => rfl
      | ag => rfl
    rw [e1]
    exact .o (h.ren (by rw [← e2]; exact hf))
  | tu cs vs h1 h2 =>
    refine .tu cs _ (by simpa using h1) (fun i x hx => ?_)
    rw [List.getElem?_map] at hx
    cases hc : vs[i]? with
    | none => rw [hc] at hx; cases hx
    | some x0 =>
      rw [hc] at hx; cases hx
      exact (h2 i x0 hc).ren (fun j hj => hf j (by simp only [id2, List.mem_flatMap]; exact ⟨x0, List.mem_of_getElem? hc, hj⟩))
theorem RepB.ren {v : Value} {x : B} (h : RepB G w ρ v x) (hf : ∀ i ∈ idB x, ρ'[f i]? = ρ[i]?) : RepB G w ρ' v (rnB f x) := by
  cases x with
  | no => trivial
  | nw => exact h
  | cells cs =>
    obtain ⟨b, arr, ty, rfl, h1, h2, h3⟩ := h
    refine ⟨b, arr, ty, rfl, h1, by simpa using h2, fun i x hx => ?_⟩
    rw [List.getElem?_map] at hx
    cases hc : cs[i]? with
    | none => rw [hc] at hx; cases hx
    | some x0 =>
      rw [hc] at hx; cases hx
      exact (h3 i x0 hc).ren (fun j hj => hf j (by simp only [idB, List.mem_flatMap]; exact ⟨x0, List.mem_of_getElem? hc, hj⟩))
  | mp es =>
    obtain ⟨r, arr, clk, rfl, h1, h2, h3, h4⟩ := h
    refine ⟨r, arr, clk, rfl, h1, by simpa using h2, h3, fun i e x he hx => ?_⟩
    rw [List.getElem?_map] at hx
    cases hc : es[i]? with
    | none => rw [hc] at hx; cases hx
    | some x0 =>
      rw [hc] at hx; cases hx
      exact ⟨(h4 i e x0 he hc).1.ren (fun j hj => hf j (by simp only [idB, List.mem_flatMap]; exact ⟨x0, List.mem_of_getElem? hc, List.mem_append_left _ hj⟩)),
        (h4 i e x0 he hc).2.ren (fun j hj => hf j (by simp only [idB, List.mem_flatMap]; exact ⟨x0, List.mem_of_getElem? hc, List.mem_append_right _ hj⟩))⟩
  | dm es => exact RepB.mono (x := .dm es) h (fun _ h => h) (fun _ _ => rfl) (fun _ _ => rfl) (fun i hi => by cases hi)
  | rows z rs => exact h
  | rx z rs k r =>
    obtain ⟨b, cap, arr, ty, rfl, h1, h2, h3, h4, h0, h5, h6⟩ := h
    refine ⟨b, cap, arr, ty, rfl, h1, h2, h3, h4, by simpa using h0, h5, fun i x hx => ?_⟩
    rw [List.getElem?_map] at hx
    cases hc : r[i]? with
    | none => rw [hc] at hx; cases hx
    | some x0 =>
      rw [hc] at hx; cases hx
      exact (h6 i x0 hc).ren (fun j hj => hf j (by simp only [idB, List.mem_flatMap]; exact ⟨x0, List.mem_of_getElem? hc, hj⟩))
theorem rnB_no (f : Nat → Nat) (x : B) : rnB f x = .no ↔ x = .no := by cases x <;> simp [rnB]
theorem rnc_id {f : Nat → Nat} {x : V} (h : idc x = []) : rnc f x = x := by cases x <;> simp [idc] at h <;> rfl
theorem map_fix {α : Type} {f : α → α} {l : List α} (h : ∀ x ∈ l, f x = x) : l.map f = l := by
  induction l with
  | nil => rfl
  | cons x l ih => rw [List.map_cons, h x (by simp), ih (fun y hy => h y (by simp [hy]))]
theorem rn0_id {f : Nat → Nat} {x : V} (h : id0 x = []) : rn0 f x = x := by
  cases x with
  | fc g c =>
    simp only [id0, List.flatMap_eq_nil_iff] at h
    simp only [rn0, map_fix (fun x hx => rnc_id (h x hx))]
  | p | os | q | mp | ov => simp [id0, idc] at h
  | _ => rfl
theorem rn1_id {f : Nat → Nat} {x : V} (h : id1 x = []) : rn1 f x = x := by
  cases x with
  | ag c =>
    simp only [id1, List.flatMap_eq_nil_iff] at h
    simp only [rn1, map_fix (fun x hx => rn0_id (h x hx))]
  | fc g c => exact rn0_id (x := .fc g c) h
  | p | os | q | mp | ov => simp [id1, id0, idc] at h
  | _ => rfl
theorem rn2_id {f : Nat → Nat} {x : V} (h : id2 x = []) : rn2 f x = x := by
  cases x with
  | tu c =>
    simp only [id2, List.flatMap_eq_nil_iff] at h
    simp only [rn2, map_fix (fun x hx => rn1_id (h x hx))]
  | ag c => exact rn1_id (x := .ag c) h
  | fc g c => exact rn0_id (x := .fc g c) h
  | p | os | q | mp | ov => simp [id2, id1, id0, idc] at h
  | _ => rfl
end ren
def RepO (G : Nat → Prop) (w : World) (ρ : List Value) (e : Ending) : Out → Prop
  | .ret r => ∃ v, e = .returned v ∧ Rep2 G w ρ v r
  | .pan r => ∃ v, e = .panicked [{ v := v, recovered := false }] ∧ Rep2 G w ρ v r
def callOk (P : Program) (f : Nat) : Bool :=
  match P.funcs[f]? with
  | some fn => fn.name != "runtime.NumGoroutine" && fn.body.isSome
  | none => false
structure SatF (P : Program) (f : Nat) (vs : List V) (h : H) (K : Out → H → Prop) : Prop where
  ok : callOk P f = true
  run : ∀ (G : Nat → Prop) (w : World) (ρ as : List Value), HR G w ρ h → as.length = vs.length → (∀ (i : Nat) (x : V), vs[i]? = some x → Rep2 G w ρ (as.getD i undef) x) →
    Calls P f as.toArray w fun e w' => ∃ (G' : Nat → Prop) (ρ' : List Value) (h' : H) (out : Out), Ok ⟨w, G, ρ, h, [], []⟩ G' w' ρ' h' ∧ RepO G' w' ρ' e out ∧ K out h'
def Fw (r : Option Nat) : Fence := { Fence.wide with round := r }
def encD : D → Value
  | .int k n => .int k n
  | .bool b => .bool b
  | .str s => .string ⟨s.toArray⟩
  | _ => undef
structure IterP (P : Program) (g : Nat) (caps : List V) (hb : H) (xs : List (List D)) : Prop where
  ok : callOk P g = true
  run : ∀ (ρ as : List Value) (l : Nat) (J : Nat → World → Prop) (Jx : World → Prop), as.length = caps.length →
    (∀ i W W', J i W → Grw W W' → J i W') → (∀ W W', Jx W → Grw W W' → Jx W') →
    (∀ i W, J i W → ∃ G, HR G W ρ hb ∧ ∀ (j : Nat) (x : V), caps[j]? = some x → Rep2 G W ρ (as.getD j undef) x) →
    (∀ (i : Nat) (r : List D) (W1 : World), xs[i]? = some r → J i W1 → YieldAt (Fw none) 0 P l (r.map encD).toArray W1 fun e W2 => (e = .returned (.bool true) ∧ J (i + 1) W2) ∨ (e = .returned (.bool false) ∧ Jx W2)) →
    ∀ W, J 0 W → CallsIn (Fw none) 0 P g (#[.func (.yield l) #[] #[]] ++ as.toArray) W fun e W' => (∃ v, e = .returned v) ∧ (J xs.length W' ∨ Jx W')
def Sat (P : Program) (f : Nat) (vs : List V) (h : H) (K : Out → H → Prop) : Prop :=
  SatF P f vs h K ∨ (5000000 ≤ f ∧ ∃ (z : Nat) (xs : List (List D)), IterP P (f - 5000000) vs h xs ∧ K (.ret (.d (.sl z xs))) [])
theorem SatF.mono {P : Program} {f : Nat} {vs : List V} {h : H} {K K' : Out → H → Prop} (hs : SatF P f vs h K) (hk : ∀ o h, K o h → K' o h) : SatF P f vs h K' :=
  ⟨hs.1, fun G w ρ as h1 h2 h3 => (hs.2 G w ρ as h1 h2 h3).mono fun _ _ ⟨G', ρ', h', out, a, b, c⟩ => ⟨G', ρ', h', out, a, b, hk _ _ c⟩⟩
theorem Sat.mono {P : Program} {f : Nat} {vs : List V} {h : H} {K K' : Out → H → Prop} (hs : Sat P f vs h K) (hk : ∀ o h, K o h → K' o h) : Sat P f vs h K' :=
  hs.imp (fun h => h.mono hk) fun ⟨h1, z, xs, h2, h3⟩ => ⟨h1, z, xs, h2, hk _ _ h3⟩
theorem Sat.fn {P : Program} {f : Nat} {vs : List V} {h : H} {K : Out → H → Prop} (hs : Sat P f vs h K) (hf : f < 5000000) : SatF P f vs h K :=
  hs.resolve_right fun h => absurd h.1 (by omega)
def SatP (P : Program) (f : Nat) (vs : List V) (r : V) : Prop := Sat P f vs [] fun out h => out = .ret r ∧ h = []
theorem SatP.use {P : Program} {f : Nat} {vs : List V} {r : V} {K : Out → H → Prop} (hs : SatP P f vs r) (hk : K (.ret r) []) : Sat P f vs [] K :=
  hs.mono fun o h ⟨e1, e2⟩ => by rw [e1, e2]; exact hk
section back
theorem has_iff {l : List Nat} {i : Nat} : has l i = true ↔ i ∈ l := by
  simp only [has, List.any_eq_true]
  constructor
  · rintro ⟨x, hx, he⟩; rw [nbq he]; exact hx
  · intro h; exact ⟨i, h, Nat.beq_refl i⟩
theorem nodup_of {l : List Nat} (h : nodupb l = true) : l.Nodup := by
  induction l with
  | nil => exact List.nodup_nil
  | cons x l ih =>
    simp only [nodupb, Bool.and_eq_true, Bool.not_eq_true'] at h
    refine List.nodup_cons.2 ⟨fun hm => ?_, ih h.2⟩
    have := has_iff.2 hm
    rw [h.1] at this
    cases this
theorem pos_lt {ids : List Nat} {i : Nat} (h : i ∈ ids) : pos ids i < ids.length :=
  List.findIdx_lt_length_of_exists ⟨i, h, Nat.beq_refl i⟩
theorem pos_get {ids : List Nat} {i : Nat} (h : i ∈ ids) : ids[pos ids i]? = some i := by
  have hl := pos_lt h
  rw [List.getElem?_eq_getElem hl]
  have := List.findIdx_getElem (p := Nat.beq i) (w := hl)
  exact congrArg some (nbq this).symm
theorem get_pos {ids : List Nat} (hn : ids.Nodup) {k i : Nat} (h : ids[k]? = some i) : pos ids i = k := by
  have hi := List.mem_of_getElem? h
  have h1 := pos_get hi
  have hl := (List.getElem?_eq_some_iff.1 h).1
  exact (List.getElem?_inj (pos_lt hi) hn).1 (h1.trans h.symm)
theorem home_lt {n k i : Nat} {ids : List Nat} (h : ids[k]? = some i) : home n ids k = i := by simp [home, get?_eq, h]
theorem home_ge {n k : Nat} {ids : List Nat} (h : ids.length ≤ k) : home n ids k = n + k - ids.length := by simp [home, get?_eq, List.getElem?_eq_none h]
theorem back_len {ids : List Nat} {g : Nat → Nat} {h h' : H} : (back ids g h h').length = h.length + (h'.length - ids.length) := by simp [back]
theorem back_old {ids : List Nat} {g : Nat → Nat} {h h' : H} {i : Nat} (hi : i ∉ ids) (hl : i < h.length) : (back ids g h h')[i]? = h[i]? := by
  have hb : has ids i = false := by
    cases hb : has ids i
    · rfl
    · exact absurd (has_iff.1 hb) hi
  simp only [back]
  rw [List.getElem?_append_left (by simpa using hl)]
  simp [List.getElem?_map, List.getElem?_zipIdx, List.getElem?_eq_getElem hl, hb]
theorem back_mid {ids : List Nat} {g : Nat → Nat} {h h' : H} {i : Nat} (hi : i ∈ ids) (hl : i < h.length) (hll : ids.length ≤ h'.length) : (back ids g h h')[i]? = (h'[pos ids i]?).map (rnB g) := by
  have hb := has_iff.2 hi
  have hp := pos_lt hi
  simp only [back]
  rw [List.getElem?_append_left (by simpa using hl)]
  simp [List.getElem?_map, List.getElem?_zipIdx, List.getElem?_eq_getElem hl, hb, get?_eq, List.getElem?_eq_getElem (show pos ids i < h'.length by omega)]
theorem back_new {ids : List Nat} {g : Nat → Nat} {h h' : H} {i : Nat} (hl : h.length ≤ i) : (back ids g h h')[i]? = (h'[ids.length + (i - h.length)]?).map (rnB g) := by
  simp only [back]
  rw [List.getElem?_append_right (by simpa using hl)]
  simp [List.getElem?_map, List.getElem?_drop]
def backρ (ids : List Nat) (ρ ρ' : List Value) : List Value :=
  (ρ.zipIdx.map fun p => bif has ids p.2 then (ρ'[pos ids p.2]?).getD undef else p.1) ++ ρ'.drop ids.length
theorem backρ_len {ids : List Nat} {ρ ρ' : List Value} : (backρ ids ρ ρ').length = ρ.length + (ρ'.length - ids.length) := by simp [backρ]
theorem backρ_old {ids : List Nat} {ρ ρ' : List Value} {i : Nat} (hi : i ∉ ids) (hl : i < ρ.length) : (backρ ids ρ ρ')[i]? = ρ[i]? := by
  have hb : has ids i = false := by
    cases hb : has ids i
    · rfl
    · exact absurd (has_iff.1 hb) hi
  simp only [backρ]
  rw [List.getElem?_append_left (by simpa using hl)]
  simp [List.getElem?_map, List.getElem?_zipIdx, List.getElem?_eq_getElem hl, hb]
theorem backρ_mid {ids : List Nat} {ρ ρ' : List Value} {i : Nat} (hi : i ∈ ids) (hl : i < ρ.length) (hll : ids.length ≤ ρ'.length) : (backρ ids ρ ρ')[i]? = ρ'[pos ids i]? := by
  have hb := has_iff.2 hi
  have hp := pos_lt hi
  simp only [backρ]
  rw [List.getElem?_append_left (by simpa using hl)]
  simp [List.getElem?_map, List.getElem?_zipIdx, List.getElem?_eq_getElem hl, hb, List.getElem?_eq_getElem (show pos ids i < ρ'.length by omega)]
theorem backρ_new {ids : List Nat} {ρ ρ' : List Value} {i : Nat} (hl : ρ.length ≤ i) : (backρ ids ρ ρ')[i]? = ρ'[ids.length + (i - ρ.length)]? := by
  simp only [backρ]
  rw [List.getElem?_append_right (by simpa using hl)]
  simp [List.getElem?_drop]
theorem backρ_home {ids : List Nat} (hn : ids.Nodup) {ρ ρ' : List Value} (hlt : ∀ i ∈ ids, i < ρ.length) (hll : ids.length ≤ ρ'.length) (k : Nat) : (backρ ids ρ ρ')[home ρ.length ids k]? = ρ'[k]? := by
  by_cases hk : k < ids.length
  · have hg := List.getElem?_eq_getElem hk
    rw [home_lt hg, backρ_mid (List.getElem_mem hk) (hlt _ (List.getElem_mem hk)) hll, get_pos hn hg]
  · rw [home_ge (by omega), backρ_new (by omega)]
    congr 1; omega
end back
end Go.Vx
