/- Each small operation does in the model what it does to the picture: stores, numbers, functions, slices of slices. Conditions: none; lemmas on the definitions before. -/
import Derived.Test.YtjpgfgajkjhonaaGreatDoorQTAE
import Derived.Laws.Concat
namespace Go.Vx
theorem lay_len {α : Type} : ∀ (cs : List α) (off : Nat) (vs : List α), (lay cs off vs).length = cs.length
 | cs, 0, [] => by cases cs <;> rfl
 | _ :: r, 0, v :: vs => by simp [lay, lay_len r 0 vs]
 | [], 0, _ :: _ => rfl
 | [], _ + 1, _ => rfl
 | c :: r, n + 1, vs => by simp [lay, lay_len r n vs]
theorem lay_get {α : Type} : ∀ (cs : List α) (off : Nat) (vs : List α) (i : Nat), (lay cs off vs)[i]? = if i < off then cs[i]? else if i - off < vs.length ∧ i < cs.length then vs[i - off]? else cs[i]?
 | cs, 0, [], i => by cases cs <;> simp [lay]
 | c :: r, 0, v :: vs, i => by
  cases i with
  | zero => simp [lay]
  | succ i =>
   have := lay_get r 0 vs i
   simp only [lay, List.getElem?_cons_succ, this]
   simp
 | [], 0, _ :: _, i => by simp [lay]
 | [], n + 1, _, i => by simp [lay]
 | c :: r, n + 1, vs, i => by
  cases i with
  | zero => simp [lay]
  | succ i =>
   have := lay_get r n vs i
   simp only [lay, List.getElem?_cons_succ, this]
   simp [Nat.add_lt_add_iff_right]
theorem set_self {α : Type} {l : List α} {i : Nat} {x : α} (h : l[i]? = some x) : l.set i x = l := by
 apply List.ext_getElem?
 intro j
 rw [List.getElem?_set]
 split
 ·rename_i hj; subst hj
  split
  ·exact h.symm
  ·rename_i hn; rw [List.getElem?_eq_none (by omega)]
 ·rfl
section
variable {E : Ent} {G : Nat → Prop} {w w' : World} {ρ : List Value} {h : H} {n : Nat} {t : T} {a : Act}
theorem Conc.upd1g (hC : Conc E n G ρ t h a w) {id : Nat} {v0 : Value} {x0 x1 : B} (hv : ρ[id]? = some v0) (hx : h[id]? = some x0) (hn : x0 ≠ .no) (hs : w.heap.size ≤ w'.heap.size)
  (same : ∀ b, b < w.heap.size → b ∉ bks v0 x0 → w'.heap[b]? = w.heap[b]?) (ho : w'.os = w.os) (ht : w'.tape = w.tape) (hou : w'.output = w.output)
  (new : RepB G w' ρ v0 x1) (hg1 : ∀ b ∈ gh x1, b ∈ bks v0 x0 ∨ w.heap.size ≤ b) : Conc E n G ρ t (h.set id x1) a w' := by
 have hset := set_self hv
 have hO := hC.ok.updg (v1 := v0) (x1 := x1) (w' := w') hv hx hn hs same ho ht hou (by rw [hset]; exact new) (fun b hb => (mem_bks.1 hb).elim (fun h => .inl (mem_bks.2 (.inl h))) (hg1 b)) (fun _ => rfl) h rfl
  (fun j y hy hj => ⟨y, hy, Iff.rfl, rfl, fun v hv' hr => by rw [hset]; exact hr⟩)
 rw [hset] at hO
 exact ⟨hO, hC.df, hC.sz, fun i => (hC.tm i).mono (fun _ h => h) (fun b hb => same b (hC.ok.hr.gl b hb) (fun e => hC.ok.hr.gd b hb ⟨id, v0, x0, hv, hx, hn, e⟩)) (fun _ _ => rfl)⟩
theorem Conc.upd1 (hC : Conc E n G ρ t h a w) {id : Nat} {v0 : Value} {x0 x1 : B} (hv : ρ[id]? = some v0) (hx : h[id]? = some x0) (hn : x0 ≠ .no) (hs : w'.heap.size = w.heap.size)
  (same : ∀ b, blk v0 ≠ some b → w'.heap[b]? = w.heap[b]?) (ho : w'.os = w.os) (ht : w'.tape = w.tape) (hou : w'.output = w.output)
  (new : RepB G w' ρ v0 x1) (hgh : gh x1 = [] := by rfl) : Conc E n G ρ t (h.set id x1) a w' :=
 hC.upd1g hv hx hn (by omega) (fun b _ hb => same b fun e => hb (mem_bks.2 (.inl e))) ho ht hou new (fun b hb => by rw [hgh] at hb; cases hb)
theorem Conc.upd2 (hC : Conc E n G ρ t h a w) {id : Nat} {v0 v1 : Value} {x0 x1 : B} (hv : ρ[id]? = some v0) (hx : h[id]? = some x0) (hn : x0 ≠ .no) (hsl : isSl v0 = true) (hs : w.heap.size ≤ w'.heap.size)
  (same : ∀ b, b < w.heap.size → blk v0 ≠ some b → w'.heap[b]? = w.heap[b]?) (ho : w'.os = w.os) (ht : w'.tape = w.tape) (hou : w'.output = w.output)
  (new : RepB G w' (ρ.set id v1) v1 x1) (hb1 : ∀ b, blk v1 = some b → blk v0 = some b ∨ w.heap.size ≤ b) (hgh : gh x1 = [] := by rfl) :
  Conc E n G (ρ.set id v1) (kilT id t) ((h.map (kilB id)).set id x1) a w' := by
 have hO := hC.ok.upd (v1 := v1) (x1 := x1) (w' := w') hv hx hn hs same ho ht hou new hb1 (fun e => by rw [hsl] at e; cases e) (h.map (kilB id)) (by simp)
  (fun j y hy hj => by
   rw [List.getElem?_map] at hy
   cases hj' : h[j]? with
   | none => rw [hj'] at hy; cases hy
   | some y0 =>
    rw [hj'] at hy; cases hy
    exact ⟨y0, rfl, by cases y0 <;> simp [kilB], gh_kilB _ _, fun v hv' hr => hr.kil hv hsl⟩) (fun b hb => by rw [hgh] at hb; cases hb)
 refine ⟨hO, hC.df, hC.sz, fun i => ?_⟩
 rw [kilT, gs_map _ rfl]
 exact ((hC.tm i).kil (v1 := v1) hv hsl).mono (fun _ h => h) (fun b hb => same b (hC.ok.hr.gl b hb) (fun e => hC.ok.hr.gd b hb ⟨id, v0, x0, hv, hx, hn, mem_bks.2 (.inl e)⟩)) (fun _ _ => rfl)
theorem capsD_ok {G : Nat → Prop} {w : World} {ρ : List Value} : ∀ {c : List V} {ds : List D} {U : Nat → Value}, capsD c = some ds → (∀ (i : Nat) (x : V), c[i]? = some x → RepK G w ρ (U i) x) → ds.length = c.length ∧ ∀ (i : Nat) (x : D), ds[i]? = some x → RepD G w (U i) x
 | [], ds, U, h, _ => by cases h; exact ⟨rfl, fun i x hx => by cases hx⟩
 | x :: r, ds, U, h, hr => by
  unfold capsD at h
  split at h
  ·rename_i a b ha hb
   cases h
   obtain ⟨h1, h2⟩ := capsD_ok (U := fun i => U (i + 1)) hb fun i x hx => hr (i + 1) x hx
   refine ⟨by simp [h1], fun i y hy => ?_⟩
   cases i with
   | succ i => exact h2 i y (by simpa using hy)
   | zero =>
    simp at hy
    subst hy
    have h0 := hr 0 x rfl
    show RepD G w (U 0) a
    generalize U 0 = u at h0
    cases x <;> cases ha
    ·cases h0 with | d h => exact h
    ·cases h0 with | e b o _ _ U1 h1 h2 h3 => exact .pt b o _ _ U1 h1 h2 h3
  ·cases h
theorem frz_ok {K : List D → T → H → Prop} : ∀ (vs : List V) (G : Nat → Prop) (t : T) (h : H) (U : Nat → Value), Conc E n G ρ t h a w → (∀ (i : Nat) (x : V), vs[i]? = some x → RepC G w ρ (U i) x) → frz vs t h K →
  ∃ (G' : Nat → Prop) (t' : T) (h' : H) (ds : List D), Conc E n G' ρ t' h' a w ∧ (∀ b, G b → G' b) ∧ ds.length = vs.length ∧ (∀ (i : Nat) (d : D), ds[i]? = some d → RepD G' w (U i) d) ∧ K ds t' h' := by
 intro vs
 induction vs generalizing K with
 | nil => intro G t h U hC _ hk; exact ⟨G, t, h, [], hC, fun _ h => h, rfl, by simp, hk⟩
 | cons v vs ih =>
  intro G t h U hC hU hk
  have hv := hU 0 v rfl
  have go : ∀ (d : D) (G1 : Nat → Prop) (t1 : T) (h1 : H), Conc E n G1 ρ t1 h1 a w → (∀ b, G b → G1 b) → RepD G1 w (U 0) d → frz vs t1 h1 (fun xs t h => K (d :: xs) t h) →
    ∃ (G' : Nat → Prop) (t' : T) (h' : H) (ds : List D), Conc E n G' ρ t' h' a w ∧ (∀ b, G b → G' b) ∧ ds.length = (v :: vs).length ∧ (∀ (i : Nat) (d : D), ds[i]? = some d → RepD G' w (U i) d) ∧ K ds t' h' := by
   intro d G1 t1 h1 hC1 hG1 hd hk1
   obtain ⟨G', t', h', ds, g1, g2, g3, g4, g5⟩ := ih G1 t1 h1 (fun i => U (i + 1)) hC1 (fun i x hi => (hU (i + 1) x (by simpa using hi)).mono hG1 (fun _ _ => rfl) (fun _ _ => rfl)) hk1
   refine ⟨G', t', h', d :: ds, g1, fun b hb => g2 b (hG1 b hb), by simp [g3], fun i y hi => ?_, g5⟩
   cases i with
   | zero => simp at hi; subst hi; exact hd.mono g2 (fun _ _ => rfl)
   | succ i => exact g4 i y (by simpa using hi)
  cases v with
  | d x =>
   exact go x G t h hC (fun _ h => h) (Rep2.c hv).toD hk
  | cl z rs =>
   have : RepD G w (U 0) (.sl z rs) := by
    have := (Rep2.c hv).cll
    obtain ⟨a', n', h1, h2⟩ := this
    rw [h1]; exact h2
   exact go _ G t h hC (fun _ h => h) this hk
  | fc f caps =>
   cases caps with
   | nil =>
    have : RepD G w (U 0) (.fn f) := by
     obtain ⟨cs, h1, h2, _⟩ := (Rep2.c hv).fcl
     rw [fcv_nil h1 (by simpa using h2)]
     exact .fn f
    exact go _ G t h hC (fun _ h => h) this hk
   | cons c cs =>
    simp only [frz_cons, frz1] at hk
    split at hk
    ·rename_i ds hD
     have : RepD G w (U 0) (.fc f ds) := by
      generalize U 0 = u at hv
      cases hv with
      | k h => cases h
      | fc _ _ as _ h1 h2 h3 =>
       obtain ⟨h4, h5⟩ := capsD_ok hD (U := fun i => as.getD i undef) h3
       exact .fc f _ as ds h1 (h2.trans h4.symm) h5
     exact go _ G t h hC (fun _ h => h) this hk
    ·exact hk.elim
  | os id =>
   simp only [frz_cons, frz1, get?_eq] at hk
   split at hk
   ·rename_i z rs hx
    simp only [flt_eq, flb_eq] at hk
    obtain ⟨v0, hv0, hd, hC'⟩ := hC.free hx
    obtain ⟨a', n', c', h1, h2⟩ := (Rep2.c hv).osl
    rw [hv0] at h2
    cases h2
    rw [← h1] at hd hC'
    exact go _ _ _ _ hC' (fun b hb => .inl hb) hd hk
   ·exact hk.elim
  | un | ud | ag _ | tu _ | p _ _ | e _ _ | q _ _ _ _ | nl _ | mp _ | ov _ _ _ | it _ _ => exact hk.elim
end
section
variable {P : Program} {E : Ent} {n : Nat} {G : Nat → Prop} {ρ : List Value} {t : T} {h : H} {a : Act} {w : World} {o : Oper} {nxt : Act → World → Prop} {Q : Exit → Act → World → Prop} {K KP : V → T → H → Prop}
variable (S : Nat → List V → H → (Out → H → Prop) → Prop) (ow : Nat → Bool)
theorem run_st {ty ty' : TypeId} {b off m : Nat} {arr : Array Value} {v : Value} (hb : w.heap[b]? = some (.cells arr ty' (0, 0))) (hm : (P.info? ty).map (·.size) = some m) (hs : v.cells.size = m) (hle : off + m ≤ arr.size) (h1 : ∀ u ∈ v.cells.toList, u.oneCell' = true) :
  (storeVar ty ⟨b, off, none⟩ v).run P w = .ok () (w.setRow b (arr.toList.take off ++ v.cells.toList ++ arr.toList.drop (off + m)).toArray) := by
 cases hi : P.info? ty with
 | none => rw [hi] at hm; cases hm
 | some i =>
  rw [hi] at hm
  simp at hm
  have := run_storeCells_at (P := P) b off ty' v.cells.toList 0 arr w hb (by simp; omega) h1
  simp only [Nat.add_zero, Array.length_toList, hs] at this
  simp [storeVar, sizeOf, typeInfo, hi, hm, hs, this]
theorem row_get {arr : Array Value} {off m : Nat} {us : List Value} (hm : us.length = m) (hle : off + m ≤ arr.size) (i : Nat) : (arr.toList.take off ++ us ++ arr.toList.drop (off + m)).toArray.getD i undef = if off ≤ i ∧ i < off + m then us.getD (i - off) undef else arr.getD i undef := by
 simp only [Array.getD_eq_getD_getElem?, List.getElem?_toArray, List.getD_eq_getElem?_getD]
 by_cases h1 : i < off
 ·rw [List.append_assoc, List.getElem?_append_left (by simp; omega), List.getElem?_take, if_pos h1, if_neg (by omega)]
  simp
 ·by_cases h2 : i < off + m
  ·rw [List.append_assoc, List.getElem?_append_right (by simp; omega), List.getElem?_append_left (by simp; omega), if_pos (by omega)]
   simp [Nat.min_eq_left (by omega : off ≤ arr.size)]
  ·rw [List.getElem?_append_right (by simp; omega), if_neg (by omega)]
   simp only [List.length_append, List.length_take, Array.length_toList, List.getElem?_drop, hm, Nat.min_eq_left (by omega : off ≤ arr.size)]
   rw [show off + m + (i - (off + m)) = i by omega]
   simp
theorem op_st (hC : Conc E n G ρ t h a w) (hn : Nxt E n a o K nxt) {ty t1 t2 : TypeId} {x v : Operand} {ox ov : O} {m : Nat} (ho : o.op = .store ty x v) (hx : opd P t1 x = some ox) (hv : opd P t2 v = some ov) (hm : (P.info? ty).map (·.size) = some m)
  (hk : opx S ow (.st ox ov m) t h K KP) : o.wp P a w nxt Q := by
 have hvx := opd_ok hC hx
 have hvv := opd_ok hC hv
 simp only [opx] at hk
 split at hk
 ·rename_i id off hg
  rw [hg] at hvx
  obtain ⟨b, hp, hρ⟩ := hvx.pt
  rw [get?_eq] at hk
  split at hk
  ·rename_i cs hcs
   simp only [fl_eq] at hk
   obtain ⟨⟨hl, hle, hst⟩, hk⟩ := hk
   have hl := nbq hl
   have hle := Nat.le_of_ble_eq_true hle
   obtain ⟨c1, c2⟩ := cells_ok hvv hst
   obtain ⟨b', arr, ty', hb, h1, h2, h3⟩ := hC.ok.hr.rep id _ _ hρ hcs
   simp only [Value.pointer.injEq, Option.some.injEq, Addr.mk.injEq, and_true] at hb
   obtain ⟨rfl, _⟩ := hb
   have hone : ∀ u ∈ (a.eval v).cells.toList, u.oneCell' = true := by
    intro u hu
    obtain ⟨j, hj⟩ := List.mem_iff_getElem?.1 hu
    have hjl : j < (gv t ov).cs.length := by
     have := (List.getElem?_eq_some_iff.1 hj).1
     simp [c1] at this; exact this
    have hr := c2 j _ (List.getElem?_eq_getElem hjl)
    have he : (a.eval v).cells.getD j undef = u := by
     rw [Array.getD_eq_getD_getElem?, ← Array.getElem?_toList, hj]; rfl
    rw [he] at hr
    exact one_ok hr (List.all_eq_true.1 hst _ (List.getElem_mem hjl))
   have hrun := run_st (P := P) (ty := ty) (off := off) (v := a.eval v) h1 hm (by rw [c1, hl]) (by omega) hone
   have hlt : b < w.heap.size := (Array.getElem?_eq_some_iff.1 h1).1
   have hC' := hC.upd1 (w' := w.setRow b (arr.toList.take off ++ (a.eval v).cells.toList ++ arr.toList.drop (off + m)).toArray) (x1 := .cells (lay cs off (gv t ov).cs)) hρ hcs (by simp) (by simp)
    (fun c hc => setRow_other w b c _ (by simp only [blk, ne_eq, Option.some.injEq] at hc; omega)) rfl rfl rfl
    ⟨b, _, ty', rfl, setRow_heap w b arr _ ty' _ h1, by simp [lay_len, c1, hl]; omega, fun i y hi => by
     rw [row_get (by simp [c1, hl]) (by omega)]
     rw [lay_get] at hi
     have hs' : ∀ c, G c → (w.setRow b (arr.toList.take off ++ (a.eval v).cells.toList ++ arr.toList.drop (off + m)).toArray).heap[c]? = w.heap[c]? := fun c hc => setRow_other w b c _ (fun e => by
      subst e; exact hC.ok.hr.gd c hc ⟨id, _, _, hρ, hcs, by simp, mem_bks.2 (.inl rfl)⟩)
     by_cases hio : i < off
     ·rw [if_pos hio] at hi
      rw [if_neg (by omega)]
      exact (h3 i y hi).mono (fun _ h => h) hs' (fun _ _ => rfl)
     ·rw [if_neg hio] at hi
      by_cases him : i < off + m
      ·rw [if_pos ⟨by omega, by omega⟩] at hi
       rw [if_pos ⟨by omega, him⟩]
       have := c2 _ y hi
       rw [Array.getD_eq_getD_getElem?, ← Array.getElem?_toList] at this
       rw [List.getD_eq_getElem?_getD]
       exact this.mono (fun _ h => h) hs' (fun _ _ => rfl)
      ·rw [if_neg (by omega)] at hi
       rw [if_neg (by omega)]
       exact (h3 i y hi).mono (fun _ h => h) hs' (fun _ _ => rfl)⟩
   refine wp_unit ?_ (hn undef _ _ _ _ _ _ hC' (.k .ud) hk)
   simp [execOp, ho, hp, Instr.storeAt, Instr.sureAddr, hrun]
  ·exact hk.elim
 ·rename_i id z i off hg
  rw [hg] at hvx
  obtain ⟨b, nn, c, hp, hρ⟩ := hvx.ql
  have hk2 : (∃ j, gv t ov = .os j ∧ stx id z i off m j h fun h => K .ud t h) ∨ stq id z i off m (gv t ov).cs t h fun t h => K .ud t h := by
   cases hgv : gv t ov with
   | os j => rw [hgv] at hk; exact (rxn_or hk).imp (fun h => ⟨_, rfl, h⟩) (fun h => h)
   | _ => rw [hgv] at hk; exact .inr hk
  clear hk
  rcases hk2 with ⟨j, hj, hk⟩ | hk
  ·skip
   rw [hj] at hvv
   obtain ⟨aa, n2, c2, hval, hρj⟩ := hvv.osl
   unfold stx at hk
   rw [get?_eq] at hk
   split at hk
   ·rename_i z' rs hrs
    obtain ⟨row, hrow, ⟨hz, hl, hle⟩, hk⟩ := hk
    simp only [flv_eq, fl_eq] at hk
    obtain rfl := nbq hz
    obtain rfl := nbq hl
    have hle := Nat.le_of_ble_eq_true hle
    have hcl : (a.eval v).cells = #[.slice aa n2 c2] := by rw [hval]; rfl
    obtain ⟨b', cap, arr, ty', hb, h1, hrz, hle2, h3⟩ := rows_cell (hC.ok.hr.rep id _ _ hρ hrs) hrow
    simp only [Value.slice.injEq, Option.some.injEq, Addr.mk.injEq, and_true] at hb
    obtain ⟨rfl, rfl, rfl⟩ := hb
    have hone : ∀ u ∈ (a.eval v).cells.toList, u.oneCell' = true := by
     intro u hu
     rw [hcl] at hu
     simp only [List.mem_singleton] at hu
     rw [hu]
     rfl
    have hrun := run_st (P := P) (ty := ty) (off := i * z + off) (v := a.eval v) h1 hm (by rw [hcl]; rfl) (by omega) hone
    rcases hC.ok.hr.rep id _ _ hρ hrs with ⟨he, _⟩ | ⟨b2, cap2, arr2, ty2, he, k1, k2, k3, k4, k5⟩
    ·cases he
    ·simp only [Value.slice.injEq, Option.some.injEq, Addr.mk.injEq, and_true] at he
     obtain ⟨rfl, _, rfl⟩ := he
     rw [h1] at k1
     simp only [Option.some.injEq, Obj.cells.injEq, and_true] at k1
     obtain ⟨rfl, rfl⟩ := k1
     have hil : i < rs.length := (List.getElem?_eq_some_iff.1 hrow).1
     have hs' : ∀ b3, G b3 → (w.setRow b (arr.toList.take (i * z + off) ++ (a.eval v).cells.toList ++ arr.toList.drop (i * z + off + 1)).toArray).heap[b3]? = w.heap[b3]? := fun b3 hc => setRow_other w b b3 _ (fun e => by
      subst e; exact hC.ok.hr.gd _ hc ⟨id, _, _, hρ, hrs, by simp, mem_bks.2 (.inl rfl)⟩)
     have hC2 := hC.upd1 (w' := w.setRow b (arr.toList.take (i * z + off) ++ (a.eval v).cells.toList ++ arr.toList.drop (i * z + off + 1)).toArray) (x1 := .rx z rs i (lay (row.map .d) off [V.os j])) hρ hrs (by simp) (by simp)
      (fun c hc => setRow_other w b c _ (by simp only [blk, ne_eq, Option.some.injEq] at hc; omega)) rfl rfl rfl
      ⟨b, c, _, ty', rfl, setRow_heap w b arr _ ty' _ h1, k2, k3, by
       simp only [List.size_toArray, List.length_append, List.length_take, List.length_drop, Array.length_toList, hcl, List.length_cons, List.length_nil]; omega,
       ⟨hil, by rw [lay_len, List.length_map, hrz]⟩, fun i' row' hi' hne => by
       refine ⟨(k5 i' row' hi').1, fun jj x hj' => ?_⟩
       have hrl := (k5 i' row' hi').1
       have hjl : jj < z := by rw [← hrl]; exact (List.getElem?_eq_some_iff.1 hj').1
       rw [row_get (m := 1) (by rw [hcl]; rfl) (by omega)]
       rw [if_neg (by
        intro hh
        rcases Nat.lt_or_gt_of_ne (fun e => hne e : i' ≠ i) with hlt | hgt
        ·have : (i' + 1) * z ≤ i * z := Nat.mul_le_mul_right _ hlt
         rw [Nat.add_mul] at this; omega
        ·have : (i + 1) * z ≤ i' * z := Nat.mul_le_mul_right _ hgt
         rw [Nat.add_mul] at this; omega)]
       exact ((k5 i' row' hi').2 jj x hj').mono (fun _ h => h) hs', fun jj x hj' => by
       rw [row_get (m := 1) (by rw [hcl]; rfl) (by omega)]
       rw [lay_get] at hj'
       by_cases hjo : jj < off
       ·rw [if_pos hjo, List.getElem?_map] at hj'
        rw [if_neg (by omega)]
        cases hr : row[jj]? with
        | none => rw [hr] at hj'; cases hj'
        | some x0 => rw [hr] at hj'; cases hj'; exact .k (.d ((h3 jj x0 hr).2.mono (fun _ h => h) hs'))
       ·rw [if_neg hjo] at hj'
        by_cases hjm : jj < off + 1
        ·rw [if_pos ⟨by simp only [List.length_cons, List.length_nil]; omega, by rw [List.length_map]; omega⟩] at hj'
         rw [if_pos ⟨by omega, by omega⟩]
         obtain rfl : jj = off := by omega
         simp only [Nat.sub_self, List.getElem?_cons_zero, Option.some.injEq] at hj'
         subst hj'
         rw [hcl]
         simp only [Nat.sub_self]
         exact .k (.os j aa n2 c2 hρj)
        ·rw [if_neg (by simp only [List.length_cons, List.length_nil]; omega), List.getElem?_map] at hj'
         rw [if_neg (by omega)]
         cases hr : row[jj]? with
         | none => rw [hr] at hj'; cases hj'
         | some x0 => rw [hr] at hj'; cases hj'; exact .k (.d ((h3 jj x0 hr).2.mono (fun _ h => h) hs'))⟩
     refine wp_unit ?_ (hn undef _ _ _ _ _ _ hC2 (.k .ud) hk)
     simp [execOp, ho, hp, Instr.storeAt, Instr.sureAddr, hrun]
   ·exact hk.elim
  unfold stq at hk
  by_cases hst : (gv t ov).cs.all stor = true
  ·obtain ⟨c1, c2⟩ := cells_ok hvv hst
   obtain ⟨G', t', h', ds, hC1, hG', hdl, hds, hk⟩ := frz_ok (gv t ov).cs G t h (fun i => (a.eval v).cells.getD i undef) hC c2 hk
   rw [get?_eq] at hk
   split at hk
   ·rename_i z' rs hrs
    simp only [fl_eq] at hk
    obtain ⟨row, hrow, ⟨hz, hl, hle⟩, hk⟩ := hk
    obtain rfl := nbq hz
    have hl := nbq hl
    have hle := Nat.le_of_ble_eq_true hle
    obtain ⟨b', cap, arr, ty', hb, h1, hrz, hle2, h3⟩ := rows_cell (hC1.ok.hr.rep id _ _ hρ hrs) hrow
    simp only [Value.slice.injEq, Option.some.injEq, Addr.mk.injEq, and_true] at hb
    obtain ⟨rfl, rfl, rfl⟩ := hb
    have hone : ∀ u ∈ (a.eval v).cells.toList, u.oneCell' = true := by
     intro u hu
     obtain ⟨j, hj⟩ := List.mem_iff_getElem?.1 hu
     have hjl : j < (gv t ov).cs.length := by
      have := (List.getElem?_eq_some_iff.1 hj).1
      simp [c1] at this; exact this
     have hr := c2 j _ (List.getElem?_eq_getElem hjl)
     have he : (a.eval v).cells.getD j undef = u := by
      rw [Array.getD_eq_getD_getElem?, ← Array.getElem?_toList, hj]; rfl
     rw [he] at hr
     exact one_ok hr (List.all_eq_true.1 hst _ (List.getElem_mem hjl))
    have hrun := run_st (P := P) (ty := ty) (off := i * z + off) (v := a.eval v) h1 hm (by rw [c1, ← hdl, hl]) (by omega) hone
    have hrep := hC1.ok.hr.rep id _ _ hρ hrs
    rcases hrep with ⟨he, _⟩ | ⟨b2, cap2, arr2, ty2, he, k1, k2, k3, k4, k5⟩
    ·cases he
    ·simp only [Value.slice.injEq, Option.some.injEq, Addr.mk.injEq, and_true] at he
     obtain ⟨rfl, _, rfl⟩ := he
     rw [h1] at k1
     simp only [Option.some.injEq, Obj.cells.injEq, and_true] at k1
     obtain ⟨rfl, rfl⟩ := k1
     have hil : i < rs.length := (List.getElem?_eq_some_iff.1 hrow).1
     have hC2 := hC1.upd1 (w' := w.setRow b (arr.toList.take (i * z + off) ++ (a.eval v).cells.toList ++ arr.toList.drop (i * z + off + m)).toArray) (x1 := .rows z (rs.set i (lay row off ds))) hρ hrs (by simp) (by simp)
      (fun c hc => setRow_other w b c _ (by simp only [blk, ne_eq, Option.some.injEq] at hc; omega)) rfl rfl rfl
      (.inr ⟨b, c, _, ty', by simp, setRow_heap w b arr _ ty' _ h1, by simpa using k2, k3, by
       simp only [List.size_toArray, List.length_append, List.length_take, List.length_drop, Array.length_toList, c1, ← hdl, hl]; omega, fun i' row' hi' => by
       have hs' : ∀ c, G' c → (w.setRow b (arr.toList.take (i * z + off) ++ (a.eval v).cells.toList ++ arr.toList.drop (i * z + off + m)).toArray).heap[c]? = w.heap[c]? := fun c hc => setRow_other w b c _ (fun e => by
        subst e; exact hC1.ok.hr.gd c hc ⟨id, _, _, hρ, hrs, by simp, mem_bks.2 (.inl rfl)⟩)
       rw [List.getElem?_set] at hi'
       split at hi'
       ·rename_i hii
        subst hii
        cases hi'
        refine ⟨by rw [lay_len, hrz], fun j x hj => ?_⟩
        rw [row_get (by simp [c1, ← hdl, hl]) (by omega)]
        rw [lay_get] at hj
        by_cases hjo : j < off
        ·rw [if_pos hjo] at hj
         rw [if_neg (by omega)]
         exact (h3 j x hj).2.mono (fun _ h => h) hs'
        ·rw [if_neg hjo] at hj
         by_cases hjm : j < off + m
         ·rw [if_pos ⟨by omega, by omega⟩] at hj
          rw [if_pos ⟨by omega, by omega⟩]
          have := hds _ x hj
          rw [show i * z + j - (i * z + off) = j - off by omega]
          rw [Array.getD_eq_getD_getElem?, ← Array.getElem?_toList] at this
          rw [List.getD_eq_getElem?_getD]
          exact this.mono (fun _ h => h) hs'
         ·rw [if_neg (by omega)] at hj
          rw [if_neg (by omega)]
          exact (h3 j x hj).2.mono (fun _ h => h) hs'
       ·rename_i hii
        refine ⟨(k5 i' row' hi').1, fun j x hj => ?_⟩
        have hrl := (k5 i' row' hi').1
        have hjl : j < z := by rw [← hrl]; exact (List.getElem?_eq_some_iff.1 hj).1
        rw [row_get (by simp [c1, ← hdl, hl]) (by omega)]
        rw [if_neg (by
         intro hh
         rcases Nat.lt_or_gt_of_ne (fun e => hii e : i ≠ i') with hlt | hgt
         ·have : (i + 1) * z ≤ i' * z := Nat.mul_le_mul_right _ hlt
          rw [Nat.add_mul] at this; omega
         ·have : (i' + 1) * z ≤ i * z := Nat.mul_le_mul_right _ hgt
          rw [Nat.add_mul] at this; omega)]
        exact ((k5 i' row' hi').2 j x hj).mono (fun _ h => h) hs'⟩)
     refine wp_unit ?_ (hn undef _ _ _ _ _ _ hC2 (.k .ud) hk)
     simp [execOp, ho, hp, Instr.storeAt, Instr.sureAddr, hrun]
   ·exact hk.elim
  ·skip
   exfalso
   apply hst
   have : ∀ (vs : List V) (t : T) (h : H) (K : List D → T → H → Prop), frz vs t h K → vs.all stor = true := by
    intro vs
    induction vs with
    | nil => intros; rfl
    | cons v vs ih =>
     intro t h K hf
     cases v <;> first | exact hf.elim | skip
     ·simpa [stor] using ih _ _ _ hf
     ·rename_i id
      simp only [frz_cons, frz1] at hf
      split at hf
      ·simp only [flt_eq, flb_eq] at hf
       simpa [stor] using ih _ _ _ hf
      ·exact hf.elim
     ·simpa [stor] using ih _ _ _ hf
     ·rename_i f caps
      cases caps with
      | nil => simpa [stor] using ih _ _ _ hf
      | cons =>
       simp only [frz_cons, frz1] at hf
       split at hf
       ·simpa [stor] using ih _ _ _ hf
       ·exact hf.elim
   exact this _ _ _ _ hk
 ·exact hk.elim
end
end Go.Vx
namespace Go.Vx
theorem wrap_in {k : IntKind} {n : Int} (h : inR k n) : k.wrap n = n := by
 unfold IntKind.wrap
 cases k <;> simp only [inR] at h <;> simp [IntKind.bits, IntKind.signed] <;> omega
theorem fn_val {G : Nat → Prop} {w : World} {v : Value} {f : Nat} (h : RepD G w v (.fn f)) : v = .func (.func f) #[] #[] := by cases h; rfl
section
variable {P : Program} {E : Ent} {n : Nat} {G : Nat → Prop} {ρ : List Value} {t : T} {h : H} {a : Act} {w : World} {o : Oper} {nxt : Act → World → Prop} {Q : Exit → Act → World → Prop} {K KP : V → T → H → Prop}
variable (S : Nat → List V → H → (Out → H → Prop) → Prop) (ow : Nat → Bool)
theorem ari_ok (hC : Conc E n G ρ t h a w) (hn : Nxt E n a o K nxt) {k : IntKind} {m : Int} (hr : (execOp a.eval o).run P w = .ok (.value (.int k (k.wrap m))) w) (hk : ari k m fun m => K (.d (.int k m)) t h) : o.wp P a w nxt Q := by
 rcases hk with ⟨h1, h2⟩ | h2
 ·rw [wrap_in h1] at hr
  exact wp_quiet hC hn hr (.d (.int k m)) h2
 ·exact wp_quiet hC hn hr (.d (.int k _)) h2
theorem op_bin (hC : Conc E n G ρ t h a w) (hn : Nxt E n a o K nxt) {b : BinOp} {ty t1 t2 t3 : TypeId} {x y : Operand} {ox oy : O} (ho : o.op = .binOp b ty x y t3) (hx : opd P t1 x = some ox) (hy : opd P t2 y = some oy)
  (hk : opx S ow (.bin b ox oy) t h K KP) : o.wp P a w nxt Q := by
 have hvx := opd_ok hC hx
 have hvy := opd_ok hC hy
 simp only [opx] at hk
 split at hk
 ·rename_i p q hgx hgy
  rw [hgx] at hvx
  rw [hgy] at hvy
  obtain ⟨s1, e1, rfl, m1⟩ := hvx.str
  obtain ⟨s2, e2, rfl, m2⟩ := hvy.str
  cases b <;> simp only at hk <;> try exact hk.elim
  have hsz : (s1 ++ s2).size ≤ maxLen := by
   have h1 := hk.1
   rw [Array.length_toList, Array.length_toList] at h1
   rw [ByteArray.size_append]
   exact h1
  have hadd := run_string_add_sum (P := P) (w := w) s1 s2 (by
   have h1 := hk.1
   rw [Array.length_toList, Array.length_toList] at h1
   exact h1)
  refine wp_quiet hC hn (v' := .string (s1 ++ s2)) ?_ (.d ?_) hk.2
  ·simp [execOp, ho, e1, e2, eqGuard, binOp, hadd]
  ·have := RepD.str (G := G) (w := w) (s1 ++ s2) hsz
   simpa using this
 ·rename_i k p k' q hgx hgy
  rw [hgx] at hvx
  rw [hgy] at hvy
  have e1 := hvx.int
  have e2 := hvy.int
  cases hsh : shf b <;> rw [hsh] at hk
  rotate_left
  ·simp only [cond_true] at hk
   obtain ⟨h0, hk⟩ := hk
   have hr : (execOp a.eval o).run P w = .ok (.value (.int k (shv b k p q))) w := by
    cases b <;> simp only [shf, Bool.false_eq_true] at hsh
    ·simp [execOp, ho, e1, e2, eqGuard, binOp, Op.shift, shv, if_neg (Int.not_lt.2 h0)]
    ·simp [execOp, ho, e1, e2, eqGuard, binOp, Op.shift, shv, if_neg (Int.not_lt.2 h0)]
   exact wp_quiet hC hn hr (.d (.int _ _)) hk
  simp only [cond_false] at hk
  cases hkn : Nat.beq (kn k) (kn k') <;> rw [hkn] at hk
  ·exact hk.elim
  obtain rfl : k = k' := by revert hkn; cases k <;> cases k' <;> simp [kn]
  simp only [cond_true] at hk
  cases b <;> simp only at hk <;> try (first | exact hk.elim | (simp [shf] at hsh; done))
  ·exact ari_ok hC hn (by simp [execOp, ho, e1, e2, eqGuard, binOp, Op.intArith]) hk
  ·exact ari_ok hC hn (by simp [execOp, ho, e1, e2, eqGuard, binOp, Op.intArith]) hk
  ·exact ari_ok hC hn (by simp [execOp, ho, e1, e2, eqGuard, binOp, Op.intArith]) hk
  ·exact ari_ok hC hn (by simp [execOp, ho, e1, e2, eqGuard, binOp, Op.intDiv, hk.1]) hk.2
  ·exact wp_quiet hC hn (v' := .int k (p.tmod q)) (by simp [execOp, ho, e1, e2, eqGuard, binOp, Op.intDiv, hk.1]) (.d (.int _ _)) hk.2
  ·exact wp_quiet hC hn (v' := .int k (bitv .and k p q)) (by simp [execOp, ho, e1, e2, eqGuard, binOp, Op.intBits, bitv]) (.d (.int _ _)) hk
  ·exact wp_quiet hC hn (v' := .int k (bitv .or k p q)) (by simp [execOp, ho, e1, e2, eqGuard, binOp, Op.intBits, bitv]) (.d (.int _ _)) hk
  ·exact wp_quiet hC hn (v' := .int k (bitv .xor k p q)) (by simp [execOp, ho, e1, e2, eqGuard, binOp, Op.intBits, bitv]) (.d (.int _ _)) hk
  ·exact wp_quiet hC hn (v' := .int k (bitv .andNot k p q)) (by simp [execOp, ho, e1, e2, eqGuard, binOp, Op.intBits, bitv]) (.d (.int _ _)) hk
  ·exact wp_quiet hC hn (v' := .bool (p == q)) (by simp [execOp, ho, e1, e2, eqGuard, binOp, Op.intCmp]) (.d (.bool _)) hk
  ·exact wp_quiet hC hn (v' := .bool (p != q)) (by simp [execOp, ho, e1, e2, eqGuard, binOp, Op.intCmp]) (.d (.bool _)) hk
  ·exact wp_quiet hC hn (v' := .bool (decide (p < q))) (by simp [execOp, ho, e1, e2, eqGuard, binOp, Op.intCmp]) (.d (.bool _)) hk
  ·exact wp_quiet hC hn (v' := .bool (decide (p ≤ q))) (by simp [execOp, ho, e1, e2, eqGuard, binOp, Op.intCmp]) (.d (.bool _)) hk
  ·exact wp_quiet hC hn (v' := .bool (decide (q < p))) (by simp [execOp, ho, e1, e2, eqGuard, binOp, Op.intCmp]) (.d (.bool _)) hk
  ·exact wp_quiet hC hn (v' := .bool (decide (q ≤ p))) (by simp [execOp, ho, e1, e2, eqGuard, binOp, Op.intCmp]) (.d (.bool _)) hk
 ·exact hk.elim
theorem op_un (hC : Conc E n G ρ t h a w) (hn : Nxt E n a o K nxt) {u : UnOp} {ty t1 : TypeId} {x : Operand} {ox : O} (ho : o.op = .unOp u ty x) (hx : opd P t1 x = some ox) (hk : opx S ow (.un u ox) t h K KP) : o.wp P a w nxt Q := by
 have hvx := opd_ok hC hx
 simp only [opx] at hk
 split at hk
 ·rename_i b hgx
  rw [hgx] at hvx
  have e1 := hvx.bool
  exact wp_quiet hC hn (v' := .bool (!b)) (by simp [execOp, ho, e1, Op.unary]) (.d (.bool _)) hk
 ·rename_i k p hgx
  rw [hgx] at hvx
  have e1 := hvx.int
  exact ari_ok hC hn (by simp [execOp, ho, e1, Op.unary, Op.intArith]) hk
 ·exact hk.elim
theorem op_cv (hC : Conc E n G ρ t h a w) (hn : Nxt E n a o K nxt) {s d t1 : TypeId} {k ks : IntKind} {x : Operand} {ox : O} (ho : o.op = .convert s d x) (hs : P.underlying s = some (.int ks)) (hd : P.underlying d = some (.int k)) (hx : opd P t1 x = some ox) (hk : opx S ow (.cv k ox) t h K KP) : o.wp P a w nxt Q := by
 have hvx := opd_ok hC hx
 simp only [opx] at hk
 split at hk
 ·rename_i k' p hgx
  rw [hgx] at hvx
  have e1 := hvx.int
  exact ari_ok hC hn (by simp [execOp, ho, e1, Go.convert, run_underlying hs, run_underlying hd, Conv.intToInt]) hk
 ·exact hk.elim
theorem op_ln (hC : Conc E n G ρ t h a w) (hn : Nxt E n a o K nxt) {ty t1 e : TypeId} {x : Operand} {ox : O} (ho : o.op = .call { callee := .builtin .len, args := #[x], argTypes := #[ty] })
  (hu : P.underlying ty = some (.slice e)) (hx : opd P t1 x = some ox) (hk : opx S ow (.ln ox) t h K KP) : o.wp P a w nxt Q := by
 have hvx := dv_ok (opd_ok hC hx)
 have sl : ∀ (ad : Option Addr) (m c : Nat), a.eval x = .slice ad m c → (execOp a.eval o).run P w = .ok (.value (.int .i64 m)) w := by
  intro ad m c hv
  simp [execOp, ho, resolve, invoke, builtin, Builtin.len_, hv, run_underlying hu, goInt]
 simp only [opx] at hk
 split at hk
 ·rename_i z r hg
  rw [hg] at hvx
  obtain ⟨ad, c, hv, hl⟩ := hvx.toD.len
  exact wp_quiet hC hn (sl _ _ _ hv) (.d (.int _ _)) (hk hl)
 ·rename_i z r hg
  rw [hg] at hvx
  obtain ⟨ad, m, hv, hD⟩ := hvx.cll
  obtain ⟨ad', c, hv', hl⟩ := hD.len
  rw [hv'] at hv
  exact wp_quiet hC hn (sl _ _ _ hv) (.d (.int _ _)) (hk hl)
 ·rename_i id hg
  rw [hg] at hvx
  obtain ⟨ad, m, c, hv, hρ⟩ := hvx.osl
  rw [get?_eq] at hk
  split at hk
  ·rename_i z r hr
   rcases hC.ok.hr.rep id _ _ hρ hr with ⟨he, rfl⟩ | ⟨b, cap, arr, ty', he, _, hlc, hcm, _⟩
   ·cases he
    exact wp_quiet hC hn (sl _ _ _ hv) (.d (.int _ _)) (hk (by simp))
   ·cases he
    exact wp_quiet hC hn (sl _ _ _ hv) (.d (.int _ _)) (hk (Nat.le_trans hlc hcm))
  ·exact hk.elim
 ·exact hk.elim
theorem size_list (s : ByteArray) : s.size = s.data.toList.length := (Array.length_toList (xs := s.data)).symm
theorem op_ls (hC : Conc E n G ρ t h a w) (hn : Nxt E n a o K nxt) {ty t1 : TypeId} {x : Operand} {ox : O} (ho : o.op = .call { callee := .builtin .len, args := #[x], argTypes := #[ty] })
  (hu : P.underlying ty = some .string) (hx : opd P t1 x = some ox) (hk : opx S ow (.ls ox) t h K KP) : o.wp P a w nxt Q := by
 have hvx := opd_ok hC hx
 simp only [opx] at hk
 split at hk
 ·rename_i s hg
  rw [hg] at hvx
  obtain ⟨s', hv, rfl, hm⟩ := hvx.str
  refine wp_quiet hC hn (v' := .int .i64 s'.size) ?_ (.d ?_) (hk (by rw [← size_list]; exact hm))
  ·simp [execOp, ho, resolve, invoke, builtin, Builtin.len_, hv, run_underlying hu, goInt]
  ·rw [← size_list]; exact .int _ _
 ·exact hk.elim
theorem op_mn (hC : Conc E n G ρ t h a w) (hn : Nxt E n a o K nxt) {ts : Array TypeId} {t1 t2 : TypeId} {x y : Operand} {ox oy : O} (ho : o.op = .call { callee := .builtin .min, args := #[x, y], argTypes := ts })
  (hx : opd P t1 x = some ox) (hy : opd P t2 y = some oy) (hk : opx S ow (.mn ox oy) t h K KP) : o.wp P a w nxt Q := by
 have hvx := opd_ok hC hx
 have hvy := opd_ok hC hy
 simp only [opx] at hk
 split at hk
 ·rename_i k p k' q hgx hgy
  rw [hgx] at hvx
  rw [hgy] at hvy
  have e1 := hvx.int
  have e2 := hvy.int
  refine wp_quiet hC hn (v' := .int k (min p q)) ?_ (.d (.int _ _)) hk
  have : (if q < p then q else p) = min p q := by omega
  simp [execOp, ho, resolve, invoke, builtin, Builtin.min_, Builtin.min2, e1, e2, this]
 ·exact hk.elim
theorem op_mx (hC : Conc E n G ρ t h a w) (hn : Nxt E n a o K nxt) {ts : Array TypeId} {t1 t2 : TypeId} {x y : Operand} {ox oy : O} (ho : o.op = .call { callee := .builtin .max, args := #[x, y], argTypes := ts })
  (hx : opd P t1 x = some ox) (hy : opd P t2 y = some oy) (hk : opx S ow (.mx ox oy) t h K KP) : o.wp P a w nxt Q := by
 have hvx := opd_ok hC hx
 have hvy := opd_ok hC hy
 simp only [opx] at hk
 split at hk
 ·rename_i k p k' q hgx hgy
  rw [hgx] at hvx
  rw [hgy] at hvy
  have e1 := hvx.int
  have e2 := hvy.int
  refine wp_quiet hC hn (v' := .int k (max p q)) ?_ (.d (.int _ _)) hk
  have : (if q > p then q else p) = max p q := by omega
  have h' : (if p < q then q else p) = max p q := by omega
  simp [execOp, ho, resolve, invoke, builtin, Builtin.max_, Builtin.max2, e1, e2, h']
 ·exact hk.elim
theorem op_ex (hC : Conc E n G ρ t h a w) (hn : Nxt E n a o K nxt) {t1 : TypeId} {x : Operand} {i : Nat} {ox : O} (ho : o.op = .extract x i) (hx : opd P t1 x = some ox) (hk : opx S ow (.ex ox i) t h K KP) : o.wp P a w nxt Q := by
 have hvx := opd_ok hC hx
 simp only [opx] at hk
 split at hk
 ·rename_i vs hg
  rw [hg] at hvx
  obtain ⟨cs, hv, hs, hr⟩ := hvx.tul
  rw [get?_eq] at hk
  split at hk
  ·rename_i v hi
   have hil : i < cs.size := by rw [hs]; exact (List.getElem?_eq_some_iff.1 hi).1
   refine wp_quiet hC hn (v' := cs.getD i undef) ?_ (.o (hr i v hi)) hk
   simp [execOp, ho, Instr.extract, hv, hil]
  ·exact hk.elim
 ·exact hk.elim
theorem op_nc (hC : Conc E n G ρ t h a w) (hn : Nxt E n a o K nxt) {t1 : TypeId} {x : Operand} {ox : O} (ho : o.op = .nilCheck x) (hx : opd P t1 x = some ox) (hk : opx S ow (.nc ox) t h K KP) : o.wp P a w nxt Q := by
 have hvx := opd_ok hC hx
 simp only [opx] at hk
 split at hk
 ·rename_i i oo hg
  rw [hg] at hvx
  obtain ⟨b, hv, _⟩ := hvx.pt
  exact wp_quiet hC hn (v' := a.eval x) (by simp [execOp, ho, hv]) hvx hk
 ·rename_i r oo hg
  rw [hg] at hvx
  obtain ⟨b, _, _, hv, _⟩ := hvx.el
  exact wp_quiet hC hn (v' := a.eval x) (by simp [execOp, ho, hv]) hvx hk
 ·rename_i i z j oo hg
  rw [hg] at hvx
  obtain ⟨b, _, _, hv, _⟩ := hvx.ql
  exact wp_quiet hC hn (v' := a.eval x) (by simp [execOp, ho, hv]) hvx hk
 ·rename_i f c hg
  rw [hg] at hvx
  obtain ⟨cs, hv, _⟩ := hvx.fcl
  cases hb : Nat.blt f 2000000 <;> rw [hb] at hk
  ·exact hk.elim
  have hlt : f < 2000000 := by simpa [Nat.blt_eq] using hb
  have hv' : ∃ g y1 y2, a.eval x = .func (.func g) y1 y2 := by
   by_cases h1 : f < 1000000
   ·exact ⟨_, _, _, fcv_fn hv h1⟩
   ·exact ⟨_, _, _, fcv_bm hv h1 hlt⟩
  obtain ⟨g, y1, y2, hv'⟩ := hv'
  exact wp_quiet hC hn (v' := a.eval x) (by simp [execOp, ho, hv']) hvx hk
 ·rename_i f hg
  rw [hg] at hvx
  have hv : a.eval x = .func (.func f) #[] #[] := fn_val hvx.toD
  exact wp_quiet hC hn (v' := a.eval x) (by simp [execOp, ho, hv]) hvx hk
 ·rename_i row off hg
  rw [hg] at hvx
  have hv := hvx.toD
  generalize hav : a.eval x = av at hv
  cases hv with
  | pt b o _ _ U h1 h2 h3 => exact wp_quiet hC hn (v' := a.eval x) (by simp [execOp, ho, hav]) (by rw [hav]; exact .k (.e b o off row U h1 h2 h3)) hk
 ·exact hk.elim
end
end Go.Vx
namespace Go.Vx
section
variable {P : Program} {E : Ent} {n : Nat} {G : Nat → Prop} {ρ : List Value} {t : T} {h : H} {a : Act} {w : World} {o : Oper} {nxt : Act → World → Prop} {Q : Exit → Act → World → Prop} {K KP : V → T → H → Prop}
variable (S : Nat → List V → H → (Out → H → Prop) → Prop) (ow : Nat → Bool)
theorem elem_of {ty e : TypeId} (hu : P.underlying ty = some (.slice e)) : P.underlying ty = some (.slice (P.elem ty)) := by
 rw [hu]; simp [Program.elem, hu]
theorem RepD.part {ad : Option Addr} {len cap z l u m : Nat} {rows : List (List D)} (hD : RepD G w (.slice ad len cap) (.sl z rows)) (h1 : l ≤ u) (h2 : u ≤ rows.length) (h3 : u ≤ m) (h4 : m ≤ cap) :
  RepD G w (sliced ad l u m z) (.sl z ((rows.take u).drop l)) := by
 have hlen : ((rows.take u).drop l).length = u - l := by simp; omega
 rcases hD.sll with ⟨⟨a0, he⟩, rfl⟩ | ⟨b, o, c, U, he, g1, g2, g3, g4, g5, g6⟩
 ·simp only [Value.slice.injEq] at he
  obtain ⟨rfl, _, rfl⟩ := he
  simp at h2 h4
  subst h2
  have hl0 : l = 0 := by omega
  have hm0 : m = 0 := by omega
  subst hl0 hm0
  have : sliced ad 0 0 0 z = .slice ad 0 0 := by cases ad <;> simp [sliced]
  rw [this]
  simpa using RepD.emp ad z
 ·simp only [Value.slice.injEq] at he
  obtain ⟨rfl, rfl, rfl⟩ := he
  by_cases hml : m = l
  ·have hul : u = l := by omega
   subst hul
   have hnil : (rows.take u).drop u = [] := List.drop_eq_nil_of_le (by simp; omega)
   rw [hnil]
   have := RepD.sl (G := G) (w := w) b o 0 z [] (fun _ _ => undef) (by simp) (by simp) g3 (by simp) (by simp) (by simp)
   simpa [sliced, hml] using this
  ·have hv : sliced (some ⟨b, o, none⟩) l u m z = .slice (some ⟨b, o + l * z, none⟩) ((rows.take u).drop l).length (m - l) := by
    rw [hlen]
    simp [sliced, hml, add_off]
   rw [hv]
   have get : ∀ (i : Nat) (row : List D), ((rows.take u).drop l)[i]? = some row → rows[l + i]? = some row := by
    intro i row hr
    rw [List.getElem?_drop, List.getElem?_take] at hr
    split at hr
    ·exact hr
    ·cases hr
   refine .sl b _ _ z _ (fun i j => U (l + i) j) (by rw [hlen]; omega) (by omega) g3 (fun i row hr => g4 _ _ (get i row hr)) (fun i row j x hr hx => ?_) (fun i row j x hr hx => g6 _ _ _ _ (get i row hr) hx)
   rw [← g5 _ _ _ _ (get i row hr) hx, Nat.add_mul]
   congr 2
   omega
theorem own_val (hC : Conc E n G ρ t h a w) {v : Value} {id z : Nat} {r : List (List D)} (hv : Rep2 G w ρ v (.os id)) (hx : h[id]? = some (.rows z r)) :
  ∃ ad c, v = .slice ad r.length c ∧ r.length ≤ c ∧ ρ[id]? = some (.slice ad r.length c) := by
 obtain ⟨ad, m, c, rfl, hρ⟩ := hv.osl
 rcases hC.ok.hr.rep id _ _ hρ hx with ⟨he, rfl⟩ | ⟨b, cap, arr, ty, he, h1, h2, _⟩
 ·simp only [Value.slice.injEq] at he
  obtain ⟨rfl, rfl, rfl⟩ := he
  exact ⟨none, 0, rfl, Nat.le_refl _, hρ⟩
 ·simp only [Value.slice.injEq] at he
  obtain ⟨rfl, rfl, rfl⟩ := he
  exact ⟨_, _, rfl, h2, hρ⟩
theorem op_s3 (hC : Conc E n G ρ t h a w) (hn : Nxt E n a o K nxt) {ty e t1 : TypeId} {x : Operand} {lo hi mx : Option Operand} {ox : O} {olo ohi omx : Option O} (ho : o.op = .slice ty x lo hi mx) (hu : P.underlying ty = some (.slice e))
  (hz : P.cellsOf e ≠ 0) (hx : opd P t1 x = some ox) (hlo : (lo = none ∧ olo = none) ∨ ∃ y oy ty', lo = some y ∧ olo = some oy ∧ opd P ty' y = some oy) (hhi : (hi = none ∧ ohi = none) ∨ ∃ y oy ty', hi = some y ∧ ohi = some oy ∧ opd P ty' y = some oy)
  (hmx : (mx = none ∧ omx = none) ∨ ∃ y oy ty', mx = some y ∧ omx = some oy ∧ opd P ty' y = some oy) (hk : opx S ow (.s3 ox olo ohi omx (P.cellsOf e)) t h K KP) : o.wp P a w nxt Q := by
 have hvx := dv_ok (opd_ok hC hx)
 have hue := elem_of hu
 have hsz : (sizeOf (P.elem ty)).run P w = .ok (P.cellsOf e) w := by
  have : P.elem ty = e := by simp [Program.elem, hu]
  rw [this]
  unfold Program.cellsOf at hz ⊢
  cases hie : P.info? e with
  | none => rw [hie] at hz; simp at hz
  | some ie => simp [sizeOf, typeInfo, hie]
 have src : ∀ (z' : Nat) (r : List (List D)), (dv (gv t ox) = .d (.sl z' r) ∨ dv (gv t ox) = .cl z' r) → ∃ ad c, a.eval x = .slice ad r.length c ∧ r.length ≤ c ∧ RepD G w (.slice ad r.length c) (.sl z' r) := by
  intro z' r hg
  have hD : RepD G w (a.eval x) (.sl z' r) := by
   rcases hg with hg | hg
   ·rw [hg] at hvx; exact hvx.toD
   ·rw [hg] at hvx
    obtain ⟨ad, m, hv, hD⟩ := hvx.cll
    rw [hv]; exact hD
  rcases hD.sll with ⟨⟨a0, he⟩, rfl⟩ | ⟨b, o, c, U, he, g1, _⟩
  ·rw [he] at hD ⊢; exact ⟨a0, 0, rfl, by simp, hD⟩
  ·rw [he] at hD ⊢; exact ⟨_, c, rfl, g1, hD⟩
 have hL : ∀ l : Int, (∃ k, (match olo with | some lo => gv t lo | none => .d (.int .i64 0)) = .d (.int k l)) → (lo = none ∧ l = 0) ∨ ∃ y k, lo = some y ∧ a.eval y = .int k l := by
  rintro l ⟨k, hl⟩
  rcases hlo with ⟨h1, h2⟩ | ⟨y, oy, ty', h1, h2, h3⟩
  ·subst h2; simp at hl; exact .inl ⟨h1, hl.2.symm⟩
  ·subst h2
   have := opd_ok hC h3
   simp only at hl
   rw [hl] at this
   exact .inr ⟨y, k, h1, this.int⟩
 simp only [opx] at hk
 split at hk
 ·skip
  rename_i kl l hl
  have hL := hL l ⟨kl, hl⟩
  rcases hhi with ⟨rfl, _⟩ | ⟨_, _, _, _, h2, _⟩
  rotate_left
  ·cases h2
  rcases hmx with ⟨rfl, _⟩ | ⟨_, _, _, _, h2, _⟩
  rotate_left
  ·cases h2
  have fin : ∀ (z' : Nat) (r : List (List D)), (dv (gv t ox) = .d (.sl z' r) ∨ dv (gv t ox) = .cl z' r) → ((0 ≤ l ∧ l ≤ r.length ∧ Nat.beq z' (P.cellsOf e) = true) ∧ K (.d (.sl (P.cellsOf e) (r.drop l.toNat))) t h) → o.wp P a w nxt Q := by
   rintro z' r hg ⟨⟨g1, g2, g3⟩, hk⟩
   obtain rfl := nbq g3
   obtain ⟨ad, c, hv, hrc, hD⟩ := src _ r hg
   have := hD.part (l := l.toNat) (u := r.length) (m := c) (by omega) (Nat.le_refl _) hrc (Nat.le_refl _)
   rw [List.take_length] at this
   refine wp_quiet hC hn (v' := sliced ad l.toNat r.length c (P.cellsOf e)) ?_ (.d this) hk
   rcases hL with ⟨rfl, rfl⟩ | ⟨y, k, rfl, hy⟩
   ·simp [execOp, ho, hv, run_sliceAt_slice w ty _ _ _ _ hue, run_slice_all w ty _ _ _ hue, hsz]
   ·simp [execOp, ho, hv, hy, run_sliceAt_slice w ty _ _ _ _ hue, run_slice_l w ty _ _ _ hue k l g1 g2, hsz]
  split at hk
  ·rename_i z' r hg; exact fin z' r (.inl hg) hk
  ·rename_i z' r hg; exact fin z' r (.inr hg) hk
  ·rename_i id hg
   rw [get?_eq] at hk
   split at hk
   ·rename_i z' r hcs
    obtain ⟨⟨g1, g2, g3⟩, hk⟩ := hk
    obtain rfl := nbq g3
    rw [hg] at hvx
    obtain ⟨ad, c, hv, hrc, hρ⟩ := own_val hC hvx hcs
    refine wp_quiet hC hn (v' := sliced ad l.toNat r.length c (P.cellsOf e)) ?_ (.k (.ov id _ _ _ ad r.length c hρ rfl)) hk
    rcases hL with ⟨rfl, rfl⟩ | ⟨y, k, rfl, hy⟩
    ·simp [execOp, ho, hv, run_sliceAt_slice w ty _ _ _ _ hue, run_slice_all w ty _ _ _ hue, hsz]
    ·simp [execOp, ho, hv, hy, run_sliceAt_slice w ty _ _ _ _ hue, run_slice_l w ty _ _ _ hue k l g1 g2, hsz]
   ·exact hk.elim
  ·exact hk.elim
 ·skip
  rename_i kl l ohi hl
  have hL := hL l ⟨kl, hl⟩
  rcases hhi with ⟨_, h2⟩ | ⟨yh, oyh, tyh, rfl, h2, hyh⟩
  ·cases h2
  cases h2
  rcases hmx with ⟨rfl, _⟩ | ⟨_, _, _, _, h2, _⟩
  rotate_left
  ·cases h2
  split at hk
  ·rename_i ku u hgu
   have hvu := opd_ok hC hyh
   rw [hgu] at hvu
   have hvu := hvu.int
   have fin : ∀ (z' : Nat) (r : List (List D)), (dv (gv t ox) = .d (.sl z' r) ∨ dv (gv t ox) = .cl z' r) → ((0 ≤ l ∧ l ≤ u ∧ u ≤ r.length ∧ Nat.beq z' (P.cellsOf e) = true) ∧ K (.d (.sl (P.cellsOf e) ((r.take u.toNat).drop l.toNat))) t h) → o.wp P a w nxt Q := by
    rintro z' r hg ⟨⟨g1, g2, g3, g4⟩, hk⟩
    obtain rfl := nbq g4
    obtain ⟨ad, c, hv, hrc, hD⟩ := src _ r hg
    have := hD.part (l := l.toNat) (u := u.toNat) (m := c) (by omega) (by omega) (by omega) (Nat.le_refl _)
    refine wp_quiet hC hn (v' := sliced ad l.toNat u.toNat c (P.cellsOf e)) ?_ (.d this) hk
    rcases hL with ⟨rfl, rfl⟩ | ⟨y, k, rfl, hy⟩
    ·have hr := run_slice_h w ty ad r.length c hue ku u (by omega) (by omega)
     simp [execOp, ho, hv, hvu, run_sliceAt_slice w ty _ _ _ _ hue, hr, hsz]
    ·have hr := run_slice_lh w ty ad r.length c hue k ku l u g1 g2 (by omega)
     simp [execOp, ho, hv, hvu, hy, run_sliceAt_slice w ty _ _ _ _ hue, hr, hsz]
   split at hk
   ·rename_i z' r hg; exact fin z' r (.inl hg) hk
   ·rename_i z' r hg; exact fin z' r (.inr hg) hk
   ·rename_i id hg
    rw [get?_eq] at hk
    split at hk
    ·rename_i z' r hcs
     simp only [flt_eq, flb_eq] at hk
     obtain ⟨⟨g1, g2, g3, g4⟩, hk⟩ := hk
     obtain rfl := nbq g4
     rw [hg] at hvx
     obtain ⟨ad, c, hv, hrc, hρ⟩ := own_val hC hvx hcs
     obtain ⟨v0, hv0, hD, hC'⟩ := hC.free hcs
     rw [hρ] at hv0
     cases hv0
     have := hD.part (l := l.toNat) (u := u.toNat) (m := c) (by omega) (by omega) (by omega) (Nat.le_refl _)
     refine wp_quiet hC' hn (v' := sliced ad l.toNat u.toNat c (P.cellsOf e)) ?_ (.d this) hk
     rcases hL with ⟨rfl, rfl⟩ | ⟨y, k, rfl, hy⟩
     ·have hr := run_slice_h w ty ad r.length c hue ku u (by omega) (by omega)
      simp [execOp, ho, hv, hvu, run_sliceAt_slice w ty _ _ _ _ hue, hr, hsz]
     ·have hr := run_slice_lh w ty ad r.length c hue k ku l u g1 g2 (by omega)
      simp [execOp, ho, hv, hvu, hy, run_sliceAt_slice w ty _ _ _ _ hue, hr, hsz]
    ·exact hk.elim
   ·exact hk.elim
  ·exact hk.elim
 ·skip
  rename_i kl l ohi omx hl
  have hL := hL l ⟨kl, hl⟩
  rcases hhi with ⟨_, h2⟩ | ⟨yh, oyh, tyh, rfl, h2, hyh⟩
  ·cases h2
  cases h2
  rcases hmx with ⟨_, h2⟩ | ⟨ym, oym, tym, rfl, h2, hym⟩
  ·cases h2
  cases h2
  split at hk
  ·rename_i ku u km v hgu hgm
   have hvu := opd_ok hC hyh
   rw [hgu] at hvu
   have hvu := hvu.int
   have hvm := opd_ok hC hym
   rw [hgm] at hvm
   have hvm := hvm.int
   have fin : ∀ (z' : Nat) (r : List (List D)), (dv (gv t ox) = .d (.sl z' r) ∨ dv (gv t ox) = .cl z' r) → ((0 ≤ l ∧ l ≤ u ∧ u = v ∧ u ≤ r.length ∧ Nat.beq z' (P.cellsOf e) = true) ∧ K (.cl (P.cellsOf e) ((r.take u.toNat).drop l.toNat)) t h) → o.wp P a w nxt Q := by
    rintro z' r hg ⟨⟨g1, g2, huv, g3, g4⟩, hk⟩
    rw [← huv] at hvm
    obtain rfl := nbq g4
    obtain ⟨ad, c, hv, hrc, hD⟩ := src _ r hg
    have := hD.part (l := l.toNat) (u := u.toNat) (m := u.toNat) (by omega) (by omega) (by omega) (by omega)
    refine wp_quiet hC hn (v' := sliced ad l.toNat u.toNat u.toNat (P.cellsOf e)) ?_ (.k (.cl _ _ _ _ this)) hk
    rcases hL with ⟨rfl, rfl⟩ | ⟨y, k, rfl, hy⟩
    ·have hr := run_slice_hm w ty ad r.length c hue ku km u u (by omega) (by omega) (by omega)
     simp [execOp, ho, hv, hvu, hvm, run_sliceAt_slice w ty _ _ _ _ hue, hr, hsz]
    ·have hr := run_slice_lhm w ty ad r.length c hue k ku km l u u g1 g2 (by omega) (by omega)
     simp [execOp, ho, hv, hvu, hvm, hy, run_sliceAt_slice w ty _ _ _ _ hue, hr, hsz]
   split at hk
   ·rename_i z' r hg; exact fin z' r (.inl hg) hk
   ·rename_i z' r hg; exact fin z' r (.inr hg) hk
   ·exact hk.elim
  ·exact hk.elim
 ·exact hk.elim
theorem rep_cap {v : Value} {x : V} (hr : Rep2 G w ρ v x) (hc : capb x = true) : RepK G w ρ v x := by
 cases hr with
 | o hr => cases hr with
  | c hr => cases hr with
   | k hr => exact hr
   | fc => cases hc
  | ag => cases hc
 | tu => cases hc
theorem op_mf (hC : Conc E n G ρ t h a w) (hn : Nxt E n a o K nxt) {f F : Nat} {first caps cc : Array Operand} {oc : List O} (ho : o.op = .makeFunc (.func f) first caps) (hf : f < 1000000)
  (hF : (F = f ∧ first = #[] ∧ cc = caps) ∨ (F = f + 1000000 ∧ caps = #[] ∧ cc = first))
  (hcaps : oc.length = cc.size ∧ ∀ (i : Nat) (x : O), oc[i]? = some x → ∃ y ty, cc[i]? = some y ∧ opd P ty y = some x)
  (hk : ((Nat.blt F 1000000 || !oc.isEmpty) && oc.all fun x => capb (gv t x)) = true ∧ K (.fc F (oc.map (gv t))) t h) : o.wp P a w nxt Q := by
 have hk1 := hk.1
 rw [Bool.and_eq_true] at hk1
 have hv : fcv F (.func (.func f) (first.map a.eval) (caps.map a.eval)) (cc.map a.eval) := by
  rcases hF with ⟨rfl, rfl, rfl⟩ | ⟨rfl, rfl, rfl⟩
  ·exact .inl ⟨hf, by simp⟩
  ·refine .inr ⟨?_, .inl ⟨f, rfl, hf, by simp⟩⟩
   have h2 : ¬ (Nat.blt (f + 1000000) 1000000 = true) := by rw [Nat.blt_eq]; omega
   have h3 := hk1.1
   rw [Bool.or_eq_true] at h3
   rcases h3 with h3 | h3
   ·exact absurd h3 h2
   ·have : oc ≠ [] := by intro e; subst e; simp at h3
    have := List.length_pos_iff.2 this
    simpa [← hcaps.1] using this
 refine wp_quiet hC hn (v' := .func (.func f) (first.map a.eval) (caps.map a.eval)) ?_ (.c (.fc F _ _ _ hv (by simp [hcaps.1]) (fun i x hi => ?_))) hk.2
 ·simp [execOp, ho, Instr.makeFunc]
 ·rw [List.getElem?_map] at hi
  cases hc : oc[i]? with
  | none => rw [hc] at hi; cases hi
  | some y =>
   rw [hc] at hi; cases hi
   obtain ⟨yo, ty, h1, h2⟩ := hcaps.2 i y hc
   have hr := opd_ok hC h2
   have hall := List.all_eq_true.1 hk1.2 y (List.mem_of_getElem? hc)
   have he : (cc.map a.eval).getD i undef = a.eval yo := by
    rw [Array.getD_eq_getD_getElem?, Array.getElem?_map, h1]; rfl
   rw [he]
   exact rep_cap hr hall
theorem fill_ok (place : Nat → Option (Nat × Nat)) : ∀ (ps : List (Nat × Value)) (qs : List (Nat × List V)) (cells : Array Value) (cs : List V), ps.length = qs.length →
  (∀ (i : Nat) (p : Nat × Value) (q : Nat × List V), ps[i]? = some p → qs[i]? = some q → place p.1 = some (q.1, q.2.length) ∧ q.1 + q.2.length ≤ cells.size ∧ p.2.cells.size = q.2.length ∧ ∀ (j : Nat) (x : V), q.2[j]? = some x → RepC G w ρ (p.2.cells.getD j undef) x) →
  cells.size = cs.length → (∀ (j : Nat) (x : V), cs[j]? = some x → RepC G w ρ (cells.getD j undef) x) →
  ∃ out, Instr.fill place cells ps = some out ∧ out.size = cells.size ∧ ∀ (j : Nat) (x : V), (qs.foldl (fun cs q => lay cs q.1 q.2) cs)[j]? = some x → RepC G w ρ (out.getD j undef) x := by
 intro ps
 induction ps with
 | nil =>
  intro qs cells cs hl _ hs hr
  have : qs = [] := List.eq_nil_of_length_eq_zero (by simpa using hl.symm)
  subst this
  exact ⟨cells, rfl, rfl, hr⟩
 | cons p ps ih =>
  intro qs cells cs hl hp hs hr
  cases qs with
  | nil => simp at hl
  | cons q qs =>
   obtain ⟨i, v⟩ := p
   obtain ⟨h1, h2, h3, h4⟩ := hp 0 (i, v) q rfl rfl
   have hfold : ∀ (l : List Value) (st off : Nat) (cells : Array Value), off + st + l.length ≤ cells.size →
     ((l.zipIdx st).foldl (fun cs (c : Value × Nat) => cs.setIfInBounds (off + c.2) c.1) cells).size = cells.size ∧
     ∀ j, ((l.zipIdx st).foldl (fun cs (c : Value × Nat) => cs.setIfInBounds (off + c.2) c.1) cells)[j]? = if off + st ≤ j ∧ j < off + st + l.length then l[j - (off + st)]? else cells[j]? := by
    intro l
    induction l with
    | nil => intro st off cells _; refine ⟨rfl, fun j => ?_⟩; simp; omega
    | cons c l ihl =>
     intro st off cells hle
     simp only [List.length_cons] at hle
     obtain ⟨e1, e2⟩ := ihl (st + 1) off (cells.setIfInBounds (off + st) c) (by simp; omega)
     simp only [List.zipIdx_cons, List.foldl_cons]
     refine ⟨by rw [e1]; simp, fun j => ?_⟩
     rw [e2 j]
     by_cases hj : j = off + st
     ·subst hj
      rw [if_neg (by omega), if_pos (by simp)]
      simp [show off + st < cells.size by omega]
     ·by_cases hj2 : off + (st + 1) ≤ j ∧ j < off + (st + 1) + l.length
      ·rw [if_pos hj2, if_pos (by simp; omega)]
       rw [show j - (off + st) = (j - (off + (st + 1))) + 1 by omega]
       simp
      ·rw [if_neg hj2, if_neg (by simp; omega)]
       rw [Array.getElem?_setIfInBounds_ne (by omega)]
   have hz : (Instr.fill place cells ((i, v) :: ps)) = Instr.fill place (v.cells.zipIdx.foldl (fun cs (c, j) => cs.setIfInBounds (q.1 + j) c) cells) ps := by
    simp only [Instr.fill, h1]
    rw [if_neg (by simp [h3]; omega)]
   have hcast : v.cells.zipIdx.foldl (fun cs (c, j) => cs.setIfInBounds (q.1 + j) c) cells = ((v.cells.toList.zipIdx 0).foldl (fun cs (c : Value × Nat) => cs.setIfInBounds (q.1 + c.2) c.1) cells) := by
    rw [← Array.foldl_toList]
    simp [Array.toList_zipIdx]
   obtain ⟨e1, e2⟩ := hfold v.cells.toList 0 q.1 cells (by simp [h3]; omega)
   rw [hz, hcast]
   obtain ⟨out, o1, o2, o3⟩ := ih qs _ (lay cs q.1 q.2) (by simpa using hl) (fun k p' q' hp' hq' => by
    have := hp (k + 1) p' q' (by simpa using hp') (by simpa using hq')
    rw [e1]; exact this) (by rw [e1, lay_len, hs]) (fun j x hx => by
    rw [Array.getD_eq_getD_getElem?, e2 j]
    rw [lay_get] at hx
    by_cases hj : j < q.1
    ·rw [if_pos hj] at hx
     rw [if_neg (by omega), ← Array.getD_eq_getD_getElem?]
     exact hr j x hx
    ·rw [if_neg hj] at hx
     by_cases hj2 : j - q.1 < q.2.length ∧ j < cs.length
     ·rw [if_pos hj2] at hx
      rw [if_pos (by simp [h3]; omega)]
      have := h4 _ x hx
      rw [Array.getD_eq_getD_getElem?, ← Array.getElem?_toList] at this
      simpa using this
     ·rw [if_neg hj2] at hx
      have hjl : j < cs.length := (List.getElem?_eq_some_iff.1 hx).1
      rw [if_neg (by simp [h3]; omega), ← Array.getD_eq_getD_getElem?]
      exact hr j x hx)
   exact ⟨out, o1, by rw [o2, e1], o3⟩
end
end Go.Vx
