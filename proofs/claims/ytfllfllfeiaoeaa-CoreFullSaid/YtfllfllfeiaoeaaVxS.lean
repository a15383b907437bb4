/- A drawn row of operations is walked. Conditions: none; lemmas on the definitions before. -/
import Derived.Test.YtfllfllfeiaoeaaVxR
namespace Go.Vx
section
variable {P : Program} {E : Ent} {n : Nat} {h : H} {K : Ex → T → H → Prop} {Q : Exit → Act → World → Prop} (ow : Nat → Bool)

/-- What stands in the frame where these are done. -/
def agree (is : List I) (vs : List V) (L : Nat → Prop) (t tL : T) : Prop :=
  ∀ s, (∃ (k : Nat) (i : I), L k ∧ is[k]? = some i ∧ i.d = some s ∧ vs[k]? = some (gs tL s)) ∨ ((∀ (k : Nat) (i : I), L k → is[k]? = some i → i.d ≠ some s) ∧ gs tL s = gs t s)

/-- What stands in the blocks where these are done. -/
def hagr (rs : List R) (L : Nat → Prop) (h hL : H) : Prop :=
  hL.length = h.length ∧ ∀ i, (∃ (k : Nat) (r : R) (w : Nat × B), L k ∧ rs[k]? = some r ∧ r.2 = some w ∧ w.1 = i ∧ hL[i]? = some w.2) ∨ ((∀ (k : Nat) (r : R) (w : Nat × B), L k → rs[k]? = some r → r.2 = some w → w.1 ≠ i) ∧ hL[i]? = h[i]?)

theorem hagr_fold (h : H) : ∀ (rs : List R), (∀ (j : Nat) (r : R) (w : Nat × B), rs[j]? = some r → r.2 = some w → w.1 < h.length) → (∀ (j k : Nat) (r r' : R) (w w' : Nat × B), rs[j]? = some r → rs[k]? = some r' → r.2 = some w → r'.2 = some w' → j ≠ k → w.1 ≠ w'.1) →
    ∀ a : H, a.length = h.length → (rs.foldl wr a).length = h.length ∧ ∀ i, (∃ (k : Nat) (r : R) (w : Nat × B), rs[k]? = some r ∧ r.2 = some w ∧ w.1 = i ∧ (rs.foldl wr a)[i]? = some w.2) ∨ ((∀ (k : Nat) (r : R) (w : Nat × B), rs[k]? = some r → r.2 = some w → w.1 ≠ i) ∧ (rs.foldl wr a)[i]? = a[i]?) := by
  intro rs
  induction rs with
  | nil => intro _ _ a ha; exact ⟨ha, fun i => .inr ⟨by simp, rfl⟩⟩
  | cons r rs ih =>
    intro hlt hd a ha
    have hwl : (wr a r).length = h.length := by unfold wr; split <;> simp [ha]
    obtain ⟨g1, g2⟩ := ih (fun j r w hj hw => hlt (j + 1) r w (by simpa using hj) hw) (fun j k r r' w w' hj hk e1 e2 hne => hd (j + 1) (k + 1) r r' w w' (by simpa using hj) (by simpa using hk) e1 e2 (by omega)) (wr a r) hwl
    refine ⟨g1, fun i => ?_⟩
    rcases g2 i with ⟨k, r', w, k1, k2, k3, k4⟩ | ⟨k1, k2⟩
    · exact .inl ⟨k + 1, r', w, by simpa using k1, k2, k3, k4⟩
    · rw [List.foldl_cons, k2]
      cases hr : r.2 with
      | none =>
        refine .inr ⟨fun k r' w hk hw => ?_, by simp [wr, hr]⟩
        cases k with
        | zero => simp at hk; subst hk; rw [hr] at hw; cases hw
        | succ k => exact k1 k r' w (by simpa using hk) hw
      | some w =>
        have hlw := hlt 0 r w rfl hr
        by_cases hi : w.1 = i
        · refine .inl ⟨0, r, w, rfl, hr, hi, ?_⟩
          subst hi
          simp only [wr, hr]
          rw [List.getElem?_set, if_pos rfl, if_pos (by omega)]
        · refine .inr ⟨fun k r' w' hk hw => ?_, ?_⟩
          · cases k with
            | zero => simp at hk; subst hk; rw [hr] at hw; cases hw; exact hi
            | succ k => exact k1 k r' w' (by simpa using hk) hw
          · simp only [wr, hr]
            rw [List.getElem?_set, if_neg hi]

structure Drw (P : Program) (n : Nat) (ops : Array Oper) (is : List I) (bs : List (List Nat)) (m : Nat) (lo : Nat) (rs : List R) (t : T) (h hm : H) : Prop where
  il : is.length = ops.size
  ml : m ≤ ops.size
  ci : ∀ (j : Nat) (o : Oper), ops[j]? = some o → ∃ i, is[j]? = some i ∧ compI P n ops o = some i
  cl : ∀ (j : Nat) (o : Oper), ops[j]? = some o → ∃ b, bs[j]? = some b ∧ (∀ k ∈ deps o, k ∈ b) ∧ ∀ k ∈ b, k ∈ deps o ∨ ∃ k' ∈ deps o, ∃ b' : List Nat, bs[k']? = some b' ∧ k ∈ b'
  lt : ∀ (j : Nat) (b : List Nat), bs[j]? = some b → ∀ k ∈ b, k < j
  fu : ∀ (j : Nat) (b : List Nat), m ≤ j → bs[j]? = some b → ∀ i, i < j → i ∈ b
  dj : ∀ (i j : Nat) (x y : I) (bi bj : List Nat), i < m → j < m → i ≠ j → is[i]? = some x → is[j]? = some y → bs[i]? = some bi → bs[j]? = some bj →
    (∀ s, x.d = some s → y.d ≠ some s) ∧ ∀ s, y.d = some s → s ∈ slots x.o ++ gslot x.g → j ∈ bi ∨ i ∈ bj
  vq : ∀ (j : Nat) (x : I), j < m → is[j]? = some x → ∃ r tj, rs[j]? = some r ∧ rok ow P lo x tj h hm r ∧ agree is (rs.map (·.1)) (· < j) t tj
  hM : ∀ (i : Nat) (b : B), get? hm i = some b → b ≠ .no → get? h i = some b
  rl : rs.length = m
  wd : ∀ (j k : Nat) (r r' : R) (w w' : Nat × B), rs[j]? = some r → rs[k]? = some r' → r.2 = some w → r'.2 = some w' → j ≠ k → w.1 ≠ w'.1

theorem qstep {G : Nat → Prop} {ρ : List Value} {t : T} {a : Act} {w : World} {o : Oper} {nxt : Act → World → Prop} {ops : Array Oper} {i : I} {lo : Nat} {hm hL : H} {r : R} (hC : Conc E n G ρ t hL a w) (hlo : E.ρ.length ≤ lo) (hi : compI P n ops o = some i) (hq : rok ow P lo i t h hm r)
    (hM : More hL hm) (hsame : ∀ u, r.2 = some u → hL[u.1]? = h[u.1]?)
    (hnx : ∀ (a' : Act) (w' : World) (G' : Nat → Prop) (ρ' : List Value), Conc E n G' ρ' (putv i.d r.1 t) (wr hL r) a' w' → nxt a' w') :
    if Region.wanted o (yielded ops a.tmps) then o.wp P a w nxt Q else nxt (a.put o.dst undef) w := by
  obtain ⟨hx, hd, hlt, hg⟩ := compI_ok hi
  obtain ⟨v, u⟩ := r
  cases u with
  | some u =>
    rcases hq with ⟨x, y, m, off, cs, rfl, h1, h2, ⟨c1, c2, c3⟩, h4, _⟩ | ⟨d, cs, rfl, h1, h2, h3, _, h5⟩
    rotate_left
    · simp only at hd hx h1
      have hgo : o.guard = none := by
        cases hgo : o.guard with
        | none => rfl
        | some p => rw [hgo] at hg; obtain ⟨d, _, hg⟩ := hg; cases hg
      rw [if_pos (by simp [Region.wanted, hgo])]
      obtain ⟨ty, ho, hz⟩ := compO_al hx
      obtain ⟨i, z, hi, hz0, z1, _, z3⟩ := zer_ok (G := G) (w := w) (ρ := ρ) hz
      have hnw : hL[u.1]? = some .nw := by rw [hsame u rfl, ← get?_eq]; exact h3
      have hul : u.1 < ρ.length := by rw [hC.ok.hr.len]; exact (List.getElem?_eq_some_iff.1 hnw).1
      have hg := Grw.alloc w (.cells z.cells ty)
      have hC1 := hC.grow hg (fun _ h => h) (fun _ h => .inl h)
      have hC2 := hC1.place hnw (by omega) (hd := .pointer (some ⟨w.heap.size, 0, none⟩)) (x := .cells cs) ⟨w.heap.size, z.cells, ty, rfl, heap_alloc_new w _, z1, fun j y hj => (RepC.k (z3 j y hj).1).mono (fun _ h => h) (fun b hb => hg.old b (hC.ok.hr.gl b hb)) (fun _ _ => rfl)⟩ (fun b hb => by
        simp only [blk, Option.some.injEq] at hb
        subst hb
        refine ⟨hC.ok.size, fun h => ?_, fun h => ?_⟩
        · have := hC.ok.hr.gl _ h; omega
        · have := hC.ok.hr.ownlt h; omega)
      have h6 := hC2.putv o.dst hlt (x := v) (v := .pointer (some ⟨w.heap.size, 0, none⟩)) (by
        rw [h1]
        exact .k (.p u.1 0 w.heap.size (by rw [List.getElem?_set, if_pos rfl, if_pos hul])))
      have hw : wr hL (v, some u) = hL.set u.1 (.cells cs) := by simp only [wr, h2]
      have h7 := hnx _ _ G _ (by rw [hw]; simp only [hd]; exact h6)
      exact wp_val (w' := w.alloc (.cells z.cells ty)) (v' := .pointer (some ⟨w.heap.size, 0, none⟩)) (by simp [execOp, ho, Instr.alloc, zeroValue, typeInfo, hi, hz0, newVar, newRow]) h7
    simp only at hd
    have hgo : o.guard = none := by
      cases hgo : o.guard with
      | none => rfl
      | some p => rw [hgo] at hg; obtain ⟨d, _, hg⟩ := hg; cases hg
    rw [if_pos (by simp [Region.wanted, hgo])]
    have h2' : get? hL u.1 = some (.cells cs) := by rw [get?_eq, hsame u rfl, ← get?_eq]; exact h2
    refine op_all ow hC (K := fun _ t' h' => t' = t ∧ h' = hL.set u.1 u.2) (KP := fun _ _ _ => False) (fun v' w' G' ρ' t' h' z hC' hv ⟨e1, e2⟩ => ?_) (fun v' w' G' ρ' t' h' u _ _ hf => hf.elim) hx ?_
    · subst e1 e2
      rw [← hd]
      exact hnx _ _ _ _ hC'
    · simp only [opx, h1, h2', fl_eq]
      exact ⟨⟨c1, c2, c3⟩, trivial, by rw [h4]⟩
  | none =>
  replace hq : qok ow P i t hL v := qok.more ow hq hM
  have run : Qt ow P i.o t hL v → o.wp P a w nxt Q := by
    intro hk
    refine op_all ow hC (fun v' w' G' ρ' t' h' u hC' hv ⟨e1, e2, e3⟩ => ?_) (fun v' w' G' ρ' t' h' u _ _ hf => hf.elim) hx (hk t hL (fun _ _ => rfl) fun _ _ h _ => h)
    subst e1 e2 e3
    rw [hd] at hnx
    exact hnx _ _ _ _ (hC'.putv o.dst hlt hv)
  have pass : v = .ud → nxt (a.put o.dst undef) w := by
    intro hv
    subst hv
    rw [hd] at hnx
    exact hnx _ _ _ _ (hC.putv o.dst hlt rep_ud)
  cases hgo : o.guard with
  | none =>
    rw [hgo] at hg
    simp only at hg
    unfold qok at hq
    rw [hg] at hq
    rw [if_pos (by simp [Region.wanted, hgo])]
    exact run hq
  | some p =>
    obtain ⟨j, x⟩ := p
    rw [hgo] at hg
    obtain ⟨d, hd1, hg⟩ := hg
    unfold qok at hq
    rw [hg] at hq
    rcases hq with ⟨b, hb, h1, h2⟩ | ⟨hb, h1⟩
    · rw [wanted_bool hC hgo hd1 hb]
      by_cases hbx : b = x
      · rw [if_pos (by simp [hbx])]
        exact run (h1 hbx)
      · rw [if_neg (by simp [hbx])]
        exact pass (h2 hbx)
    · rw [wanted_ud hC hgo hd1 hb]
      exact pass h1

section
variable {ops : Array Oper} {is : List I} {bs : List (List Nat)} {m lo : Nat} {rs : List R} {vs : List V} {hm : H} {t : T}

theorem agree_uniq (D : Drw ow P n ops is bs m lo rs t h hm) {L L' : Nat → Prop} {t1 t2 : T} (h1 : agree is vs L t t1) (h2 : agree is vs L' t t2) (hL : ∀ k, L k → k < m) (hL' : ∀ k, L' k → k < m) (s : Nat)
    (e1 : ∀ (k : Nat) (i : I), L k → is[k]? = some i → i.d = some s → L' k) (e2 : ∀ (k : Nat) (i : I), L' k → is[k]? = some i → i.d = some s → L k) : gs t1 s = gs t2 s := by
  have wr : ∀ (k k' : Nat) (i i' : I), k < m → k' < m → is[k]? = some i → is[k']? = some i' → i.d = some s → i'.d = some s → k = k' := by
    intro k k' i i' hk hk' hi hi' hd hd'
    by_cases hne : k = k'
    · exact hne
    · have hlk : k < ops.size := by have := D.ml; omega
      have hlk' : k' < ops.size := by have := D.ml; omega
      obtain ⟨b, hb, _⟩ := D.cl k _ (Array.getElem?_eq_getElem hlk)
      obtain ⟨b', hb', _⟩ := D.cl k' _ (Array.getElem?_eq_getElem hlk')
      exact absurd hd' ((D.dj k k' i i' b b' hk hk' hne hi hi' hb hb').1 s hd)
  rcases h1 s with ⟨k, i, a1, a2, a3, a4⟩ | ⟨a1, a2⟩ <;> rcases h2 s with ⟨k', i', b1, b2, b3, b4⟩ | ⟨b1, b2⟩
  · have := wr k k' i i' (hL k a1) (hL' k' b1) a2 b2 a3 b3
    subst this
    rw [a4] at b4
    exact Option.some.inj b4
  · exact absurd a3 (b1 k i (e1 k i a1 a2 a3) a2)
  · exact absurd b3 (a1 k' i' (e2 k' i' b1 b2 b3) b2)
  · rw [a2, b2]

variable (E K n is bs m rs t ops h) in
/-- How far it is. -/
def RInv (listed : Array Bool) (a : Act) (w : World) : Prop :=
  listed.size = ops.size ∧ (∀ (j : Nat) (b : List Nat), listed.getD j false = true → bs[j]? = some b → ∀ k ∈ b, listed.getD k false = true) ∧
  (((∀ j, listed.getD j false = true → j < m) ∧ ∃ G ρ tL hL, Conc E n G ρ tL hL a w ∧ agree is (rs.map (·.1)) (fun j => listed.getD j false = true) t tL ∧ hagr rs (fun j => listed.getD j false = true) h hL) ∨
   ∃ k, m ≤ k ∧ k ≤ ops.size ∧ (∀ j, listed.getD j false = true ↔ j < k) ∧ ∃ G ρ t h, Conc E n G ρ t h a w ∧ rx (Sat P) ow (is.drop k) t h K)

theorem deps_mem {o : Oper} {k : Nat} : k ∈ deps o ↔ ∃ e ∈ o.after, Region.binds .any e = true ∧ e.on = k := by
  simp only [deps, List.mem_map, List.mem_filter, Array.mem_toList_iff]
  constructor
  · rintro ⟨e, ⟨h1, h2⟩, h3⟩; exact ⟨e, h1, h2, h3⟩
  · rintro ⟨e, h1, h2, h3⟩; exact ⟨e, ⟨h1, h2⟩, h3⟩

theorem getD_lt {l : Array Bool} {j : Nat} (hj : l.getD j false = true) : j < l.size := by
  rcases Nat.lt_or_ge j l.size with h | h
  · exact h
  · simp [Array.getElem?_eq_none h] at hj

theorem getD_un {l : Array Bool} {j : Nat} (hj : j < l.size) (hf : ¬ l.getD j false = true) : l.getD j true = false := by
  simp [hj] at hf ⊢; exact hf

/-- Where nothing is ready, all is done. -/
theorem all_done (D : Drw ow P n ops is bs m lo rs t h hm) {listed : Array Bool} (hs : listed.size = ops.size) (hr : Region.ready .any ops listed = []) : ∀ j, j < ops.size → listed.getD j false = true := by
  intro j
  induction j using Nat.strongRecOn with
  | _ j ih =>
    intro hj
    by_cases hl : listed.getD j false = true
    · exact hl
    · exfalso
      have : j ∈ Region.ready .any ops listed := by
        rw [mem_ready]
        refine ⟨getD_un (by omega) hl, ops[j], Array.getElem?_eq_getElem hj, fun e he hb => ?_⟩
        obtain ⟨b, hb1, hb2, _⟩ := D.cl j _ (Array.getElem?_eq_getElem hj)
        have := D.lt j b hb1 e.on (hb2 _ (deps_mem.2 ⟨e, he, hb, rfl⟩))
        exact ih _ this (by omega)
      rw [hr] at this
      cases this

theorem count_set {l : Array Bool} {j : Nat} (hj : l.getD j true = false) : (l.setIfInBounds j true).toList.count false < l.toList.count false := by
  have hl : j < l.size := by
    rcases Nat.lt_or_ge j l.size with h | h
    · exact h
    · simp [Array.getElem?_eq_none h] at hj
  have hv : l[j] = false := by simpa [hl] using hj
  rw [Array.toList_setIfInBounds, List.count_set (by simpa using hl)]
  have hm : false ∈ l.toList := by rw [Array.mem_toList_iff, ← hv]; exact Array.getElem_mem hl
  have := List.count_pos_iff.2 hm
  have e : ((true : Bool) == false) = false := rfl
  simp only [Array.getElem_toList, hv, BEq.rfl, if_true, e, Bool.false_eq_true, if_false]
  omega

theorem hagr_uniq (D : Drw ow P n ops is bs m lo rs t h hm) {L L' : Nat → Prop} {h1 h2 : H} (g1 : hagr rs L h h1) (g2 : hagr rs L' h h2) (hL : ∀ k, k < m → L k) (hL' : ∀ k, k < m → L' k) : h1 = h2 := by
  refine List.ext_getElem? fun i => ?_
  have lt : ∀ (k : Nat) (r : R), rs[k]? = some r → k < m := fun k r hk => by
    rw [← D.rl]; exact (List.getElem?_eq_some_iff.1 hk).1
  rcases g1.2 i with ⟨k, r, w, a1, a2, a3, a4, a5⟩ | ⟨a1, a2⟩ <;> rcases g2.2 i with ⟨k', r', w', b1, b2, b3, b4, b5⟩ | ⟨b1, b2⟩
  · by_cases e : k = k'
    · subst e
      rw [a2] at b2; cases b2
      rw [a3] at b3; cases b3
      rw [a5, b5]
    · exact absurd (a4.trans b4.symm) (D.wd k k' r r' w w' a2 b2 a3 b3 e)
  · exact absurd a4 (b1 k r w (hL' k (lt k r a2)) a2 a3)
  · exact absurd b4 (a1 k' r' w' (hL k' (lt k' r' b2)) b2 b3)
  · rw [a2, b2]

theorem drawn_ok (hlo : E.ρ.length ≤ lo) (D : Drw ow P n ops is bs m lo rs t h hm) {tR : T} {hR : H} (hK : rx (Sat P) ow (is.drop m) tR hR K) (hA : agree is (rs.map (·.1)) (· < m) t tR) (hH : hagr rs (· < m) h hR) : ∀ (fuel : Nat) (listed : Array Bool) (a : Act) (w : World),
    listed.toList.count false ≤ fuel → RInv (P := P) E n h K ow ops is bs m rs t listed a w → wpAny P .any ops (QK E n K) fuel listed a w := by
  -- from the one half to the other
  have turn : ∀ (listed : Array Bool) (a : Act) (w : World), RInv (P := P) E n h K ow ops is bs m rs t listed a w → (∀ j, j < m → listed.getD j false = true) →
      ∃ k, m ≤ k ∧ k ≤ ops.size ∧ (∀ j, listed.getD j false = true ↔ j < k) ∧ ∃ G ρ t h, Conc E n G ρ t h a w ∧ rx (Sat P) ow (is.drop k) t h K := by
    intro listed a w ⟨h1, h2, h3⟩ hall
    rcases h3 with ⟨g1, G, ρ, tL, hL, hC, g2, g3⟩ | h3
    · have := hagr_uniq ow D g3 hH hall (fun _ h => h)
      subst this
      refine ⟨m, Nat.le_refl _, D.ml, fun j => ⟨g1 j, hall j⟩, G, ρ, tR, hL, hC.congr fun s => ?_, hK⟩
      exact agree_uniq ow D hA g2 (fun _ h => h) g1 s (fun k _ hk _ _ => hall k hk) (fun k _ hk _ _ => g1 k hk)
    · exact h3
  have done : ∀ (listed : Array Bool) (a : Act) (w : World), RInv (P := P) E n h K ow ops is bs m rs t listed a w → Region.ready .any ops listed = [] → QK E n K .normal a w := by
    intro listed a w hI hr
    have hall := all_done ow D hI.1 hr
    obtain ⟨k, k1, k2, k3, G, ρ, t', h', hC, hk⟩ := turn listed a w hI (fun j hj => hall j (by have := D.ml; omega))
    have : k = ops.size := by
      rcases Nat.lt_or_ge k ops.size with h | h
      · have := (k3 k).1 (hall k h); omega
      · omega
    subst this
    rw [List.drop_eq_nil_of_le (by rw [D.il]; omega)] at hk
    exact ⟨G, ρ, t', h', hC, hk⟩
  intro fuel
  induction fuel with
  | zero =>
    intro listed a w hc hI
    have hall : ∀ j, j < ops.size → listed.getD j false = true := fun j hj => by
      have hj' : j < listed.size := by rw [hI.1]; exact hj
      have h0 : listed.toList.count false = 0 := by omega
      rw [List.count_eq_zero] at h0
      cases hv : listed[j] with
      | true => simp [hj', hv]
      | false => exact absurd (by rw [Array.mem_toList_iff, ← hv]; exact Array.getElem_mem hj') h0
    have hr : Region.ready .any ops listed = [] := by
      rw [List.eq_nil_iff_forall_not_mem]
      intro j hj
      obtain ⟨h1, o, h2, _⟩ := mem_ready.1 hj
      have h3 := hall j (Array.getElem?_eq_some_iff.1 h2).1
      have hj' := getD_lt h3
      simp [hj'] at h1 h3
      rw [h3] at h1
      cases h1
    exact ⟨hr, done listed a w hI hr⟩
  | succ fuel ih =>
    intro listed a w hc hI
    refine ⟨done listed a w hI, fun j hj => ?_⟩
    obtain ⟨hun, o, ho, hdep⟩ := mem_ready.1 hj
    have hjs : j < ops.size := (Array.getElem?_eq_some_iff.1 ho).1
    have hjl : j < listed.size := by rw [hI.1]; exact hjs
    have hnl : ¬ listed.getD j false = true := by simpa [hjl] using hun
    obtain ⟨b, hb, hb1, hb2⟩ := D.cl j o ho
    obtain ⟨i, hi, hci⟩ := D.ci j o ho
    have hready : ∀ k ∈ b, listed.getD k false = true := fun k hk => by
      rcases hb2 k hk with h1 | ⟨k', h1, b', h2, h3⟩
      · obtain ⟨e, e1, e2, rfl⟩ := deps_mem.1 h1
        exact hdep e e1 e2
      · obtain ⟨e, e1, e2, rfl⟩ := deps_mem.1 h1
        exact hI.2.1 _ b' (hdep e e1 e2) h2 k h3
    have hset : ∀ k, (listed.setIfInBounds j true).getD k false = true ↔ k = j ∨ listed.getD k false = true := fun k => by
      by_cases hkj : k = j
      · subst hkj; simp [hjl]
      · rw [getD_set_ne false (Ne.symm hkj)]; simp [hkj]
    have hcl : ∀ (j' : Nat) (b : List Nat), (listed.setIfInBounds j true).getD j' false = true → bs[j']? = some b → ∀ k ∈ b, (listed.setIfInBounds j true).getD k false = true := by
      intro j' b' h1 h2 k hk
      rw [hset] at h1 ⊢
      rcases h1 with rfl | h1
      · rw [hb] at h2; cases h2; exact .inr (hready k hk)
      · exact .inr (hI.2.1 j' b' h1 h2 k hk)
    have hcnt : (listed.setIfInBounds j true).toList.count false ≤ fuel := by have := count_set hun; omega
    have hsz : (listed.setIfInBounds j true).size = ops.size := by simpa using hI.1
    have go : (if Region.wanted o (yielded ops a.tmps) then o.wp P a w (wpAny P .any ops (QK E n K) fuel (listed.setIfInBounds j true)) (QK E n K) else wpAny P .any ops (QK E n K) fuel (listed.setIfInBounds j true) (a.put o.dst undef) w) →
        wpOp P ops (QK E n K) j (wpAny P .any ops (QK E n K) fuel (listed.setIfInBounds j true)) a w := by
      intro hg
      unfold wpOp
      simp only [ho]
      split
      · rename_i hw; rw [if_pos hw] at hg; exact .inl hg
      · rename_i hw; rw [if_neg hw] at hg; exact hg
    refine go ?_
    by_cases hjm : j < m ∧ ∀ j, listed.getD j false = true → j < m
    · rcases hI.2.2 with ⟨g1, G, ρ, tL, hL, hC, g2, g3⟩ | ⟨k, k1, k2, k3, _⟩
      · obtain ⟨r, tj, q1, q2, q3⟩ := D.vq j i hjm.1 hi
        have hq : rok ow P lo i tL h hm r := rok.congr ow q2 fun s hs => by
          refine agree_uniq ow D g2 q3 g1 (fun k hk => by omega) s (fun k y hk hy hd => ?_) (fun k y hk hy hd => ?_)
          · have hkm := g1 k hk
            have hks : k < ops.size := by have := D.ml; omega
            obtain ⟨bk, hbk, _⟩ := D.cl k _ (Array.getElem?_eq_getElem hks)
            have hne : j ≠ k := fun e => hnl (e ▸ hk)
            rcases (D.dj j k i y b bk hjm.1 hkm hne hi hy hb hbk).2 s hd hs with h1 | h1
            · exact D.lt j b hb k h1
            · exact absurd (hI.2.1 k bk hk hbk j h1) hnl
          · have hkm : k < m := by omega
            have hks : k < ops.size := by have := D.ml; omega
            obtain ⟨bk, hbk, _⟩ := D.cl k _ (Array.getElem?_eq_getElem hks)
            rcases (D.dj j k i y b bk hjm.1 hkm (by omega) hi hy hb hbk).2 s hd hs with h1 | h1
            · exact hready k h1
            · have := D.lt k bk hbk j h1; omega
        have hMore : More hL hm := by
          intro u x hx hn
          have hx0 := D.hM u x hx hn
          rw [get?_eq] at hx0 ⊢
          rcases g3.2 u with ⟨k, r', w, a1, a2, a3, a4, a5⟩ | ⟨_, a2⟩
          · exfalso
            have hkm := g1 k a1
            obtain ⟨r2, _, e1, e2, _⟩ := D.vq k _ hkm (List.getElem?_eq_getElem (by rw [D.il]; have := D.ml; omega))
            rw [a2] at e1; cases e1
            unfold rok at e2
            rw [a3] at e2
            have e3 : isNo ((get? hm w.1).getD .no) = true := by
              rcases e2 with ⟨_, _, _, _, _, _, _, _, _, _, e⟩ | ⟨_, _, _, _, _, _, e, _⟩ <;> exact e
            rw [a4, hx] at e3
            cases x <;> simp [isNo] at e3
            exact hn rfl
          · rw [a2]; exact hx0
        have hsame : ∀ u, r.2 = some u → hL[u.1]? = h[u.1]? := by
          intro u hu
          rcases g3.2 u.1 with ⟨k, r', w, a1, a2, a3, a4, _⟩ | ⟨_, a2⟩
          · exact absurd a4 (D.wd k j r' r w u a2 q1 a3 hu (fun e => hnl (e ▸ a1)))
          · exact a2
        refine qstep ow hC hlo hci hq hMore hsame fun a' w' G' ρ' hC' => ih _ _ _ hcnt ⟨hsz, hcl, .inl ⟨fun k hk => ?_, G', ρ', _, _, hC', fun s => ?_, by unfold wr; split <;> simp [g3.1], fun u => ?_⟩⟩
        · rcases (hset k).1 hk with rfl | hk
          · exact hjm.1
          · exact g1 k hk
        · rw [gs_putv]
          by_cases hd : i.d = some s
          · rw [if_pos hd]
            exact .inl ⟨j, i, (hset j).2 (.inl rfl), hi, hd, by rw [List.getElem?_map, q1]; rfl⟩
          · rw [if_neg hd]
            rcases g2 s with ⟨k, y, a1, a2, a3, a4⟩ | ⟨a1, a2⟩
            · exact .inl ⟨k, y, (hset k).2 (.inr a1), a2, a3, a4⟩
            · refine .inr ⟨fun k y hk hy => ?_, a2⟩
              rcases (hset k).1 hk with rfl | hk
              · rw [hi] at hy; cases hy; exact hd
              · exact a1 k y hk hy
        · cases hr : r.2 with
          | none =>
            have hwr : wr hL r = hL := by simp [wr, hr]
            rw [hwr]
            rcases g3.2 u with ⟨k, r', w, a1, a2, a3, a4, a5⟩ | ⟨a1, a2⟩
            · exact .inl ⟨k, r', w, (hset k).2 (.inr a1), a2, a3, a4, a5⟩
            · refine .inr ⟨fun k r' w hk hr' hw => ?_, a2⟩
              rcases (hset k).1 hk with rfl | hk
              · rw [q1] at hr'; cases hr'; rw [hr] at hw; cases hw
              · exact a1 k r' w hk hr' hw
          | some w0 =>
            have hwr : wr hL r = hL.set w0.1 w0.2 := by simp [wr, hr]
            rw [hwr]
            by_cases hu : w0.1 = u
            · subst hu
              refine .inl ⟨j, r, w0, (hset j).2 (.inl rfl), q1, hr, rfl, ?_⟩
              unfold rok at hq
              rw [hr] at hq
              have e1 : ∃ z, get? h w0.1 = some z := by
                rcases hq with ⟨_, _, _, _, cs, _, _, e1, _⟩ | ⟨_, _, _, _, _, e1, _⟩ <;> exact ⟨_, e1⟩
              obtain ⟨z, e1⟩ := e1
              rw [get?_eq, ← hsame w0 hr] at e1
              rw [List.getElem?_set, if_pos rfl, if_pos (List.getElem?_eq_some_iff.1 e1).1]
            · rw [List.getElem?_set, if_neg hu]
              rcases g3.2 u with ⟨k, r', w, a1, a2, a3, a4, a5⟩ | ⟨a1, a2⟩
              · exact .inl ⟨k, r', w, (hset k).2 (.inr a1), a2, a3, a4, a5⟩
              · refine .inr ⟨fun k r' w hk hr' hw => ?_, a2⟩
                rcases (hset k).1 hk with rfl | hk
                · rw [q1] at hr'; cases hr'; rw [hr] at hw; cases hw; exact hu
                · exact a1 k r' w hk hr' hw
      · exact absurd ((k3 j).2 (by omega)) hnl
    · have hall : ∀ i, i < m → listed.getD i false = true := by
        rcases hI.2.2 with ⟨g1, _⟩ | ⟨k, k1, k2, k3, _⟩
        · have hmj : m ≤ j := by
            rcases Nat.lt_or_ge j m with h | h
            · exact absurd ⟨h, g1⟩ hjm
            · exact h
          exact fun i hi => hready i (D.fu j b hmj hb i (by omega))
        · exact fun i hi => (k3 i).2 (by omega)
      obtain ⟨k, k1, k2, k3, G, ρ, t', h', hC, hk⟩ := turn listed a w hI hall
      have hjk : j = k := by
        have h1 : k ≤ j := by
          rcases Nat.lt_or_ge j k with h | h
          · exact absurd ((k3 j).2 h) hnl
          · exact h
        rcases Nat.lt_or_ge k j with h2 | h2
        · have := (k3 k).1 (hready k (D.fu j b (by omega) hb k h2)); omega
        · omega
      subst hjk
      have hdrop : is.drop j = i :: is.drop (j + 1) := by
        have hlt : j < is.length := by rw [D.il]; exact hjs
        rw [List.drop_eq_getElem_cons hlt]
        rw [List.getElem?_eq_getElem hlt] at hi
        rw [Option.some.inj hi]
      rw [hdrop] at hk
      exact step_ok ow hC hci hk (fun a' w' G' ρ' t' h' hC' hk' => ih _ _ _ hcnt ⟨hsz, hcl, .inr ⟨j + 1, by omega, by omega, fun k => by rw [hset, k3]; omega, G', ρ', t', h', hC', hk'⟩⟩) PQ.qk
end
end
end Go.Vx
