/- What a call may be taken for: its callee's picture laid out of the caller's, and back. Conditions: none; definitions and lemmas on the definitions before. -/
import Derived.Test.YtoibcfioicdlhaaGreatDoorVxL
namespace Go.Vx

section ren
variable {G : Nat → Prop} {w : World} {ρ ρ' : List Value} {f : Nat → Nat}

theorem RepK.ren {v : Value} {x : V} (h : RepK G w ρ v x) (hf : ∀ i ∈ idc x, ρ'[f i]? = ρ[i]?) : RepK G w ρ' v (rnc f x) := by
  cases h with
  | un => exact .un _
  | ud => exact .ud
  | d h => exact .d h
  | p id off b h => exact .p _ off b ((hf id (by simp [idc])).trans h)
  | e b o off row U h1 h2 h3 => exact .e b o off row U h1 h2 h3
  | os id a n c h => exact .os _ a n c ((hf id (by simp [idc])).trans h)
  | q id z i off b n c h => exact .q _ z i off b n c ((hf id (by simp [idc])).trans h)
  | cl a n z rows h => exact .cl a n z rows h
  | nl z => exact .nl z
  | mp id r h => exact .mp _ r ((hf id (by simp [idc])).trans h)
  | ov id z i _ a n c h hv => exact .ov _ z i _ a n c ((hf id (by simp [idc])).trans h) hv

theorem RepC.ren {v : Value} {x : V} (h : RepC G w ρ v x) (hf : ∀ i ∈ id0 x, ρ'[f i]? = ρ[i]?) : RepC G w ρ' v (rn0 f x) := by
  cases h with
  | k h =>
    have e1 : rn0 f x = rnc f x := by cases h <;> rfl
    have e2 : id0 x = idc x := by cases h <;> rfl
    rw [e1]
    exact .k (h.ren (by rw [← e2]; exact hf))
  | fc g u cs caps h0 h1 h2 =>
    refine .fc g _ cs _ h0 (by simpa using h1) (fun i x hx => ?_)
    rw [List.getElem?_map] at hx
    cases hc : caps[i]? with
    | none => rw [hc] at hx; cases hx
    | some x0 =>
      rw [hc] at hx; cases hx
      exact (h2 i x0 hc).ren (fun j hj => hf j (by simp only [id0, List.mem_flatMap]; exact ⟨x0, List.mem_of_getElem? hc, hj⟩))

theorem Rep1.ren {v : Value} {x : V} (h : Rep1 G w ρ v x) (hf : ∀ i ∈ id1 x, ρ'[f i]? = ρ[i]?) : Rep1 G w ρ' v (rn1 f x) := by
  cases h with
  | c h =>
    have e1 : rn1 f x = rn0 f x := by
      cases h with
      | k h => cases h <;> rfl
      | fc => rfl
    have e2 : id1 x = id0 x := by
      cases h with
      | k h => cases h <;> rfl
      | fc => rfl
    rw [e1]
    exact .c (h.ren (by rw [← e2]; exact hf))
  | ag cs vs h1 h2 =>
    refine .ag cs _ (by simpa using h1) (fun i x hx => ?_)
    rw [List.getElem?_map] at hx
    cases hc : vs[i]? with
    | none => rw [hc] at hx; cases hx
    | some x0 =>
      rw [hc] at hx; cases hx
      exact (h2 i x0 hc).ren (fun j hj => hf j (by simp only [id1, List.mem_flatMap]; exact ⟨x0, List.mem_of_getElem? hc, hj⟩))

theorem Rep2.ren {v : Value} {x : V} (h : Rep2 G w ρ v x) (hf : ∀ i ∈ id2 x, ρ'[f i]? = ρ[i]?) : Rep2 G w ρ' v (rn2 f x) := by
  cases h with
  | o h =>
    have e1 : rn2 f x = rn1 f x := by
      cases h with
      | c h => cases h with
        | k h => cases h <;> rfl
        | fc => rfl
      | ag => rfl
    have e2 : id2 x = id1 x := by
      cases h with
      | c h => cases h with
        | k h => cases h <;> rfl
        | fc => rfl
      | ag => rfl
    rw [e1]
    exact .o (h.ren (by rw [← e2]; exact hf))
  | tu cs vs h1 h2 =>
    refine .tu cs _ (by simpa using h1) (fun i x hx => ?_)
    rw [List.getElem?_map] at hx
    cases hc : vs[i]? with
    | none => rw [hc] at hx; cases hx
    | some x0 =>
      rw [hc] at hx; cases hx
      exact (h2 i x0 hc).ren (fun j hj => hf j (by simp only [id2, List.mem_flatMap]; exact ⟨x0, List.mem_of_getElem? hc, hj⟩))

theorem RepB.ren {v : Value} {x : B} (h : RepB G w ρ v x) (hf : ∀ i ∈ idB x, ρ'[f i]? = ρ[i]?) : RepB G w ρ' v (rnB f x) := by
  cases x with
  | no => trivial
  | nw => exact h
  | cells cs =>
    obtain ⟨b, arr, ty, rfl, h1, h2, h3⟩ := h
    refine ⟨b, arr, ty, rfl, h1, by simpa using h2, fun i x hx => ?_⟩
    rw [List.getElem?_map] at hx
    cases hc : cs[i]? with
    | none => rw [hc] at hx; cases hx
    | some x0 =>
      rw [hc] at hx; cases hx
      exact (h3 i x0 hc).ren (fun j hj => hf j (by simp only [idB, List.mem_flatMap]; exact ⟨x0, List.mem_of_getElem? hc, hj⟩))
  | mp es =>
    obtain ⟨r, arr, clk, rfl, h1, h2, h3, h4⟩ := h
    refine ⟨r, arr, clk, rfl, h1, by simpa using h2, h3, fun i e x he hx => ?_⟩
    rw [List.getElem?_map] at hx
    cases hc : es[i]? with
    | none => rw [hc] at hx; cases hx
    | some x0 =>
      rw [hc] at hx; cases hx
      exact ⟨(h4 i e x0 he hc).1.ren (fun j hj => hf j (by simp only [idB, List.mem_flatMap]; exact ⟨x0, List.mem_of_getElem? hc, List.mem_append_left _ hj⟩)),
        (h4 i e x0 he hc).2.ren (fun j hj => hf j (by simp only [idB, List.mem_flatMap]; exact ⟨x0, List.mem_of_getElem? hc, List.mem_append_right _ hj⟩))⟩
  | dm es => exact RepB.mono (x := .dm es) h (fun _ h => h) (fun _ _ => rfl) (fun _ _ => rfl) (fun i hi => by cases hi)
  | rows z rs => exact h

theorem rnB_no (f : Nat → Nat) (x : B) : rnB f x = .no ↔ x = .no := by cases x <;> simp [rnB]

/-- Nothing to be called otherwise. -/
theorem rnc_id {f : Nat → Nat} {x : V} (h : idc x = []) : rnc f x = x := by cases x <;> simp [idc] at h <;> rfl
theorem map_fix {α : Type} {f : α → α} {l : List α} (h : ∀ x ∈ l, f x = x) : l.map f = l := by
  induction l with
  | nil => rfl
  | cons x l ih => rw [List.map_cons, h x (by simp), ih (fun y hy => h y (by simp [hy]))]

theorem rn0_id {f : Nat → Nat} {x : V} (h : id0 x = []) : rn0 f x = x := by
  cases x with
  | fc g c =>
    simp only [id0, List.flatMap_eq_nil_iff] at h
    simp only [rn0, map_fix (fun x hx => rnc_id (h x hx))]
  | p | os | q | mp | ov => simp [id0, idc] at h
  | _ => rfl
theorem rn1_id {f : Nat → Nat} {x : V} (h : id1 x = []) : rn1 f x = x := by
  cases x with
  | ag c =>
    simp only [id1, List.flatMap_eq_nil_iff] at h
    simp only [rn1, map_fix (fun x hx => rn0_id (h x hx))]
  | fc g c => exact rn0_id (x := .fc g c) h
  | p | os | q | mp | ov => simp [id1, id0, idc] at h
  | _ => rfl
theorem rn2_id {f : Nat → Nat} {x : V} (h : id2 x = []) : rn2 f x = x := by
  cases x with
  | tu c =>
    simp only [id2, List.flatMap_eq_nil_iff] at h
    simp only [rn2, map_fix (fun x hx => rn1_id (h x hx))]
  | ag c => exact rn1_id (x := .ag c) h
  | fc g c => exact rn0_id (x := .fc g c) h
  | p | os | q | mp | ov => simp [id2, id1, id0, idc] at h
  | _ => rfl
end ren

/-- How a call ends, in the picture. -/
def RepO (G : Nat → Prop) (w : World) (ρ : List Value) (e : Ending) : Out → Prop
  | .ret r => ∃ v, e = .returned v ∧ Rep2 G w ρ v r
  | .pan r => ∃ v, e = .panicked [{ v := v, recovered := false }] ∧ Rep2 G w ρ v r

def callOk (P : Program) (f : Nat) : Bool :=
  match P.funcs[f]? with
  | some fn => fn.name != "runtime.NumGoroutine" && fn.body.isSome
  | none => false

/-- What a call of a function comes to, in the picture. -/
structure Sat (P : Program) (f : Nat) (vs : List V) (h : H) (K : Out → H → Prop) : Prop where
  ok : callOk P f = true
  run : ∀ (G : Nat → Prop) (w : World) (ρ as : List Value), HR G w ρ h → as.length = vs.length → (∀ (i : Nat) (x : V), vs[i]? = some x → Rep2 G w ρ (as.getD i undef) x) →
    Calls P f as.toArray w fun e w' => ∃ (G' : Nat → Prop) (ρ' : List Value) (h' : H) (out : Out), Ok ⟨w, G, ρ, h, []⟩ G' w' ρ' h' ∧ RepO G' w' ρ' e out ∧ K out h'

theorem Sat.mono {P : Program} {f : Nat} {vs : List V} {h : H} {K K' : Out → H → Prop} (hs : Sat P f vs h K) (hk : ∀ o h, K o h → K' o h) : Sat P f vs h K' :=
  ⟨hs.1, fun G w ρ as h1 h2 h3 => (hs.2 G w ρ as h1 h2 h3).mono fun _ _ ⟨G', ρ', h', out, a, b, c⟩ => ⟨G', ρ', h', out, a, b, hk _ _ c⟩⟩

/-- A function of data alone. -/
def SatP (P : Program) (f : Nat) (vs : List V) (r : V) : Prop := Sat P f vs [] fun out h => out = .ret r ∧ h = []

theorem SatP.use {P : Program} {f : Nat} {vs : List V} {r : V} {K : Out → H → Prop} (hs : SatP P f vs r) (hk : K (.ret r) []) : Sat P f vs [] K :=
  hs.mono fun o h ⟨e1, e2⟩ => by rw [e1, e2]; exact hk

section back
theorem has_iff {l : List Nat} {i : Nat} : has l i = true ↔ i ∈ l := by
  simp only [has, List.any_eq_true]
  constructor
  · rintro ⟨x, hx, he⟩; rw [nbq he]; exact hx
  · intro h; exact ⟨i, h, Nat.beq_refl i⟩

theorem nodup_of {l : List Nat} (h : nodupb l = true) : l.Nodup := by
  induction l with
  | nil => exact List.nodup_nil
  | cons x l ih =>
    simp only [nodupb, Bool.and_eq_true, Bool.not_eq_true'] at h
    refine List.nodup_cons.2 ⟨fun hm => ?_, ih h.2⟩
    have := has_iff.2 hm
    rw [h.1] at this
    cases this

theorem pos_lt {ids : List Nat} {i : Nat} (h : i ∈ ids) : pos ids i < ids.length :=
  List.findIdx_lt_length_of_exists ⟨i, h, Nat.beq_refl i⟩

theorem pos_get {ids : List Nat} {i : Nat} (h : i ∈ ids) : ids[pos ids i]? = some i := by
  have hl := pos_lt h
  rw [List.getElem?_eq_getElem hl]
  have := List.findIdx_getElem (p := Nat.beq i) (w := hl)
  exact congrArg some (nbq this).symm

theorem get_pos {ids : List Nat} (hn : ids.Nodup) {k i : Nat} (h : ids[k]? = some i) : pos ids i = k := by
  have hi := List.mem_of_getElem? h
  have h1 := pos_get hi
  have hl := (List.getElem?_eq_some_iff.1 h).1
  exact (List.getElem?_inj (pos_lt hi) hn).1 (h1.trans h.symm)

theorem home_lt {n k i : Nat} {ids : List Nat} (h : ids[k]? = some i) : home n ids k = i := by simp [home, get?_eq, h]
theorem home_ge {n k : Nat} {ids : List Nat} (h : ids.length ≤ k) : home n ids k = n + k - ids.length := by simp [home, get?_eq, List.getElem?_eq_none h]

theorem back_len {ids : List Nat} {g : Nat → Nat} {h h' : H} : (back ids g h h').length = h.length + (h'.length - ids.length) := by simp [back]
theorem back_old {ids : List Nat} {g : Nat → Nat} {h h' : H} {i : Nat} (hi : i ∉ ids) (hl : i < h.length) : (back ids g h h')[i]? = h[i]? := by
  have hb : has ids i = false := by
    cases hb : has ids i
    · rfl
    · exact absurd (has_iff.1 hb) hi
  simp only [back]
  rw [List.getElem?_append_left (by simpa using hl)]
  simp [List.getElem?_map, List.getElem?_zipIdx, List.getElem?_eq_getElem hl, hb]
theorem back_mid {ids : List Nat} {g : Nat → Nat} {h h' : H} {i : Nat} (hi : i ∈ ids) (hl : i < h.length) (hll : ids.length ≤ h'.length) : (back ids g h h')[i]? = (h'[pos ids i]?).map (rnB g) := by
  have hb := has_iff.2 hi
  have hp := pos_lt hi
  simp only [back]
  rw [List.getElem?_append_left (by simpa using hl)]
  simp [List.getElem?_map, List.getElem?_zipIdx, List.getElem?_eq_getElem hl, hb, get?_eq, List.getElem?_eq_getElem (show pos ids i < h'.length by omega)]
theorem back_new {ids : List Nat} {g : Nat → Nat} {h h' : H} {i : Nat} (hl : h.length ≤ i) : (back ids g h h')[i]? = (h'[ids.length + (i - h.length)]?).map (rnB g) := by
  simp only [back]
  rw [List.getElem?_append_right (by simpa using hl)]
  simp [List.getElem?_map, List.getElem?_drop]

/-- The handles behind a call. -/
def backρ (ids : List Nat) (ρ ρ' : List Value) : List Value :=
  (ρ.zipIdx.map fun p => bif has ids p.2 then (ρ'[pos ids p.2]?).getD undef else p.1) ++ ρ'.drop ids.length
theorem backρ_len {ids : List Nat} {ρ ρ' : List Value} : (backρ ids ρ ρ').length = ρ.length + (ρ'.length - ids.length) := by simp [backρ]
theorem backρ_old {ids : List Nat} {ρ ρ' : List Value} {i : Nat} (hi : i ∉ ids) (hl : i < ρ.length) : (backρ ids ρ ρ')[i]? = ρ[i]? := by
  have hb : has ids i = false := by
    cases hb : has ids i
    · rfl
    · exact absurd (has_iff.1 hb) hi
  simp only [backρ]
  rw [List.getElem?_append_left (by simpa using hl)]
  simp [List.getElem?_map, List.getElem?_zipIdx, List.getElem?_eq_getElem hl, hb]
theorem backρ_mid {ids : List Nat} {ρ ρ' : List Value} {i : Nat} (hi : i ∈ ids) (hl : i < ρ.length) (hll : ids.length ≤ ρ'.length) : (backρ ids ρ ρ')[i]? = ρ'[pos ids i]? := by
  have hb := has_iff.2 hi
  have hp := pos_lt hi
  simp only [backρ]
  rw [List.getElem?_append_left (by simpa using hl)]
  simp [List.getElem?_map, List.getElem?_zipIdx, List.getElem?_eq_getElem hl, hb, List.getElem?_eq_getElem (show pos ids i < ρ'.length by omega)]
theorem backρ_new {ids : List Nat} {ρ ρ' : List Value} {i : Nat} (hl : ρ.length ≤ i) : (backρ ids ρ ρ')[i]? = ρ'[ids.length + (i - ρ.length)]? := by
  simp only [backρ]
  rw [List.getElem?_append_right (by simpa using hl)]
  simp [List.getElem?_drop]

theorem backρ_home {ids : List Nat} (hn : ids.Nodup) {ρ ρ' : List Value} (hlt : ∀ i ∈ ids, i < ρ.length) (hll : ids.length ≤ ρ'.length) (k : Nat) : (backρ ids ρ ρ')[home ρ.length ids k]? = ρ'[k]? := by
  by_cases hk : k < ids.length
  · have hg := List.getElem?_eq_getElem hk
    rw [home_lt hg, backρ_mid (List.getElem_mem hk) (hlt _ (List.getElem_mem hk)) hll, get_pos hn hg]
  · rw [home_ge (by omega), backρ_new (by omega)]
    congr 1; omega
end back
end Go.Vx
