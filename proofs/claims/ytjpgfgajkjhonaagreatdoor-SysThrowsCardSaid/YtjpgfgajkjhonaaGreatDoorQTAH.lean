/- What a call may be taken for: its callee's picture laid out of the caller's, and back. Conditions: none; definitions and lemmas on the definitions before. -/
import Derived.Test.YtjpgfgajkjhonaaGreatDoorQTAG
import Derived.RangeFuncSeq
namespace Go.Vx
section ren
variable {G : Nat → Prop} {w : World} {ρ ρ' : List Value} {f : Nat → Nat}
theorem RepK.ren {v : Value} {x : V} (h : RepK G w ρ v x) (hf : ∀ i ∈ idc x, ρ'[f i]? = ρ[i]?) : RepK G w ρ' v (rnc f x) := by
 cases h with
 | un => exact .un _
 | ud => exact .ud
 | d h => exact .d h
 | p id off b h => exact .p _ off b ((hf id (by simp [idc])).trans h)
 | e b o off row U h1 h2 h3 => exact .e b o off row U h1 h2 h3
 | os id a n c h => exact .os _ a n c ((hf id (by simp [idc])).trans h)
 | q id z i off b n c h => exact .q _ z i off b n c ((hf id (by simp [idc])).trans h)
 | cl a n z rows h => exact .cl a n z rows h
 | nl z => exact .nl z
 | mp id r h => exact .mp _ r ((hf id (by simp [idc])).trans h)
 | ov id z i _ a n c h hv => exact .ov _ z i _ a n c ((hf id (by simp [idc])).trans h) hv
 | it id r m h => exact .it _ r m ((hf id (by simp [idc])).trans h)
theorem RepC.ren {v : Value} {x : V} (h : RepC G w ρ v x) (hf : ∀ i ∈ id0 x, ρ'[f i]? = ρ[i]?) : RepC G w ρ' v (rn0 f x) := by
 cases h with
 | k h =>
  have e1 : rn0 f x = rnc f x := by cases h <;> rfl
  have e2 : id0 x = idc x := by cases h <;> rfl
  rw [e1]
  exact .k (h.ren (by rw [← e2]; exact hf))
 | fc g u cs caps h0 h1 h2 =>
  refine .fc g _ cs _ h0 (by simpa using h1) (fun i x hx => ?_)
  rw [List.getElem?_map] at hx
  cases hc : caps[i]? with
  | none => rw [hc] at hx; cases hx
  | some x0 =>
   rw [hc] at hx; cases hx
   exact (h2 i x0 hc).ren (fun j hj => hf j (by simp only [id0, List.mem_flatMap]; exact ⟨x0, List.mem_of_getElem? hc, hj⟩))
theorem Rep1.ren {v : Value} {x : V} (h : Rep1 G w ρ v x) (hf : ∀ i ∈ id1 x, ρ'[f i]? = ρ[i]?) : Rep1 G w ρ' v (rn1 f x) := by
 cases h with
 | c h =>
  have e1 : rn1 f x = rn0 f x := by
   cases h with
   | k h => cases h <;> rfl
   | fc => rfl
  have e2 : id1 x = id0 x := by
   cases h with
   | k h => cases h <;> rfl
   | fc => rfl
  rw [e1]
  exact .c (h.ren (by rw [← e2]; exact hf))
 | ag cs vs h1 h2 =>
  refine .ag cs _ (by simpa using h1) (fun i x hx => ?_)
  rw [List.getElem?_map] at hx
  cases hc : vs[i]? with
  | none => rw [hc] at hx; cases hx
  | some x0 =>
   rw [hc] at hx; cases hx
   exact (h2 i x0 hc).ren (fun j hj => hf j (by simp only [id1, List.mem_flatMap]; exact ⟨x0, List.mem_of_getElem? hc, hj⟩))
theorem Rep2.ren {v : Value} {x : V} (h : Rep2 G w ρ v x) (hf : ∀ i ∈ id2 x, ρ'[f i]? = ρ[i]?) : Rep2 G w ρ' v (rn2 f x) := by
 cases h with
 | o h =>
  have e1 : rn2 f x = rn1 f x := by
   cases h with
   | c h => cases h with
    | k h => cases h <;> rfl
    | fc => rfl
   | ag => rfl
  have e2 : id2 x = id1 x := by
   cases h with
   | c h => cases h with
    | k h => cases h <;> rfl
    | fc => rfl
   | ag => rfl
  rw [e1]
  exact .o (h.ren (by rw [← e2]; exact hf))
 | tu cs vs h1 h2 =>
  refine .tu cs _ (by simpa using h1) (fun i x hx => ?_)
  rw [List.getElem?_map] at hx
  cases hc : vs[i]? with
  | none => rw [hc] at hx; cases hx
  | some x0 =>
   rw [hc] at hx; cases hx
   exact (h2 i x0 hc).ren (fun j hj => hf j (by simp only [id2, List.mem_flatMap]; exact ⟨x0, List.mem_of_getElem? hc, hj⟩))
theorem RepB.ren {v : Value} {x : B} (h : RepB G w ρ v x) (hf : ∀ i ∈ idB x, ρ'[f i]? = ρ[i]?) : RepB G w ρ' v (rnB f x) := by
 cases x with
 | no => trivial
 | nw => exact h
 | cells cs =>
  obtain ⟨b, arr, ty, rfl, h1, h2, h3⟩ := h
  refine ⟨b, arr, ty, rfl, h1, by simpa using h2, fun i x hx => ?_⟩
  rw [List.getElem?_map] at hx
  cases hc : cs[i]? with
  | none => rw [hc] at hx; cases hx
  | some x0 =>
   rw [hc] at hx; cases hx
   exact (h3 i x0 hc).ren (fun j hj => hf j (by simp only [idB, List.mem_flatMap]; exact ⟨x0, List.mem_of_getElem? hc, hj⟩))
 | mp es =>
  obtain ⟨r, arr, clk, rfl, h1, h2, h3, h4⟩ := h
  refine ⟨r, arr, clk, rfl, h1, by simpa using h2, h3, fun i e x he hx => ?_⟩
  rw [List.getElem?_map] at hx
  cases hc : es[i]? with
  | none => rw [hc] at hx; cases hx
  | some x0 =>
   rw [hc] at hx; cases hx
   exact ⟨(h4 i e x0 he hc).1.ren (fun j hj => hf j (by simp only [idB, List.mem_flatMap]; exact ⟨x0, List.mem_of_getElem? hc, List.mem_append_left _ hj⟩)),
    (h4 i e x0 he hc).2.ren (fun j hj => hf j (by simp only [idB, List.mem_flatMap]; exact ⟨x0, List.mem_of_getElem? hc, List.mem_append_right _ hj⟩))⟩
 | dm es => exact RepB.mono (x := .dm es) h (fun _ h => h) (fun _ _ => rfl) (fun _ _ => rfl) (fun i hi => by cases hi)
 | di es r l => exact RepB.mono (x := .di es r l) h (fun _ h => h) (fun _ _ => rfl) (fun _ _ => rfl) (fun i hi => by cases hi)
 | ms z es out it =>
  have h1 := RepB.mono (x := .ms z es none it) (w' := w) (ρ' := ρ') ⟨RepMs.drop h.1, h.2⟩ (fun _ h => h) (fun _ _ => rfl) (fun _ _ => rfl) (fun i hi => by cases hi)
  exact ⟨h1.1.outs h.1 (fun i v u ho hr => hr.ren (fun j hj => hf j (by subst ho; exact hj))), h.2⟩
 | rows z rs => exact h
 | rx z rs k r =>
  obtain ⟨b, cap, arr, ty, rfl, h1, h2, h3, h4, h0, h5, h6⟩ := h
  refine ⟨b, cap, arr, ty, rfl, h1, h2, h3, h4, by simpa using h0, h5, fun i x hx => ?_⟩
  rw [List.getElem?_map] at hx
  cases hc : r[i]? with
  | none => rw [hc] at hx; cases hx
  | some x0 =>
   rw [hc] at hx; cases hx
   exact (h6 i x0 hc).ren (fun j hj => hf j (by simp only [idB, List.mem_flatMap]; exact ⟨x0, List.mem_of_getElem? hc, hj⟩))
theorem gh_rnB (f : Nat → Nat) (x : B) : gh (rnB f x) = gh x := by cases x <;> rfl
theorem rnB_no (f : Nat → Nat) (x : B) : rnB f x = .no ↔ x = .no := by cases x <;> simp [rnB]
theorem rnc_id {f : Nat → Nat} {x : V} (h : idc x = []) : rnc f x = x := by cases x <;> simp [idc] at h <;> rfl
theorem map_fix {α : Type} {f : α → α} {l : List α} (h : ∀ x ∈ l, f x = x) : l.map f = l := by
 induction l with
 | nil => rfl
 | cons x l ih => rw [List.map_cons, h x (by simp), ih (fun y hy => h y (by simp [hy]))]
theorem rn0_id {f : Nat → Nat} {x : V} (h : id0 x = []) : rn0 f x = x := by
 cases x with
 | fc g c =>
  simp only [id0, List.flatMap_eq_nil_iff] at h
  simp only [rn0, map_fix (fun x hx => rnc_id (h x hx))]
 | p | os | q | mp | ov | it => simp [id0, idc] at h
 | _ => rfl
theorem rn1_id {f : Nat → Nat} {x : V} (h : id1 x = []) : rn1 f x = x := by
 cases x with
 | ag c =>
  simp only [id1, List.flatMap_eq_nil_iff] at h
  simp only [rn1, map_fix (fun x hx => rn0_id (h x hx))]
 | fc g c => exact rn0_id (x := .fc g c) h
 | p | os | q | mp | ov | it => simp [id1, id0, idc] at h
 | _ => rfl
theorem rn2_id {f : Nat → Nat} {x : V} (h : id2 x = []) : rn2 f x = x := by
 cases x with
 | tu c =>
  simp only [id2, List.flatMap_eq_nil_iff] at h
  simp only [rn2, map_fix (fun x hx => rn1_id (h x hx))]
 | ag c => exact rn1_id (x := .ag c) h
 | fc g c => exact rn0_id (x := .fc g c) h
 | p | os | q | mp | ov | it => simp [id2, id1, id0, idc] at h
 | _ => rfl
end ren
def RepO (G : Nat → Prop) (w : World) (ρ : List Value) (e : Ending) : Out → Prop
 | .ret r => ∃ v, e = .returned v ∧ Rep2 G w ρ v r
 | .pan r => ∃ v, e = .panicked [{ v := v, recovered := false }] ∧ Rep2 G w ρ v r
def callOk (P : Program) (f : Nat) : Bool :=
 match P.funcs[f]? with
 | some fn => fn.name != "runtime.NumGoroutine" && fn.body.isSome
 | none => false
structure SatF (P : Program) (f : Nat) (vs : List V) (h : H) (K : Out → H → Prop) : Prop where
 ok : callOk P f = true
 run : ∀ (G : Nat → Prop) (w : World) (ρ as : List Value), HR G w ρ h → as.length = vs.length → (∀ (i : Nat) (x : V), vs[i]? = some x → Rep2 G w ρ (as.getD i undef) x) →
  Calls P f as.toArray w fun e w' => ∃ (G' : Nat → Prop) (ρ' : List Value) (h' : H) (out : Out), Ok ⟨w, G, ρ, h, [], []⟩ G' w' ρ' h' ∧ RepO G' w' ρ' e out ∧ K out h'
def Fw (r : Option Nat) : Fence := { Fence.wide with round := r }
def encD : D → Value
 | .int k n => .int k n
 | .bool b => .bool b
 | .str s => .string ⟨s.toArray⟩
 | _ => undef
structure IterP (P : Program) (g : Nat) (caps : List V) (hb : H) (xs : List (List D)) : Prop where
 ok : callOk P g = true
 run : ∀ (ρ as : List Value) (l : Nat) (J : Nat → World → Prop) (Jx : World → Prop), as.length = caps.length →
  (∀ i W W', J i W → Grw W W' → J i W') → (∀ W W', Jx W → Grw W W' → Jx W') →
  (∀ i W, J i W → ∃ G, HR G W ρ hb ∧ ∀ (j : Nat) (x : V), caps[j]? = some x → Rep2 G W ρ (as.getD j undef) x) →
  (∀ (i : Nat) (r : List D) (W1 : World), xs[i]? = some r → J i W1 → YieldAt (Fw none) 0 P l (r.map encD).toArray W1 fun e W2 => (e = .returned (.bool true) ∧ J (i + 1) W2) ∨ (e = .returned (.bool false) ∧ Jx W2)) →
  ∀ W, J 0 W → CallsIn (Fw none) 0 P g (#[.func (.yield l) #[] #[]] ++ as.toArray) W fun e W' => (∃ v, e = .returned v) ∧ (J xs.length W' ∨ Jx W')
def Sat (P : Program) (f : Nat) (vs : List V) (h : H) (K : Out → H → Prop) : Prop :=
 SatF P f vs h K ∨ (5000000 ≤ f ∧ ∃ (z : Nat) (xs : List (List D)), IterP P (f - 5000000) vs h xs ∧ K (.ret (.d (.sl z xs))) [])
theorem SatF.mono {P : Program} {f : Nat} {vs : List V} {h : H} {K K' : Out → H → Prop} (hs : SatF P f vs h K) (hk : ∀ o h, K o h → K' o h) : SatF P f vs h K' :=
 ⟨hs.1, fun G w ρ as h1 h2 h3 => (hs.2 G w ρ as h1 h2 h3).mono fun _ _ ⟨G', ρ', h', out, a, b, c⟩ => ⟨G', ρ', h', out, a, b, hk _ _ c⟩⟩
theorem Sat.mono {P : Program} {f : Nat} {vs : List V} {h : H} {K K' : Out → H → Prop} (hs : Sat P f vs h K) (hk : ∀ o h, K o h → K' o h) : Sat P f vs h K' :=
 hs.imp (fun h => h.mono hk) fun ⟨h1, z, xs, h2, h3⟩ => ⟨h1, z, xs, h2, hk _ _ h3⟩
theorem Sat.fn {P : Program} {f : Nat} {vs : List V} {h : H} {K : Out → H → Prop} (hs : Sat P f vs h K) (hf : f < 5000000) : SatF P f vs h K :=
 hs.resolve_right fun h => absurd h.1 (by omega)
def SatP (P : Program) (f : Nat) (vs : List V) (r : V) : Prop := Sat P f vs [] fun out h => out = .ret r ∧ h = []
theorem SatP.use {P : Program} {f : Nat} {vs : List V} {r : V} {K : Out → H → Prop} (hs : SatP P f vs r) (hk : K (.ret r) []) : Sat P f vs [] K :=
 hs.mono fun o h ⟨e1, e2⟩ => by rw [e1, e2]; exact hk
section back
theorem has_iff {l : List Nat} {i : Nat} : has l i = true ↔ i ∈ l := by
 simp only [has, List.any_eq_true]
 constructor
 ·rintro ⟨x, hx, he⟩; rw [nbq he]; exact hx
 ·intro h; exact ⟨i, h, Nat.beq_refl i⟩
theorem nodup_of {l : List Nat} (h : nodupb l = true) : l.Nodup := by
 induction l with
 | nil => exact List.nodup_nil
 | cons x l ih =>
  simp only [nodupb, Bool.and_eq_true, Bool.not_eq_true'] at h
  refine List.nodup_cons.2 ⟨fun hm => ?_, ih h.2⟩
  have := has_iff.2 hm
  rw [h.1] at this
  cases this
theorem pos_lt {ids : List Nat} {i : Nat} (h : i ∈ ids) : pos ids i < ids.length :=
 List.findIdx_lt_length_of_exists ⟨i, h, Nat.beq_refl i⟩
theorem pos_get {ids : List Nat} {i : Nat} (h : i ∈ ids) : ids[pos ids i]? = some i := by
 have hl := pos_lt h
 rw [List.getElem?_eq_getElem hl]
 have := List.findIdx_getElem (p := Nat.beq i) (w := hl)
 exact congrArg some (nbq this).symm
theorem get_pos {ids : List Nat} (hn : ids.Nodup) {k i : Nat} (h : ids[k]? = some i) : pos ids i = k := by
 have hi := List.mem_of_getElem? h
 have h1 := pos_get hi
 have hl := (List.getElem?_eq_some_iff.1 h).1
 exact (List.getElem?_inj (pos_lt hi) hn).1 (h1.trans h.symm)
theorem home_lt {n k i : Nat} {ids : List Nat} (h : ids[k]? = some i) : home n ids k = i := by simp [home, get?_eq, h]
theorem home_ge {n k : Nat} {ids : List Nat} (h : ids.length ≤ k) : home n ids k = n + k - ids.length := by simp [home, get?_eq, List.getElem?_eq_none h]
theorem back_len {ids : List Nat} {g : Nat → Nat} {h h' : H} : (back ids g h h').length = h.length + (h'.length - ids.length) := by simp [back]
theorem back_old {ids : List Nat} {g : Nat → Nat} {h h' : H} {i : Nat} (hi : i ∉ ids) (hl : i < h.length) : (back ids g h h')[i]? = h[i]? := by
 have hb : has ids i = false := by
  cases hb : has ids i
  ·rfl
  ·exact absurd (has_iff.1 hb) hi
 simp only [back]
 rw [List.getElem?_append_left (by simpa using hl)]
 simp [List.getElem?_map, List.getElem?_zipIdx, List.getElem?_eq_getElem hl, hb]
theorem back_mid {ids : List Nat} {g : Nat → Nat} {h h' : H} {i : Nat} (hi : i ∈ ids) (hl : i < h.length) (hll : ids.length ≤ h'.length) : (back ids g h h')[i]? = (h'[pos ids i]?).map (rnB g) := by
 have hb := has_iff.2 hi
 have hp := pos_lt hi
 simp only [back]
 rw [List.getElem?_append_left (by simpa using hl)]
 simp [List.getElem?_map, List.getElem?_zipIdx, List.getElem?_eq_getElem hl, hb, get?_eq, List.getElem?_eq_getElem (show pos ids i < h'.length by omega)]
theorem back_new {ids : List Nat} {g : Nat → Nat} {h h' : H} {i : Nat} (hl : h.length ≤ i) : (back ids g h h')[i]? = (h'[ids.length + (i - h.length)]?).map (rnB g) := by
 simp only [back]
 rw [List.getElem?_append_right (by simpa using hl)]
 simp [List.getElem?_map, List.getElem?_drop]
def backρ (ids : List Nat) (ρ ρ' : List Value) : List Value :=
 (ρ.zipIdx.map fun p => bif has ids p.2 then (ρ'[pos ids p.2]?).getD undef else p.1) ++ ρ'.drop ids.length
theorem backρ_len {ids : List Nat} {ρ ρ' : List Value} : (backρ ids ρ ρ').length = ρ.length + (ρ'.length - ids.length) := by simp [backρ]
theorem backρ_old {ids : List Nat} {ρ ρ' : List Value} {i : Nat} (hi : i ∉ ids) (hl : i < ρ.length) : (backρ ids ρ ρ')[i]? = ρ[i]? := by
 have hb : has ids i = false := by
  cases hb : has ids i
  ·rfl
  ·exact absurd (has_iff.1 hb) hi
 simp only [backρ]
 rw [List.getElem?_append_left (by simpa using hl)]
 simp [List.getElem?_map, List.getElem?_zipIdx, List.getElem?_eq_getElem hl, hb]
theorem backρ_mid {ids : List Nat} {ρ ρ' : List Value} {i : Nat} (hi : i ∈ ids) (hl : i < ρ.length) (hll : ids.length ≤ ρ'.length) : (backρ ids ρ ρ')[i]? = ρ'[pos ids i]? := by
 have hb := has_iff.2 hi
 have hp := pos_lt hi
 simp only [backρ]
 rw [List.getElem?_append_left (by simpa using hl)]
 simp [List.getElem?_map, List.getElem?_zipIdx, List.getElem?_eq_getElem hl, hb, List.getElem?_eq_getElem (show pos ids i < ρ'.length by omega)]
theorem backρ_new {ids : List Nat} {ρ ρ' : List Value} {i : Nat} (hl : ρ.length ≤ i) : (backρ ids ρ ρ')[i]? = ρ'[ids.length + (i - ρ.length)]? := by
 simp only [backρ]
 rw [List.getElem?_append_right (by simpa using hl)]
 simp [List.getElem?_drop]
theorem backρ_home {ids : List Nat} (hn : ids.Nodup) {ρ ρ' : List Value} (hlt : ∀ i ∈ ids, i < ρ.length) (hll : ids.length ≤ ρ'.length) (k : Nat) : (backρ ids ρ ρ')[home ρ.length ids k]? = ρ'[k]? := by
 by_cases hk : k < ids.length
 ·have hg := List.getElem?_eq_getElem hk
  rw [home_lt hg, backρ_mid (List.getElem_mem hk) (hlt _ (List.getElem_mem hk)) hll, get_pos hn hg]
 ·rw [home_ge (by omega), backρ_new (by omega)]
  congr 1; omega
end back
end Go.Vx
namespace Go.Vx
section
variable {P : Program} {E : Ent} {n : Nat} {G : Nat → Prop} {ρ : List Value} {t : T} {h : H} {a : Act} {w : World} {o : Oper} {nxt : Act → World → Prop} {Q : Exit → Act → World → Prop} {K KP : V → T → H → Prop}
theorem kils_eq : ∀ (os : List Nat) (t : T) (K : T → Prop), kils os t K = K (os.foldl (fun t i => kilT i t) t)
 | [], _, _ => rfl
 | i :: os, t, K => by simp [kils_cons, flt_eq, kils_eq os]
theorem kil_all (os : List Nat) (t : T) (i : Nat) : ∃ f : V → V, gs (os.foldl (fun t i => kilT i t) t) i = f (gs t i) ∧
  ∀ (G : Nat → Prop) (w : World) (ρ ρ2 : List Value) (v : Value) (x : V), Rep2 G w ρ v x → (∀ j ∈ os, ∃ v0, ρ[j]? = some v0 ∧ isSl v0 = true) → (∀ j, j ∉ os → ρ2[j]? = ρ[j]?) → ρ2.length = ρ.length → Rep2 G w ρ2 v (f x) := by
 induction os generalizing t with
 | nil =>
  refine ⟨id, rfl, fun G w ρ ρ2 v x hr _ h2 _ => hr.mono (fun _ h => h) (fun _ _ => rfl) (fun j _ => h2 j (by simp))⟩
 | cons j os ih =>
  obtain ⟨f, hf, hr⟩ := ih (kilT j t)
  refine ⟨fun x => f (kil2 j x), ?_, fun G w ρ ρ2 v x hv h1 h2 hl => ?_⟩
  ·rw [List.foldl_cons, hf, kilT, gs_map _ rfl]
  ·obtain ⟨v0, hv0, hs0⟩ := h1 j (by simp)
   have hjl : j < ρ.length := (List.getElem?_eq_some_iff.1 hv0).1
   have hj2 : j < ρ2.length := by omega
   by_cases hjo : j ∈ os
   ·refine hr G w ρ ρ2 v _ ?_ (fun k hk => h1 k (by simp [hk])) (fun k hk => h2 k (by
     simp only [List.mem_cons, not_or]
     exact ⟨fun e => hk (by rw [e]; exact hjo), hk⟩)) hl
    have := hv.kil (v1 := v0) hv0 hs0
    rwa [set_self hv0] at this
   ·refine hr G w (ρ.set j ρ2[j]) ρ2 v _ (hv.kil hv0 hs0) (fun k hk => ?_) (fun k hk => ?_) (by simpa using hl)
    ·obtain ⟨vk, hk1, hk2⟩ := h1 k (by simp [hk])
     exact ⟨vk, by rw [List.getElem?_set, if_neg (fun e => hjo (by rw [e]; exact hk))]; exact hk1, hk2⟩
    ·by_cases hkj : k = j
     ·subst hkj
      rw [List.getElem?_set_self hjl, List.getElem?_eq_getElem hj2]
     ·rw [List.getElem?_set, if_neg (fun e => hkj e.symm)]
      exact h2 k (by simp only [List.mem_cons, not_or]; exact ⟨hkj, hk⟩)
theorem kilB_all (os : List Nat) (h : H) (i : Nat) : ∃ f : B → B, (kilH os h)[i]? = (h[i]?).map f ∧ (∀ x, f x = .no ↔ x = .no) ∧ (∀ x, gh (f x) = gh x) ∧
  ∀ (G : Nat → Prop) (w : World) (ρ ρ2 : List Value) (v : Value) (x : B), RepB G w ρ v x → (∀ j ∈ os, ∃ v0, ρ[j]? = some v0 ∧ isSl v0 = true) → (∀ j, j ∉ os → ρ2[j]? = ρ[j]?) → ρ2.length = ρ.length → RepB G w ρ2 v (f x) := by
 induction os generalizing h with
 | nil =>
  refine ⟨id, by simp [kilH], fun x => Iff.rfl, fun x => rfl, fun G w ρ ρ2 v x hr _ h2 _ => ?_⟩
  by_cases hx : x = .no
  ·subst hx; trivial
  ·exact hr.mono (fun _ h => h) (fun _ _ => rfl) (fun _ _ => rfl) (fun j _ => h2 j (by simp))
 | cons j os ih =>
  obtain ⟨f, hf, hno, hgf, hr⟩ := ih (h.map (kilB j))
  refine ⟨fun x => f (kilB j x), ?_, fun x => (hno _).trans (by cases x <;> simp [kilB]), fun x => (hgf _).trans (gh_kilB _ _), fun G w ρ ρ2 v x hv h1 h2 hl => ?_⟩
  ·rw [kilH, hf, List.getElem?_map, Option.map_map]; rfl
  ·obtain ⟨v0, hv0, hs0⟩ := h1 j (by simp)
   have hjl : j < ρ.length := (List.getElem?_eq_some_iff.1 hv0).1
   have hj2 : j < ρ2.length := by omega
   by_cases hjo : j ∈ os
   ·refine hr G w ρ ρ2 v _ ?_ (fun k hk => h1 k (by simp [hk])) (fun k hk => h2 k (by
     simp only [List.mem_cons, not_or]
     exact ⟨fun e => hk (by rw [e]; exact hjo), hk⟩)) hl
    have := hv.kil (v1 := v0) hv0 hs0
    rwa [set_self hv0] at this
   ·refine hr G w (ρ.set j ρ2[j]) ρ2 v _ (hv.kil hv0 hs0) (fun k hk => ?_) (fun k hk => ?_) (by simpa using hl)
    ·obtain ⟨vk, hk1, hk2⟩ := h1 k (by simp [hk])
     exact ⟨vk, by rw [List.getElem?_set, if_neg (fun e => hjo (by rw [e]; exact hk))]; exact hk1, hk2⟩
    ·by_cases hkj : k = j
     ·subst hkj
      rw [List.getElem?_set_self hjl, List.getElem?_eq_getElem hj2]
     ·rw [List.getElem?_set, if_neg (fun e => hkj e.symm)]
      exact h2 k (by simp only [List.mem_cons, not_or]; exact ⟨hkj, hk⟩)
theorem kilH_len (os : List Nat) (h : H) : (kilH os h).length = h.length := by
 induction os generalizing h with
 | nil => rfl
 | cons j os ih => rw [kilH, ih]; simp
theorem HR.part (hr : HR G w ρ h) {ids : List Nat} (hn : ids.Nodup) (hlt : ∀ i ∈ ids, i < h.length) (hcl : ∀ i ∈ ids, ∀ x, h[i]? = some x → ∀ j ∈ idB x, j ∈ ids) :
  HR G w (ids.map fun i => (ρ[i]?).getD undef) (ids.map fun i => rnB (pos ids) ((get? h i).getD .no)) ∧
  (∀ b, own (ids.map fun i => (ρ[i]?).getD undef) (ids.map fun i => rnB (pos ids) ((get? h i).getD .no)) b → ∃ i v x, i ∈ ids ∧ ρ[i]? = some v ∧ h[i]? = some x ∧ x ≠ .no ∧ b ∈ bks v x) := by
 have hρl := hr.len
 have get : ∀ (k : Nat) (v : Value) (y : B), (ids.map fun i => (ρ[i]?).getD undef)[k]? = some v → (ids.map fun i => rnB (pos ids) ((get? h i).getD .no))[k]? = some y →
   ∃ i x, ids[k]? = some i ∧ i ∈ ids ∧ ρ[i]? = some v ∧ h[i]? = some x ∧ y = rnB (pos ids) x := by
  intro k v y h1 h2
  simp only [List.getElem?_map, Option.map_eq_some_iff] at h1 h2
  obtain ⟨i, hi, rfl⟩ := h1
  obtain ⟨i', hi', rfl⟩ := h2
  rw [hi] at hi'
  cases hi'
  have hm := List.mem_of_getElem? hi
  have hl := hlt i hm
  refine ⟨i, h[i], hi, hm, ?_, List.getElem?_eq_getElem hl, ?_⟩
  ·rw [List.getElem?_eq_getElem (by omega)]; rfl
  ·rw [get?_eq, List.getElem?_eq_getElem hl]; rfl
 have hown : ∀ b, own (ids.map fun i => (ρ[i]?).getD undef) (ids.map fun i => rnB (pos ids) ((get? h i).getD .no)) b → ∃ i v x, i ∈ ids ∧ ρ[i]? = some v ∧ h[i]? = some x ∧ x ≠ .no ∧ b ∈ bks v x := by
  rintro b ⟨k, v, y, h1, h2, h3, h4⟩
  obtain ⟨i, x, _, hm, g1, g2, rfl⟩ := get k v y h1 h2
  exact ⟨i, v, x, hm, g1, g2, fun e => h3 ((rnB_no _ _).2 e), by rw [bks, gh_rnB] at h4; exact h4⟩
 refine ⟨⟨by simp, fun k v y h1 h2 => ?_, fun k k' v v' y y' b h1 h2 h3 h4 h5 h6 h7 h8 => ?_, hr.gl, fun b hb ho => ?_, hr.glb⟩, hown⟩
 ·obtain ⟨i, x, _, hm, g1, g2, rfl⟩ := get k v y h1 h2
  refine (hr.rep i v x g1 g2).ren (fun j hj => ?_)
  have hjm := hcl i hm x g2 j hj
  rw [List.getElem?_map, pos_get hjm]
  have := hlt j hjm
  rw [Option.map_some, List.getElem?_eq_getElem (by omega)]; rfl
 ·obtain ⟨i, x, e1, hm, g1, g2, rfl⟩ := get k v y h1 h2
  obtain ⟨i', x', e2, hm', g1', g2', rfl⟩ := get k' v' y' h4 h5
  rw [bks, gh_rnB] at h7 h8
  have := hr.dis i i' v v' x x' b g1 g2 (fun e => h3 ((rnB_no _ _).2 e)) g1' g2' (fun e => h6 ((rnB_no _ _).2 e)) h7 h8
  subst this
  exact (List.getElem?_inj (List.getElem?_eq_some_iff.1 e1).1 hn).1 (e1.trans e2.symm)
 ·obtain ⟨i, v, x, _, g1, g2, g3, g4⟩ := hown b ho
  exact hr.gd b hb ⟨i, v, x, g1, g2, g3, g4⟩
theorem Conc.back (hC : Conc E n G ρ t h a w) {ids : List Nat} (hn : ids.Nodup) (hlt : ∀ i ∈ ids, i < h.length) (hnn : ∀ i ∈ ids, h[i]? ≠ some B.no) (hcl : ∀ i ∈ ids, ∀ x, h[i]? = some x → ∀ j ∈ idB x, j ∈ ids)
  {G' : Nat → Prop} {w' : World} {ρ' : List Value} {h' : H} (hO : Ok ⟨w, G, ids.map fun i => (ρ[i]?).getD undef, ids.map fun i => rnB (pos ids) ((get? h i).getD .no), [], []⟩ G' w' ρ' h') :
  Conc E n G' (backρ ids ρ ρ') ((rowsOf h ids).foldl (fun t i => kilT i t) t) (Vx.back ids (home h.length ids) (kilH (rowsOf h ids) h) h') a w' ∧
   ∀ (v : Value) (x : V), Rep2 G' w' ρ' v x → Rep2 G' w' (backρ ids ρ ρ') v (rn2 (home h.length ids) x) := by
 obtain ⟨hP, hown⟩ := hC.ok.hr.part hn hlt hcl
 have hr := hC.ok.hr
 have hρl := hr.len
 have hll : ids.length ≤ h'.length := by simpa using hO.hl
 have hl' := hO.hr.len
 have hltρ : ∀ i ∈ ids, i < ρ.length := fun i hi => by rw [hρl]; exact hlt i hi
 have hb2 := fun k => backρ_home (ρ := ρ) (ρ' := ρ') hn hltρ (by omega) k
 rw [hρl] at hb2
 generalize hρc : (ids.map fun i => (ρ[i]?).getD undef) = ρc at *
 generalize hhc : (ids.map fun i => rnB (pos ids) ((get? h i).getD .no)) = hc at *
 have hoc : ∀ b, own ρc hc b → own ρ h b := fun b hb => by
  obtain ⟨i, v, x, _, g1, g2, g3, g4⟩ := hown b hb
  exact ⟨i, v, x, g1, g2, g3, g4⟩
 have hold : ∀ b, b < w.heap.size → ¬ own ρc hc b → w'.heap[b]? = w.heap[b]? := hO.frame
 have hGb : ∀ b, G b → w'.heap[b]? = w.heap[b]? := fun b hb => hold b (hr.gl b hb) (fun ho => hr.gd b hb (hoc b ho))
 have hGG : ∀ b, G b → G' b := hO.gm
 have hsz : w.heap.size ≤ w'.heap.size := hO.size
 have hoth : ∀ (i : Nat) (v : Value) (x : B) (b : Nat), i ∉ ids → ρ[i]? = some v → h[i]? = some x → x ≠ .no → b ∈ bks v x → b < w.heap.size ∧ (¬ own ρc hc b) ∧ ¬ G' b ∧ ¬ own ρ' h' b := by
  intro i v x b hi g1 g2 g3 g4
  have hb := hr.lt g1 g2 g3 g4
  have hno : ¬ own ρc hc b := fun ho => by
   obtain ⟨i', v', x', hm, k1, k2, k3, k4⟩ := hown b ho
   exact hi (by rw [hr.dis i i' v v' x x' b g1 g2 g3 k1 k2 k3 g4 k4]; exact hm)
  refine ⟨hb, hno, fun hg => ?_, fun ho => ?_⟩
  ·rcases hO.go b hg with h1 | ⟨_, h1 | h1⟩
   ·exact hr.gd b h1 ⟨i, v, x, g1, g2, g3, g4⟩
   ·exact absurd h1 (by show ¬ w.heap.size ≤ b; omega)
   ·exact hno h1
  ·rcases hO.oo b ho with h1 | h1
   ·exact absurd h1 (by show ¬ w.heap.size ≤ b; omega)
   ·exact hno h1
 have hos1 : ∀ j ∈ rowsOf h ids, ∃ v0, ρ[j]? = some v0 ∧ isSl v0 = true := by
  intro j hj
  simp only [rowsOf, List.mem_filter, get?_eq] at hj
  obtain ⟨hjm, hjr⟩ := hj
  have hjl := hlt j hjm
  have hx := List.getElem?_eq_getElem hjl
  rw [hx] at hjr
  have hv := List.getElem?_eq_getElem (hltρ j hjm)
  refine ⟨_, hv, ?_⟩
  have hrep := hr.rep j _ _ hv hx
  simp only [Option.getD_some] at hjr
  generalize (h : List B)[j] = x at *
  cases x <;> simp [isRows] at hjr
  ·rcases hrep with ⟨he, _⟩ | ⟨_, _, _, _, he, _⟩ <;> rw [he] <;> rfl
  ·obtain ⟨_, _, _, _, he, _⟩ := hrep; rw [he]; rfl
 have hmid : ∀ j, j ∉ rowsOf h ids → ((backρ ids ρ ρ').take ρ.length)[j]? = ρ[j]? := by
  intro j hjr
  rw [List.getElem?_take]
  by_cases hjl : j < ρ.length
  ·rw [if_pos hjl]
   by_cases hj : j ∈ ids
   ·rw [backρ_mid hj hjl (by omega)]
    have hv := List.getElem?_eq_getElem hjl
    have hx := List.getElem?_eq_getElem (hlt j hj)
    have hns : isSl ρ[j] = false := by
     have hrep := hr.rep j _ _ hv hx
     have hxn := hnn j hj
     rw [hx] at hxn
     have hrw : j ∈ rowsOf h ids ↔ isRows ((h : List B)[j]'(hlt j hj)) = true := by
      simp only [rowsOf, List.mem_filter, get?_eq, hx, Option.getD_some]
      exact ⟨fun h => h.2, fun h => ⟨hj, h⟩⟩
     generalize (h : List B)[j]'(hlt j hj) = x at *
     cases x with
     | no => exact absurd rfl hxn
     | nw =>
      have hu : _ = undef := hrep
      rw [hu]; rfl
     | cells cs => obtain ⟨b, arr, ty, he, _⟩ := hrep; rw [he]; rfl
     | mp es => obtain ⟨b, arr, clk, he, _⟩ := hrep; rw [he]; rfl
     | dm es => obtain ⟨b, arr, clk, he, _⟩ := hrep; rw [he]; rfl
     | di es r l => obtain ⟨⟨b, arr, clk, he, _⟩, _⟩ := hrep; rw [he]; rfl
     | ms z es out it => obtain ⟨⟨b, arr, clk, he, _⟩, _⟩ := hrep; rw [he]; rfl
     | rows z rs => exact absurd (hrw.2 rfl) hjr
     | rx z rs k r => exact absurd (hrw.2 rfl) hjr
    rw [hv]
    refine hO.hand (pos ids j) _ ?_ hns
    show ρc[pos ids j]? = _
    rw [← hρc]
    simp only [List.getElem?_map, pos_get hj, Option.map_some, hv, Option.getD_some]
   ·exact backρ_old hj hjl
  ·rw [if_neg hjl, List.getElem?_eq_none (by omega)]
 have htl : ((backρ ids ρ ρ').take ρ.length).length = ρ.length := by rw [List.length_take, backρ_len]; omega
 have hext : ∀ i, i < ρ.length → (backρ ids ρ ρ')[i]? = ((backρ ids ρ ρ').take ρ.length)[i]? := fun i hi => by rw [List.getElem?_take, if_pos hi]
 have hren : ∀ (v : Value) (x : V), Rep2 G' w' ρ' v x → Rep2 G' w' (backρ ids ρ ρ') v (rn2 (home h.length ids) x) := fun v x hv => hv.ren (fun i _ => hb2 i)
 have hbl : (Vx.back ids (home h.length ids) (kilH (rowsOf h ids) h) h').length = h.length + (h'.length - ids.length) := by rw [back_len, kilH_len]
 have get : ∀ (i : Nat) (v : Value) (y : B), (backρ ids ρ ρ')[i]? = some v → (Vx.back ids (home h.length ids) (kilH (rowsOf h ids) h) h')[i]? = some y →
   (i ∉ ids ∧ ρ[i]? = some v ∧ ∃ (x : B) (f : B → B), h[i]? = some x ∧ y = f x ∧ (f x = .no ↔ x = .no) ∧ gh (f x) = gh x ∧ (RepB G' w' ρ v x → RepB G' w' (backρ ids ρ ρ') v y)) ∨
   (∃ k x, home h.length ids k = i ∧ ρ'[k]? = some v ∧ h'[k]? = some x ∧ y = rnB (home h.length ids) x) := by
  intro i v y h1 h2
  by_cases hil : i < h.length
  ·by_cases hi : i ∈ ids
   ·rw [backρ_mid hi (by omega) (by omega)] at h1
    rw [back_mid hi (by rw [kilH_len]; exact hil) hll] at h2
    simp only [Option.map_eq_some_iff] at h2
    obtain ⟨x, hx, rfl⟩ := h2
    exact .inr ⟨pos ids i, x, home_lt (pos_get hi), h1, hx, rfl⟩
   ·rw [backρ_old hi (by omega)] at h1
    rw [back_old hi (by rw [kilH_len]; exact hil)] at h2
    obtain ⟨f, hf, hno, hgf, hrf⟩ := kilB_all (rowsOf h ids) h i
    rw [hf] at h2
    simp only [Option.map_eq_some_iff] at h2
    obtain ⟨x, hx, rfl⟩ := h2
    refine .inl ⟨hi, h1, x, f, hx, rfl, hno x, hgf x, fun hrep => ?_⟩
    have h3 := hrf G' w' ρ _ v x hrep hos1 hmid htl
    by_cases hfx : f x = .no
    ·rw [hfx]; trivial
    ·exact h3.mono (fun _ h => h) (fun _ _ => rfl) (fun _ _ => rfl) (fun j hj => hext j (by have := h3.lt j hj; omega))
  ·rw [backρ_new (by omega)] at h1
   rw [back_new (by rw [kilH_len]; omega), kilH_len] at h2
   simp only [Option.map_eq_some_iff] at h2
   obtain ⟨x, hx, rfl⟩ := h2
   rw [hρl] at h1
   exact .inr ⟨_, x, by rw [home_ge (by omega)]; omega, h1, hx, rfl⟩
 have hOk : Ok E G' w' (backρ ids ρ ρ') (Vx.back ids (home h.length ids) (kilH (rowsOf h ids) h) h') := by
  have hownb : ∀ b, own (backρ ids ρ ρ') (Vx.back ids (home h.length ids) (kilH (rowsOf h ids) h) h') b → (own ρ h b ∨ w.heap.size ≤ b) ∧ ¬ G' b := by
   rintro b ⟨i, v, y, h1, h2, h3, h4⟩
   rcases get i v y h1 h2 with ⟨hi, g1, x, f, g2, rfl, g4, g6, _⟩ | ⟨k, x, _, g1, g2, rfl⟩
   ·rw [bks, g6] at h4
    have hxn : x ≠ .no := fun e => h3 (g4.2 e)
    exact ⟨.inl ⟨i, v, x, g1, g2, hxn, h4⟩, (hoth i v x b hi g1 g2 hxn h4).2.2.1⟩
   ·rw [bks, gh_rnB] at h4
    have hxn : x ≠ .no := fun e => h3 ((rnB_no _ _).2 e)
    have ho : own ρ' h' b := ⟨k, v, x, g1, g2, hxn, h4⟩
    refine ⟨?_, fun hg => hO.hr.gd b hg ho⟩
    rcases hO.oo b ho with h5 | h5
    ·exact .inr h5
    ·exact .inl (hoc b h5)
  refine ⟨⟨by rw [backρ_len, hbl]; omega, fun i v y h1 h2 => ?_, fun i i' v v' y y' b h1 h2 h3 h4 h5 h6 h7 h8 => ?_, hO.hr.gl, fun b hb ho => (hownb b ho).2 hb, hO.hr.glb⟩, fun b hb => hGG b (hC.ok.gm b hb), fun b hb => ?_, fun b hb => ?_,
   fun b hb hnb => ?_, Nat.le_trans hC.ok.size hsz, hO.os.trans hC.ok.os, hO.tape.trans hC.ok.tape, hO.out.trans hC.ok.out, fun i v hv hs => ?_, by rw [hbl]; have := hC.ok.hl; omega, fun r hr' => ?_⟩
  ·rcases get i v y h1 h2 with ⟨hi, g1, x, f, g2, rfl, g4, _, g5⟩ | ⟨k, x, _, g1, g2, rfl⟩
   ·by_cases hxn : x = .no
    ·rw [g4.2 hxn]; trivial
    ·exact g5 ((hr.rep i v x g1 g2).mono hGG hGb (fun b hb => by
      obtain ⟨e1, e2, _⟩ := hoth i v x b hi g1 g2 hxn hb
      exact hold b e1 e2) (fun _ _ => rfl))
   ·exact (hO.hr.rep k v x g1 g2).ren (fun j _ => hb2 j)
  ·rcases get i v y h1 h2 with ⟨hi, g1, x, f, g2, rfl, g4, g6, _⟩ | ⟨k, x, e1, g1, g2, rfl⟩ <;> rcases get i' v' y' h4 h5 with ⟨hi', k1, x', f', k2, rfl, k4, k6, _⟩ | ⟨k', x', e2, k1, k2, rfl⟩
   ·rw [bks, g6] at h7
    rw [bks, k6] at h8
    exact hr.dis i i' v v' x x' b g1 g2 (fun e => h3 (g4.2 e)) k1 k2 (fun e => h6 (k4.2 e)) h7 h8
   ·rw [bks, g6] at h7
    rw [bks, gh_rnB] at h8
    exact absurd ⟨k', v', x', k1, k2, fun e => h6 ((rnB_no _ _).2 e), h8⟩ (hoth i v x b hi g1 g2 (fun e => h3 (g4.2 e)) h7).2.2.2
   ·rw [bks, gh_rnB] at h7
    rw [bks, k6] at h8
    exact absurd ⟨k, v, x, g1, g2, fun e => h3 ((rnB_no _ _).2 e), h7⟩ (hoth i' v' x' b hi' k1 k2 (fun e => h6 (k4.2 e)) h8).2.2.2
   ·rw [bks, gh_rnB] at h7 h8
    have := hO.hr.dis k k' v v' x x' b g1 g2 (fun e => h3 ((rnB_no _ _).2 e)) k1 k2 (fun e => h6 ((rnB_no _ _).2 e)) h7 h8
    rw [← e1, ← e2, this]
  ·rcases hO.go b hb with h1 | ⟨hc, h1 | h1⟩
   ·exact (hC.ok.go b h1).imp (fun h => h) fun h2 => ⟨h2.1.same (hGb b h1), h2.2⟩
   ·exact .inr ⟨hc, .inl (Nat.le_trans hC.ok.size h1)⟩
   ·exact .inr ⟨hc, hC.ok.oo b (hoc b h1)⟩
  ·rcases (hownb b hb).1 with h1 | h1
   ·exact hC.ok.oo b h1
   ·exact .inl (Nat.le_trans hC.ok.size h1)
  ·have hbw : b < w.heap.size := Nat.lt_of_lt_of_le hb hC.ok.size
   rw [hold b hbw (fun ho => ?_)]
   ·exact hC.ok.frame b hb hnb
   ·rcases hC.ok.oo b (hoc b ho) with h1 | h1
    ·omega
    ·exact hnb h1
  ·have h0 := hC.ok.hand i v hv hs
   have hil := (List.getElem?_eq_some_iff.1 h0).1
   rw [hext i hil]
   by_cases hjr : i ∈ rowsOf h ids
   ·obtain ⟨v0, hv0, hs0⟩ := hos1 i hjr
    rw [h0] at hv0
    cases hv0
    rw [hs] at hs0; cases hs0
   ·rw [hmid i hjr]; exact h0
  ·obtain ⟨h1, h2, h3⟩ := hC.ok.mks r hr'
   have hlt := (Array.getElem?_eq_some_iff.1 h1).1
   refine ⟨(hold r hlt fun ho => h3 (hoc r ho)).trans h1, fun h4 => ?_, fun h4 => ?_⟩
   ·rcases hO.go r h4 with h5 | ⟨_, h5 | h5⟩
    ·exact h2 h5
    ·exact absurd h5 (by show ¬ w.heap.size ≤ r; omega)
    ·exact h3 (hoc r h5)
   ·rcases (hownb r h4).1 with h5 | h5
    ·exact h3 h5
    ·omega
 refine ⟨⟨hOk, hC.df, hC.sz, fun i => ?_⟩, hren⟩
 obtain ⟨f, hf, hrf⟩ := kil_all (rowsOf h ids) t i
 rw [hf]
 have h3 := hrf G' w' ρ _ _ _ ((hC.tm i).mono hGG hGb (fun _ _ => rfl)) hos1 hmid htl
 exact h3.mono (fun _ h => h) (fun _ _ => rfl) (fun j hj => hext j (by have := h3.lt j hj; omega))
end
end Go.Vx
namespace Go.Vx
section
variable {P : Program} {E : Ent} {n : Nat} {G : Nat → Prop} {ρ : List Value} {t : T} {h : H} {a : Act} {w : World} {o : Oper} {nxt : Act → World → Prop} {Q : Exit → Act → World → Prop} {K KP : V → T → H → Prop}
def Pnc (E : Ent) (n : Nat) (a : Act) (KP : V → T → H → Prop) (Q : Exit → Act → World → Prop) : Prop :=
 ∀ (v' : Value) (w' : World) (G' : Nat → Prop) (ρ' : List Value) (t' : T) (h' : H) (v : V), Conc E n G' ρ' t' h' a w' → Rep2 G' w' ρ' v' v → KP v t' h' → Q (.panic [{ v := v', recovered := false }]) a w'
theorem clean_k {v : Value} {x : V} (hv : RepK G w ρ v x) : RepK G w ρ v (clean x) := by
 cases hv with
 | cl a n z rows h => exact .d h
 | nl z => exact .d (.slz z)
 | un => exact .un _
 | ud => exact .ud
 | d h => exact .d h
 | p id off b h => exact .p id off b h
 | e b o off row U h1 h2 h3 => exact .e b o off row U h1 h2 h3
 | os id a n c h => exact .os id a n c h
 | q id z i off b n c h => exact .q id z i off b n c h
 | mp id r h => exact .mp id r h
 | ov id z i _ a n c h hv => exact .ov id z i _ a n c h hv
 | it id r m h => exact .it id r m h
theorem clean_c {v : Value} {x : V} (hv : RepC G w ρ v x) : RepC G w ρ v (clean x) := by
 cases hv with
 | k h => exact .k (clean_k h)
 | fc f u cs caps h0 h1 h2 =>
  cases caps with
  | nil =>
   rw [fcv_nil h0 (by simpa using h1)]
   exact .k (.d (.fn f))
  | cons c r => exact .fc f _ cs _ h0 h1 h2
theorem clean1_ok {v : Value} {x : V} (hv : Rep2 G w ρ v x) : Rep2 G w ρ v (clean1 x) := by
 cases hv with
 | o h => cases h with
  | c h =>
   have : clean1 x = clean x := by
    cases h with
    | k h => cases h <;> rfl
    | fc => rfl
   rw [this]
   exact .o (.c (clean_c h))
  | ag cs vs h1 h2 =>
   refine .o (.ag cs _ (by simpa using h1) (fun i x hx => ?_))
   rw [List.getElem?_map] at hx
   cases hc : vs[i]? with
   | none => rw [hc] at hx; cases hx
   | some x0 => rw [hc] at hx; cases hx; exact clean_c (h2 i x0 hc)
 | tu cs vs h1 h2 => exact .tu cs vs h1 h2
theorem give_ok {K : T → H → List V → Prop} : ∀ (ids : List Nat) (G : Nat → Prop) (t : T) (h : H) (vs : List V) (U : Nat → Value), Conc E n G ρ t h a w → (∀ (i : Nat) (x : V), vs[i]? = some x → Rep2 G w ρ (U i) x) → give ids t h vs K →
  ∃ (G' : Nat → Prop) (t' : T) (h' : H) (vs' : List V), Conc E n G' ρ t' h' a w ∧ vs'.length = vs.length ∧ (∀ (i : Nat) (x : V), vs'[i]? = some x → Rep2 G' w ρ (U i) x) ∧ K t' h' vs' := by
 intro ids
 induction ids with
 | nil => intro G t h vs U hC hU hk; exact ⟨G, t, h, vs, hC, rfl, hU, hk⟩
 | cons id ids ih =>
  intro G t h vs U hC hU hk
  simp only [give_cons, give1, get?_eq] at hk
  split at hk
  ·rename_i z rs hx
   simp only [flv_eq, flt_eq, flb_eq] at hk
   obtain ⟨v0, hv0, hd, hC'⟩ := hC.free hx
   obtain ⟨G', t', h', vs', g1, g2, g3, g4⟩ := ih _ _ _ _ U hC' (fun i x hi => by
    rw [List.getElem?_map] at hi
    cases hc : vs[i]? with
    | none => rw [hc] at hi; cases hi
    | some x0 => rw [hc] at hi; cases hi; exact (hU i x0 hc).sub hv0 (fun b hb => .inl hb) hd) hk
   exact ⟨G', t', h', vs', g1, by simpa using g2, g3, g4⟩
  ·rename_i cs hx
   split at hk
   ·rename_i ds hD
    simp only [flv_eq, flt_eq, flb_eq] at hk
    obtain ⟨v0, hv0, hd, hC'⟩ := hC.freeC hx hD
    obtain ⟨G', t', h', vs', g1, g2, g3, g4⟩ := ih _ _ _ _ U hC' (fun i x hi => by
     rw [List.getElem?_map] at hi
     cases hc : vs[i]? with
     | none => rw [hc] at hi; cases hi
     | some x0 => rw [hc] at hi; cases hi; exact (hU i x0 hc).sub hv0 (fun b hb => .inl hb) hd) hk
    exact ⟨G', t', h', vs', g1, by simpa using g2, g3, g4⟩
   ·exact hk.elim
  ·exact hk.elim
theorem call_ok (hC : Conc E n G ρ t h a w) (hn : Nxt E n a o K nxt) (hp : Pnc E n a KP Q) {f : Nat} (hlt : f < 5000000) {as : Array Value} {vs : List V} (hrun : callOk P f = true → (execOp a.eval o).run P w = .ok (.enter f as) w) (hl : as.size = vs.length)
  (hv : ∀ (i : Nat) (x : V), vs[i]? = some x → Rep2 G w ρ (as.getD i undef) x) (hk : callx (Sat P) f vs t h K KP) : o.wp P a w nxt Q := by
 have upon : ∀ {R : Ending → World → Prop}, callOk P f = true → Calls P f as w R → (∀ e w', R e w' → match e with
   | .returned v => nxt (a.put o.dst v) w'
   | .panicked chain => Q (.panic chain) a w'
   | .outgrown => False) → o.wp P a w nxt Q := by
  intro R hok hc hR
  unfold Oper.wp
  rw [hrun hok, Oper.upon_enter]
  refine hc.mono fun e w' hr => ?_
  have := hR e w' hr
  cases e <;> first | exact this | exact this.elim
 have hget : ∀ i, as.toList.getD i undef = as.getD i undef := by
  intro i; rw [List.getD_eq_getElem?_getD, Array.getElem?_toList, Array.getD_eq_getD_getElem?]
 simp only [callx] at hk
 split at hk
 ·skip
  rename_i hids
  simp only [List.flatMap_eq_nil_iff] at hids
  obtain ⟨hok, hS⟩ := hk.fn hlt
  have hC0 := hC.ok.hr
  have hr0 : HR G w [] [] := ⟨rfl, by simp, by simp, hC0.gl, (fun b _ ho => by obtain ⟨_, _, _, h1, _⟩ := ho; simp at h1), hC0.glb⟩
  have hc := hS G w [] as.toList hr0 (by simpa using hl) (fun i x hx => by
   rw [hget]
   exact (hv i x hx).mono (fun _ h => h) (fun _ _ => rfl) (fun j hj => by rw [hids x (List.mem_of_getElem? hx)] at hj; cases hj))
  rw [Array.toArray_toList] at hc
  refine upon hok hc ?_
  rintro e w' ⟨G', ρ', h', out, hO, hR, hk⟩
  have hO' : Ok ⟨w, G, ([] : List Nat).map fun i => (ρ[i]?).getD undef, ([] : List Nat).map fun i => rnB (pos []) ((get? h i).getD .no), [], []⟩ G' w' ρ' h' := hO
  obtain ⟨hC', hren⟩ := hC.back (ids := []) List.nodup_nil (by simp) (by simp) (by simp) hO'
  have hrows : rowsOf h [] = [] := rfl
  rw [hrows] at hC'
  simp only [List.foldl_nil, kilH] at hC'
  have hbk : Vx.back [] (home h.length []) h h' = h ++ h'.map (rnB (home h.length [])) := by
   simp only [Vx.back, List.length_nil, List.drop_zero]
   congr 1
   apply List.ext_getElem?
   intro i
   simp only [List.getElem?_map, List.getElem?_zipIdx]
   cases h[i]? <;> rfl
  have hhome : home h.length [] = fun i => h.length + i := by funext i; simp [home, get?_eq]
  rw [hbk, hhome] at hC'
  rw [hhome] at hren
  cases h' with
  | nil =>
   have hρ' : ρ' = [] := List.eq_nil_of_length_eq_zero hO.hr.len
   subst hρ'
   simp only [List.map_nil, List.append_nil] at hC'
   have hidr : ∀ (v : Value) (r : V), Rep2 G' w' [] v r → rn2 (fun i => h.length + i) r = r := fun v r hr => rn2_id (by
    cases hh : id2 r with
    | nil => rfl
    | cons i l => have := hr.lt i (by rw [hh]; simp); simp at this)
   cases out with
   | ret r =>
    obtain ⟨v, rfl, hr⟩ := hR
    have := hren v r hr
    rw [hidr v r hr] at this
    exact hn v w' G' _ t h r hC' this hk
   | pan r =>
    obtain ⟨v, rfl, hr⟩ := hR
    have := hren v r hr
    rw [hidr v r hr] at this
    exact hp v w' G' _ t h r hC' this hk
  | cons b h' =>
   simp only [flb_eq] at hk
   cases out with
   | ret r =>
    obtain ⟨v, rfl, hr⟩ := hR
    exact hn v w' G' _ t _ _ hC' (hren v r hr) hk
   | pan r =>
    obtain ⟨v, rfl, hr⟩ := hR
    exact hp v w' G' _ t _ _ hC' (hren v r hr) hk
 ·skip
  rename_i i is hids
  simp only [fl_eq, flb_eq, fln_eq] at hk
  generalize reach h 100 (i :: is) [] = ids at hk
  obtain ⟨hchk, hkS⟩ := hk
  obtain ⟨hok, hS⟩ := hkS.fn hlt
  simp only [chk, Bool.and_eq_true] at hchk
  obtain ⟨⟨h1, h2⟩, h3⟩ := hchk
  have hnd := nodup_of h1
  have hall : ∀ i ∈ ids, i < h.length ∧ h[i]? ≠ some B.no ∧ ∀ x, h[i]? = some x → ∀ j ∈ idB x, j ∈ ids := by
   intro i hi
   have := List.all_eq_true.1 h2 i hi
   simp only [Bool.and_eq_true] at this
   obtain ⟨⟨g1, g2⟩, g3⟩ := this
   have hlt : i < h.length := by
    exact Nat.le_of_ble_eq_true g1
   have hx := List.getElem?_eq_getElem hlt
   rw [get?_eq, hx] at g2 g3
   simp only [Option.getD_some] at g2 g3
   refine ⟨hlt, ?_, ?_⟩
   ·rw [hx]; intro e; rw [Option.some.inj e] at g2; cases g2
   ·intro x hx' j hj
    rw [hx] at hx'
    cases hx'
    exact has_iff.1 (List.all_eq_true.1 g3 j hj)
  have hvid : ∀ x ∈ vs, ∀ j ∈ id2 x, j ∈ ids := fun x hx j hj => by
   have hm : j ∈ i :: is := by rw [← hids]; exact List.mem_flatMap.2 ⟨x, hx, hj⟩
   exact has_iff.1 (List.all_eq_true.1 h3 j hm)
  obtain ⟨hP, _⟩ := hC.ok.hr.part hnd (fun i hi => (hall i hi).1) (fun i hi => (hall i hi).2.2)
  have hρl := hC.ok.hr.len
  have hc := hS G w _ as.toList hP (by simpa using hl) (fun k x hx => by
   rw [List.getElem?_map] at hx
   cases hx0 : vs[k]? with
   | none => rw [hx0] at hx; cases hx
   | some x0 =>
    rw [hx0] at hx; cases hx
    rw [hget]
    refine (hv k x0 hx0).ren (fun j hj => ?_)
    have hjm := hvid x0 (List.mem_of_getElem? hx0) j hj
    have hjl := (hall j hjm).1
    rw [List.getElem?_map, pos_get hjm, Option.map_some, List.getElem?_eq_getElem (by omega)]; rfl)
  rw [Array.toArray_toList] at hc
  refine upon hok hc ?_
  rintro e w' ⟨G', ρ', h', out, hO, hR, hk⟩
  simp only [kils_eq] at hk
  obtain ⟨hC', hren⟩ := hC.back hnd (fun i hi => (hall i hi).1) (fun i hi => (hall i hi).2.1) (fun i hi => (hall i hi).2.2) hO
  cases out with
  | ret r =>
   obtain ⟨v, rfl, hr⟩ := hR
   exact hn v w' G' _ _ _ _ hC' (hren v r hr) hk
  | pan r =>
   obtain ⟨v, rfl, hr⟩ := hR
   exact hp v w' G' _ _ _ _ hC' (hren v r hr) hk
theorem args_ok (hC : Conc E n G ρ t h a w) : ∀ (xs : List Operand) (ts : List TypeId) (os : List O), args P xs ts = some os → os.length = xs.length ∧ ∀ (i : Nat) (x : O), os[i]? = some x → Rep2 G w ρ ((xs.map a.eval).getD i undef) (gv t x)
 | [], ts, os, h => by cases ts <;> (simp only [args] at h; cases h; simp)
 | x :: xs, [], os, h => by
  simp only [args, Option.bind_eq_bind, Option.bind_eq_some_iff] at h
  obtain ⟨y, hy, ys, hys, he⟩ := h
  cases he
  obtain ⟨g1, g2⟩ := args_ok hC xs [] ys hys
  refine ⟨by simp [g1], fun i z hz => ?_⟩
  cases i with
  | zero => simp at hz; subst hz; simpa using opd_ok hC hy
  | succ i => simpa using g2 i z (by simpa using hz)
 | x :: xs, ty :: ts, os, h => by
  simp only [args, Option.bind_eq_bind, Option.bind_eq_some_iff] at h
  obtain ⟨y, hy, ys, hys, he⟩ := h
  cases he
  obtain ⟨g1, g2⟩ := args_ok hC xs ts ys hys
  refine ⟨by simp [g1], fun i z hz => ?_⟩
  cases i with
  | zero => simp at hz; subst hz; simpa using opd_ok hC hy
  | succ i => simpa using g2 i z (by simpa using hz)
theorem callFunc_ok {f : Nat} {as : Array Value} (h : callOk P f = true) : (callFunc f as).run P w = .ok (.enter f as) w := by
 unfold callOk at h
 unfold callFunc
 cases hf : P.funcs[f]? with
 | none => rw [hf] at h; cases h
 | some fn =>
  rw [hf] at h
  simp only [Bool.and_eq_true, bne_iff_ne, ne_eq] at h
  have hb : ¬ fn.body = none := fun e => by rw [e] at h; cases h.2
  simp [hf, h.1, hb]
def all (w : World) (b : Nat) : Prop := b < w.heap.size
theorem borD_ok {v : Value} {x : V} {d : D} (hv : RepC G w ρ v x) (hd : borD x = some d) : RepD G w v d := by
 cases hv with
 | k hv =>
  cases hv <;> simp only [borD, reduceCtorEq, Option.some.injEq] at hd
  ·subst hd; assumption
  ·subst hd; assumption
  ·subst hd; exact .slz _
 | fc f u cs caps h0 h1 h2 =>
  cases caps with
  | cons => simp [borD] at hd
  | nil =>
   simp only [borD, Option.some.injEq] at hd
   subst hd
   rw [fcv_nil h0 (by simpa using h1)]
   exact .fn f
theorem mapM_get1 {α β : Type} {f : α → Option β} : ∀ {l : List α} {r : List β}, l.mapM f = some r → r.length = l.length ∧ ∀ (k : Nat) (y : β), r[k]? = some y → ∃ x, l[k]? = some x ∧ f x = some y := by
 intro l
 induction l with
 | nil => intro r h; simp at h; subst h; simp
 | cons x l ih =>
  intro r h
  simp only [List.mapM_cons, Option.bind_eq_bind, Option.bind_eq_some_iff, Option.pure_def, Option.some.injEq] at h
  obtain ⟨y, hy, ys, hys, rfl⟩ := h
  obtain ⟨h1, h2⟩ := ih hys
  refine ⟨by simp [h1], fun k y' hy' => ?_⟩
  cases k with
  | zero => simp at hy'; subst hy'; exact ⟨x, rfl, hy⟩
  | succ k => simpa using h2 k y' (by simpa using hy')
theorem borc_ok (hr : HR G w ρ h) {v : Value} {x : V} (hv : RepK G w ρ v x) : RepK (all w) w [] v (borc h x) := by
 have hG : ∀ b, G b → all w b := hr.gl
 cases hv with
 | un => exact .un _
 | ud => exact .ud
 | d h => exact .d (h.mono hG (fun _ _ => rfl))
 | e b o off row U h1 h2 h3 => exact .e b o off row U (hG b h1) h2 fun j x hx => (h3 j x hx).mono hG (fun _ _ => rfl)
 | cl a n z rows h => exact .cl a n z rows (h.mono hG (fun _ _ => rfl))
 | nl z => exact .nl z
 | q => exact .un _
 | mp => exact .un _
 | ov => exact .un _
 | it => exact .un _
 | os id a n c hρ =>
  simp only [borc, get?_eq]
  split
  ·rename_i z rs hx
   have hB := hr.rep id _ _ hρ hx
   refine .d (hB.data.mono (fun b hb => ?_) (fun _ _ => rfl))
   rcases hb with hb | hb
   ·exact hG b hb
   ·exact hr.lt hρ hx (by simp) (mem_bks.2 (.inl hb))
  ·exact .un _
 | p id off b hρ =>
  simp only [borc, get?_eq]
  split
  ·rename_i cs hx
   split
   ·rename_i ds hds
    obtain ⟨b', arr, ty, hb, h1, h2, h3⟩ := hr.rep id _ _ hρ hx
    simp only [Value.pointer.injEq, Option.some.injEq, Addr.mk.injEq, and_true] at hb
    obtain ⟨rfl, _⟩ := hb
    obtain ⟨m1, m2⟩ := mapM_get1 hds
    have := RepK.e (G := all w) (w := w) (ρ := []) b 0 off ds (fun j => arr.getD j undef) (Array.getElem?_eq_some_iff.1 h1).1 (fun j x hj => by
     have hl : j < arr.size := by rw [h2, ← m1]; exact (List.getElem?_eq_some_iff.1 hj).1
     rw [cell_arr h1, Nat.zero_add, Array.getD_eq_getD_getElem?, Array.getElem?_eq_getElem hl]; rfl) (fun j x hj => by
     obtain ⟨y, hy, hd⟩ := m2 j x hj
     exact (borD_ok (h3 j y hy) hd).mono hG (fun _ _ => rfl))
    simpa using this
   ·exact .un _
  ·exact .un _
theorem bor0_ok (hr : HR G w ρ h) {v : Value} {x : V} (hv : RepC G w ρ v x) : RepC (all w) w [] v (bor0 h x) := by
 cases hv with
 | k hv =>
  have e : bor0 h x = borc h x := by cases hv <;> rfl
  rw [e]
  exact .k (borc_ok hr hv)
 | fc f u cs caps h0 h1 h2 =>
  refine .fc f _ cs _ h0 (by simpa using h1) (fun i x hx => ?_)
  rw [List.getElem?_map] at hx
  cases hc : caps[i]? with
  | none => rw [hc] at hx; cases hx
  | some x0 => rw [hc] at hx; cases hx; exact borc_ok hr (h2 i x0 hc)
theorem bor2_ok (hr : HR G w ρ h) {v : Value} {x : V} (hv : Rep2 G w ρ v x) : Rep2 (all w) w [] v (bor2 h x) := by
 cases hv with
 | tu => exact .k (.un _)
 | o hv => cases hv with
  | c hv =>
   have e : bor2 h x = bor0 h x := by
    cases hv with
    | k hv => cases hv <;> rfl
    | fc => rfl
   rw [e]
   exact .c (bor0_ok hr hv)
  | ag cs vs h1 h2 =>
   refine .o (.ag cs _ (by simpa using h1) (fun i x hx => ?_))
   rw [List.getElem?_map] at hx
   cases hc : vs[i]? with
   | none => rw [hc] at hx; cases hx
   | some x0 => rw [hc] at hx; cases hx; exact bor0_ok hr (h2 i x0 hc)
theorem scd_ok {G' : Nat → Prop} {w' : World} {v : Value} {d : D} (hv : RepD G w v d) (hs : scd d = true) : RepD G' w' v d := by
 cases hv <;> simp only [scd, Bool.false_eq_true] at hs
 ·exact .int _ _
 ·exact .bool _
 ·exact .str _ ‹_›
 ·exact .np
 ·exact .nf
 ·exact .ni
 ·exact .nm
 ·exact .fn _
theorem scl_ok {G' : Nat → Prop} {ρ' : List Value} {v : Value} {x : V} (hv : Rep2 G w ρ v x) (hs : scl x = true) : Rep1 G' w ρ' v x := by
 cases x <;> simp only [scl, Bool.false_eq_true] at hs
 exact .c (.k (.d (scd_ok hv.toD hs)))
theorem scl2_ok {G' : Nat → Prop} {ρ' : List Value} {v : Value} {x : V} (hv : Rep2 G w ρ v x) (hs : scl2 x = true) : Rep2 G' w ρ' v x := by
 by_cases hx : ∃ c, x = .tu c
 ·obtain ⟨c, rfl⟩ := hx
  obtain ⟨cs, rfl, h1, h2⟩ := hv.tul
  exact .tu cs c h1 fun i x hi => scl_ok (.o (h2 i x hi)) (List.all_eq_true.1 hs x (List.mem_of_getElem? hi))
 ·have : scl2 x = scl x := by cases x <;> first | rfl | exact absurd ⟨_, rfl⟩ hx
  exact .o (scl_ok hv (this ▸ hs))
end
end Go.Vx
