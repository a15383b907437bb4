/- Owned slices given up as data, or gone elsewhere; operands read; slots written. Conditions: none; lemmas on the definitions before. -/
import Derived.Test.YtoibcfioicdlhaaGreatDoorVxC
namespace Go.Vx

theorem nbeq {i j : Nat} (h : i ≠ j) : Nat.beq i j = false := by
  cases hb : Nat.beq i j
  · rfl
  · exact absurd (Nat.eq_of_beq_eq_true hb) h

section
variable {G G' : Nat → Prop} {w w' : World} {ρ : List Value}

/-- What an owned slice stands for, as data. -/
theorem RepB.data {v0 : Value} {z : Nat} {rs : List (List D)} (h : RepB G w ρ v0 (.rows z rs)) : RepD (fun b => G b ∨ blk v0 = some b) w v0 (.sl z rs) := by
  rcases h with ⟨rfl, rfl⟩ | ⟨b, cap, arr, ty, rfl, h1, h2, h3, h4, h5⟩
  · exact .slz z
  · refine .sl b 0 cap z rs (fun i j => arr.getD (i * z + j) undef) h2 h3 (.inr rfl) (fun i row hr => (h5 i row hr).1) (fun i row j x hr hx => ?_) (fun i row j x hr hx => ?_)
    · obtain ⟨hz, _⟩ := h5 i row hr
      have hi : i < rs.length := (List.getElem?_eq_some_iff.1 hr).1
      have hj : j < row.length := (List.getElem?_eq_some_iff.1 hx).1
      have hlt : i * z + j < arr.size := by
        rw [h4]
        have : (i + 1) * z ≤ cap * z := Nat.mul_le_mul_right _ (by omega)
        rw [Nat.add_mul] at this
        omega
      simp only [World.cell?, h1, Nat.zero_add]
      simp [Array.getElem?_eq_getElem hlt]
    · exact ((h5 i row hr).2 j x hx).mono (fun _ h => .inl h) (fun _ _ => rfl)

theorem RepK.sub {id : Nat} {v0 : Value} {y : D} (hv : ρ[id]? = some v0) (hG : ∀ b, G b → G' b) (hy : RepD G' w v0 y) {v : Value} {x : V} (h : RepK G w ρ v x) : RepK G' w ρ v (sub0 id (.d y) x) := by
  by_cases hx : ∃ j, x = .os j
  · obtain ⟨j, rfl⟩ := hx
    cases h with
    | os _ a n c h =>
      simp only [sub0]
      by_cases hj : j = id
      · subst hj
        rw [hv] at h
        cases h
        simpa using RepK.d hy
      · have : Nat.beq j id = false := nbeq hj
        rw [this]
        exact .os j a n c h
  · have : sub0 id (.d y) x = x := by cases x <;> first | rfl | exact absurd ⟨_, rfl⟩ hx
    rw [this]
    exact h.mono hG (fun _ _ => rfl) (fun _ _ => rfl)

theorem RepC.sub {id : Nat} {v0 : Value} {y : D} (hv : ρ[id]? = some v0) (hG : ∀ b, G b → G' b) (hy : RepD G' w v0 y) {v : Value} {x : V} (h : RepC G w ρ v x) : RepC G' w ρ v (subC id (.d y) x) := by
  cases h with
  | k h =>
    have : subC id (.d y) x = sub0 id (.d y) x := by cases h <;> rfl
    rw [this]
    exact .k (h.sub hv hG hy)
  | fc f u cs caps h0 h1 h2 =>
    refine .fc f _ cs _ h0 (by simpa using h1) (fun i x hx => ?_)
    rw [List.getElem?_map] at hx
    cases hc : caps[i]? with
    | none => rw [hc] at hx; cases hx
    | some x0 => rw [hc] at hx; cases hx; exact (h2 i x0 hc).sub hv hG hy

theorem Rep1.sub {id : Nat} {v0 : Value} {y : D} (hv : ρ[id]? = some v0) (hG : ∀ b, G b → G' b) (hy : RepD G' w v0 y) {v : Value} {x : V} (h : Rep1 G w ρ v x) : Rep1 G' w ρ v (sub1 id (.d y) x) := by
  cases h with
  | c h =>
    have : sub1 id (.d y) x = subC id (.d y) x := by
      cases h with
      | k h => cases h <;> rfl
      | fc => rfl
    rw [this]
    exact .c (h.sub hv hG hy)
  | ag cs vs h1 h2 =>
    refine .ag cs _ (by simpa using h1) (fun i x hx => ?_)
    rw [List.getElem?_map] at hx
    cases hc : vs[i]? with
    | none => rw [hc] at hx; cases hx
    | some x0 => rw [hc] at hx; cases hx; exact (h2 i x0 hc).sub hv hG hy

theorem Rep2.sub {id : Nat} {v0 : Value} {y : D} (hv : ρ[id]? = some v0) (hG : ∀ b, G b → G' b) (hy : RepD G' w v0 y) {v : Value} {x : V} (h : Rep2 G w ρ v x) : Rep2 G' w ρ v (sub2 id (.d y) x) := by
  cases h with
  | o h =>
    have : sub2 id (.d y) x = sub1 id (.d y) x := by
      cases h with
      | c h => cases h with
        | k h => cases h <;> rfl
        | fc => rfl
      | ag => rfl
    rw [this]
    exact .o (h.sub hv hG hy)
  | tu cs vs h1 h2 =>
    refine .tu cs _ (by simpa using h1) (fun i x hx => ?_)
    rw [List.getElem?_map] at hx
    cases hc : vs[i]? with
    | none => rw [hc] at hx; cases hx
    | some x0 => rw [hc] at hx; cases hx; exact (h2 i x0 hc).sub hv hG hy

theorem RepB.sub {id : Nat} {v0 : Value} {y : D} (hv : ρ[id]? = some v0) (hG : ∀ b, G b → G' b) (hy : RepD G' w v0 y) {hd : Value} {x : B} (h : RepB G w ρ hd x) : RepB G' w ρ hd (subB id (.d y) x) := by
  cases x with
  | no => trivial
  | nw => exact h
  | cells cs =>
    obtain ⟨b, arr, ty, rfl, h1, h2, h3⟩ := h
    refine ⟨b, arr, ty, rfl, h1, by simpa using h2, fun i x hx => ?_⟩
    rw [List.getElem?_map] at hx
    cases hc : cs[i]? with
    | none => rw [hc] at hx; cases hx
    | some x0 => rw [hc] at hx; cases hx; exact (h3 i x0 hc).sub hv hG hy
  | mp es =>
    obtain ⟨r, arr, clk, rfl, h1, h2, h3, h4⟩ := h
    refine ⟨r, arr, clk, rfl, h1, by simpa using h2, h3, fun i e x he hx => ?_⟩
    rw [List.getElem?_map] at hx
    cases hc : es[i]? with
    | none => rw [hc] at hx; cases hx
    | some x0 => rw [hc] at hx; cases hx; exact ⟨(h4 i e x0 he hc).1.sub hv hG hy, (h4 i e x0 he hc).2.sub hv hG hy⟩
  | dm es => exact RepB.mono (x := .dm es) h hG (fun _ _ => rfl) (fun _ _ => rfl) (fun _ _ => rfl)
  | rows z rs => exact RepB.mono (x := .rows z rs) h hG (fun _ _ => rfl) (fun _ _ => rfl) (fun _ _ => rfl)

/-- Gone elsewhere. -/
theorem RepK.kil {id : Nat} {v0 v1 : Value} (hv : ρ[id]? = some v0) (hs : isSl v0 = true) {v : Value} {x : V} (h : RepK G w ρ v x) : RepK G w (ρ.set id v1) v (kil0 id x) := by
  have get : ∀ j, j ≠ id → (ρ.set id v1)[j]? = ρ[j]? := fun j hj => by rw [List.getElem?_set, if_neg (fun e => hj e.symm)]
  cases h with
  | un => exact .un _
  | ud => exact .ud
  | d h => exact .d h
  | p j off b h =>
    have hj : j ≠ id := fun e => by subst e; rw [hv] at h; cases h; simp [isSl] at hs
    exact .p j off b ((get j hj).trans h)
  | e b o off row U h1 h2 h3 => exact .e b o off row U h1 h2 h3
  | os j a n c h =>
    simp only [kil0]
    by_cases hj : j = id
    · subst hj; simpa using RepK.un _
    · have : Nat.beq j id = false := nbeq hj
      rw [this]
      exact .os j a n c ((get j hj).trans h)
  | q j z i off b n c h =>
    simp only [kil0]
    by_cases hj : j = id
    · subst hj; simpa using RepK.un _
    · have : Nat.beq j id = false := nbeq hj
      rw [this]
      exact .q j z i off b n c ((get j hj).trans h)
  | cl a n z rows h => exact .cl a n z rows h
  | nl z => exact .nl z
  | mp j r h =>
    have hj : j ≠ id := fun e => by subst e; rw [hv] at h; cases h; simp [isSl] at hs
    exact .mp j r ((get j hj).trans h)
  | ov j z i _ a n c h hv' =>
    simp only [kil0]
    by_cases hj : j = id
    · subst hj; simpa using RepK.un _
    · have : Nat.beq j id = false := nbeq hj
      rw [this]
      exact .ov j z i _ a n c ((get j hj).trans h) hv'

theorem RepC.kil {id : Nat} {v0 v1 : Value} (hv : ρ[id]? = some v0) (hs : isSl v0 = true) {v : Value} {x : V} (h : RepC G w ρ v x) : RepC G w (ρ.set id v1) v (kilC id x) := by
  cases h with
  | k h =>
    have : kilC id x = kil0 id x := by cases h <;> rfl
    rw [this]
    exact .k (h.kil hv hs)
  | fc f u cs caps h0 h1 h2 =>
    refine .fc f _ cs _ h0 (by simpa using h1) (fun i x hx => ?_)
    rw [List.getElem?_map] at hx
    cases hc : caps[i]? with
    | none => rw [hc] at hx; cases hx
    | some x0 => rw [hc] at hx; cases hx; exact (h2 i x0 hc).kil hv hs

theorem Rep1.kil {id : Nat} {v0 v1 : Value} (hv : ρ[id]? = some v0) (hs : isSl v0 = true) {v : Value} {x : V} (h : Rep1 G w ρ v x) : Rep1 G w (ρ.set id v1) v (kil1 id x) := by
  cases h with
  | c h =>
    have : kil1 id x = kilC id x := by
      cases h with
      | k h => cases h <;> rfl
      | fc => rfl
    rw [this]
    exact .c (h.kil hv hs)
  | ag cs vs h1 h2 =>
    refine .ag cs _ (by simpa using h1) (fun i x hx => ?_)
    rw [List.getElem?_map] at hx
    cases hc : vs[i]? with
    | none => rw [hc] at hx; cases hx
    | some x0 => rw [hc] at hx; cases hx; exact (h2 i x0 hc).kil hv hs

theorem Rep2.kil {id : Nat} {v0 v1 : Value} (hv : ρ[id]? = some v0) (hs : isSl v0 = true) {v : Value} {x : V} (h : Rep2 G w ρ v x) : Rep2 G w (ρ.set id v1) v (kil2 id x) := by
  cases h with
  | o h =>
    have : kil2 id x = kil1 id x := by
      cases h with
      | c h => cases h with
        | k h => cases h <;> rfl
        | fc => rfl
      | ag => rfl
    rw [this]
    exact .o (h.kil hv hs)
  | tu cs vs h1 h2 =>
    refine .tu cs _ (by simpa using h1) (fun i x hx => ?_)
    rw [List.getElem?_map] at hx
    cases hc : vs[i]? with
    | none => rw [hc] at hx; cases hx
    | some x0 => rw [hc] at hx; cases hx; exact (h2 i x0 hc).kil hv hs

theorem RepB.kil {id : Nat} {v0 v1 : Value} (hv : ρ[id]? = some v0) (hs : isSl v0 = true) {hd : Value} {x : B} (h : RepB G w ρ hd x) : RepB G w (ρ.set id v1) hd (kilB id x) := by
  cases x with
  | no => trivial
  | nw => exact h
  | cells cs =>
    obtain ⟨b, arr, ty, rfl, h1, h2, h3⟩ := h
    refine ⟨b, arr, ty, rfl, h1, by simpa using h2, fun i x hx => ?_⟩
    rw [List.getElem?_map] at hx
    cases hc : cs[i]? with
    | none => rw [hc] at hx; cases hx
    | some x0 => rw [hc] at hx; cases hx; exact (h3 i x0 hc).kil hv hs
  | mp es =>
    obtain ⟨r, arr, clk, rfl, h1, h2, h3, h4⟩ := h
    refine ⟨r, arr, clk, rfl, h1, by simpa using h2, h3, fun i e x he hx => ?_⟩
    rw [List.getElem?_map] at hx
    cases hc : es[i]? with
    | none => rw [hc] at hx; cases hx
    | some x0 => rw [hc] at hx; cases hx; exact ⟨(h4 i e x0 he hc).1.kil hv hs, (h4 i e x0 he hc).2.kil hv hs⟩
  | dm es => exact RepB.mono (x := .dm es) h (fun _ h => h) (fun _ _ => rfl) (fun _ _ => rfl) (fun i hi => by cases hi)
  | rows z rs => exact h
end

theorem gs_map (f : V → V) (hf : f .un = .un) (t : T) (i : Nat) : gs (t.map fun p => (p.1, f p.2)) i = f (gs t i) := by
  induction t with
  | nil => exact hf.symm
  | cons p r ih =>
    obtain ⟨j, v⟩ := p
    simp only [List.map_cons, gs_cons]
    cases Nat.beq j i <;> simp [ih]

section
variable {E : Ent} {G G' : Nat → Prop} {w w' : World} {ρ : List Value} {h : H} {n : Nat} {t : T} {a : Act}

/-- An owned slice is given up. -/
theorem Ok.free (hO : Ok E G w ρ h) {id : Nat} {v0 : Value} {z : Nat} {rs : List (List D)} (hv : ρ[id]? = some v0) (hx : h[id]? = some (.rows z rs)) :
    Ok E (fun b => G b ∨ blk v0 = some b) w ρ (subH id (.d (.sl z rs)) h) := by
  have hd := (hO.hr.rep id v0 _ hv hx).data
  have hG : ∀ b, G b → (fun b => G b ∨ blk v0 = some b) b := fun b h => .inl h
  have hbl : ∀ b, blk v0 = some b → own ρ h b := fun b hb => ⟨id, v0, _, hv, hx, by simp, hb⟩
  have get : ∀ (j : Nat) (y : B), (subH id (.d (.sl z rs)) h)[j]? = some y → (y = .no) ∨ (j ≠ id ∧ ∃ y0, h[j]? = some y0 ∧ y = subB id (.d (.sl z rs)) y0 ∧ (y ≠ .no → y0 ≠ .no)) := by
    intro j y hj
    simp only [subH, List.getElem?_set, List.getElem?_map] at hj
    split at hj
    · split at hj <;> cases hj
      exact .inl rfl
    · rename_i hne
      cases hy : h[j]? with
      | none => rw [hy] at hj; cases hj
      | some y0 =>
        rw [hy] at hj
        cases hj
        exact .inr ⟨fun e => hne e.symm, y0, rfl, rfl, fun h0 e => h0 (by subst e; rfl)⟩
  have hownb : ∀ b, own ρ (subH id (.d (.sl z rs)) h) b → own ρ h b ∧ blk v0 ≠ some b := by
    rintro b ⟨j, v, y, h1, h2, h3, h4⟩
    rcases get j y h2 with rfl | ⟨hj, y0, g1, g2, g3⟩
    · exact absurd rfl h3
    · exact ⟨⟨j, v, y0, h1, g1, g3 h3, h4⟩, fun e => hj (hO.hr.dis j id v v0 y0 _ b h1 g1 (g3 h3) hv hx (by simp) h4 e)⟩
  refine ⟨⟨by simp [subH, hO.hr.len], fun j v y h1 h2 => ?_, fun j j' v v' y y' b h1 h2 h3 h4 h5 h6 h7 h8 => ?_, fun b hb => ?_, fun b hb ho => ?_, hO.hr.glb.mono (fun _ h => .inl h) (fun _ _ => rfl)⟩, fun b hb => .inl (hO.gm b hb), fun b hb => ?_, fun b hb => hO.oo b (hownb b hb).1,
    hO.frame, hO.size, hO.os, hO.tape, hO.out, hO.hand, by simpa [subH] using hO.hl⟩
  · rcases get j y h2 with rfl | ⟨hj, y0, g1, rfl, g3⟩
    · trivial
    · exact (hO.hr.rep j v y0 h1 g1).sub hv hG hd
  · rcases get j y h2 with rfl | ⟨hj, y0, g1, rfl, g3⟩
    · exact absurd rfl h3
    · rcases get j' y' h5 with rfl | ⟨hj', y0', k1, rfl, k3⟩
      · exact absurd rfl h6
      · exact hO.hr.dis j j' v v' y0 y0' b h1 g1 (g3 h3) h4 k1 (k3 h6) h7 h8
  · rcases hb with hb | hb
    · exact hO.hr.gl b hb
    · exact hO.hr.ownlt (hbl b hb)
  · obtain ⟨h1, h2⟩ := hownb b ho
    rcases hb with hb | hb
    · exact hO.hr.gd b hb h1
    · exact h2 hb
  · rcases hb with hb | hb
    · exact hO.go b hb
    · exact .inr (hO.oo b (hbl b hb))

theorem Conc.free (hC : Conc E n G ρ t h a w) {id : Nat} {z : Nat} {rs : List (List D)} (hx : h[id]? = some (.rows z rs)) :
    ∃ v0, ρ[id]? = some v0 ∧ RepD (fun b => G b ∨ blk v0 = some b) w v0 (.sl z rs) ∧ Conc E n (fun b => G b ∨ blk v0 = some b) ρ (subT id (.d (.sl z rs)) t) (subH id (.d (.sl z rs)) h) a w := by
  have hi : id < ρ.length := by rw [hC.ok.hr.len]; exact (List.getElem?_eq_some_iff.1 hx).1
  refine ⟨ρ[id], List.getElem?_eq_getElem hi, (hC.ok.hr.rep id _ _ (List.getElem?_eq_getElem hi) hx).data, hC.ok.free (List.getElem?_eq_getElem hi) hx, hC.df, hC.sz, fun i => ?_⟩
  rw [subT, gs_map _ rfl]
  exact (hC.tm i).sub (List.getElem?_eq_getElem hi) (fun b h => .inl h) (hC.ok.hr.rep id _ _ (List.getElem?_eq_getElem hi) hx).data

/-- A slot is written. -/
theorem Conc.put (hC : Conc E n G ρ t h a w) (d : Option Nat) {v : Value} {x : V} (hd : ∀ i, d = some i → i < n) (hr : Rep2 G w ρ v x) :
    Conc E n G ρ (match d with | some i => (i, x) :: t | none => t) h (a.put d v) w := by
  cases d with
  | none => exact hC
  | some i =>
    refine ⟨hC.ok, hC.df, by simpa [Act.put] using hC.sz, fun j => ?_⟩
    simp only [gs_cons, Act.put]
    by_cases hj : i = j
    · subst hj
      have hi := hd i rfl
      rw [← hC.sz] at hi
      simpa [Array.getElem?_setIfInBounds, hi] using hr
    · have hb : Nat.beq i j = false := nbeq hj
      rw [hb]
      have := hC.tm j
      simpa [Array.getElem?_setIfInBounds, hj] using this

theorem Conc.grow (hC : Conc E n G ρ t h a w) (hg : Grw w w') (hG : ∀ b, G b → G' b) (hG' : ∀ b, G' b → G b ∨ (w.heap.size ≤ b ∧ b < w'.heap.size)) : Conc E n G' ρ t h a w' :=
  ⟨hC.ok.grow hg hG hG', hC.df, hC.sz, fun i => (hC.tm i).mono hG (fun b hb => hg.old b (hC.ok.hr.gl b hb)) (fun _ _ => rfl)⟩

theorem Conc.push (hC : Conc E n G ρ t h a w) (hg : Grw w w') (hd : Value) (x : B) (hbk : ∀ b, blk hd = some b → w.heap.size ≤ b) (hx : RepB G w' (ρ ++ [hd]) hd x) : Conc E n G (ρ ++ [hd]) t (h ++ [x]) a w' :=
  ⟨hC.ok.push hg hd x hbk hx, hC.df, hC.sz, fun i => (hC.tm i).mono (fun _ h => h) (fun b hb => hg.old b (hC.ok.hr.gl b hb)) (fun j hj => List.getElem?_append_left ((hC.tm i).lt j hj))⟩
end
end Go.Vx
