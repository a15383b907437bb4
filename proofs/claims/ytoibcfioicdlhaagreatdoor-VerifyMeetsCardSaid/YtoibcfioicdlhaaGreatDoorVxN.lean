/- A call, in the picture. Conditions: none; lemmas on the definitions before. -/
import Derived.Test.YtoibcfioicdlhaaGreatDoorVxM
namespace Go.Vx
section
variable {P : Program} {E : Ent} {n : Nat} {G : Nat → Prop} {ρ : List Value} {t : T} {h : H} {a : Act} {w : World} {o : Oper} {nxt : Act → World → Prop} {Q : Exit → Act → World → Prop} {K KP : V → T → H → Prop}

theorem kils_eq : ∀ (os : List Nat) (t : T) (K : T → Prop), kils os t K = K (os.foldl (fun t i => kilT i t) t)
  | [], _, _ => rfl
  | i :: os, t, K => by simp [kils_cons, fl_eq, kils_eq os]
theorem kilH_eq : ∀ (os : List Nat) (h : H), kilH os h = os.foldl (fun h i => h.map (kilB i)) h
  | [], _ => rfl
  | i :: os, h => by simp [kilH, kilH_eq os]

/-- The picture with nothing known of what points into some owned slices: their handles may be whatever. -/
theorem kil_all (os : List Nat) (t : T) (i : Nat) : ∃ f : V → V, gs (os.foldl (fun t i => kilT i t) t) i = f (gs t i) ∧
    ∀ (G : Nat → Prop) (w : World) (ρ ρ2 : List Value) (v : Value) (x : V), Rep2 G w ρ v x → (∀ j ∈ os, ∃ v0, ρ[j]? = some v0 ∧ isSl v0 = true) → (∀ j, j ∉ os → ρ2[j]? = ρ[j]?) → ρ2.length = ρ.length → Rep2 G w ρ2 v (f x) := by
  induction os generalizing t with
  | nil =>
    refine ⟨id, rfl, fun G w ρ ρ2 v x hr _ h2 _ => hr.mono (fun _ h => h) (fun _ _ => rfl) (fun j _ => h2 j (by simp))⟩
  | cons j os ih =>
    obtain ⟨f, hf, hr⟩ := ih (kilT j t)
    refine ⟨fun x => f (kil2 j x), ?_, fun G w ρ ρ2 v x hv h1 h2 hl => ?_⟩
    · rw [List.foldl_cons, hf, kilT, gs_map _ rfl]
    · obtain ⟨v0, hv0, hs0⟩ := h1 j (by simp)
      have hjl : j < ρ.length := (List.getElem?_eq_some_iff.1 hv0).1
      have hj2 : j < ρ2.length := by omega
      -- one by one: first the handle of j
      by_cases hjo : j ∈ os
      · refine hr G w ρ ρ2 v _ ?_ (fun k hk => h1 k (by simp [hk])) (fun k hk => h2 k (by
          simp only [List.mem_cons, not_or]
          exact ⟨fun e => hk (by rw [e]; exact hjo), hk⟩)) hl
        have := hv.kil (v1 := v0) hv0 hs0
        rwa [set_self hv0] at this
      · refine hr G w (ρ.set j ρ2[j]) ρ2 v _ (hv.kil hv0 hs0) (fun k hk => ?_) (fun k hk => ?_) (by simpa using hl)
        · obtain ⟨vk, hk1, hk2⟩ := h1 k (by simp [hk])
          exact ⟨vk, by rw [List.getElem?_set, if_neg (fun e => hjo (by rw [e]; exact hk))]; exact hk1, hk2⟩
        · by_cases hkj : k = j
          · subst hkj
            rw [List.getElem?_set_self hjl, List.getElem?_eq_getElem hj2]
          · rw [List.getElem?_set, if_neg (fun e => hkj e.symm)]
            exact h2 k (by simp only [List.mem_cons, not_or]; exact ⟨hkj, hk⟩)

theorem kilB_all (os : List Nat) (h : H) (i : Nat) : ∃ f : B → B, (kilH os h)[i]? = (h[i]?).map f ∧ (∀ x, f x = .no ↔ x = .no) ∧
    ∀ (G : Nat → Prop) (w : World) (ρ ρ2 : List Value) (v : Value) (x : B), RepB G w ρ v x → (∀ j ∈ os, ∃ v0, ρ[j]? = some v0 ∧ isSl v0 = true) → (∀ j, j ∉ os → ρ2[j]? = ρ[j]?) → ρ2.length = ρ.length → RepB G w ρ2 v (f x) := by
  induction os generalizing h with
  | nil =>
    refine ⟨id, by simp [kilH], fun x => Iff.rfl, fun G w ρ ρ2 v x hr _ h2 _ => ?_⟩
    by_cases hx : x = .no
    · subst hx; trivial
    · exact hr.mono (fun _ h => h) (fun _ _ => rfl) (fun _ _ => rfl) (fun j _ => h2 j (by simp))
  | cons j os ih =>
    obtain ⟨f, hf, hno, hr⟩ := ih (h.map (kilB j))
    refine ⟨fun x => f (kilB j x), ?_, fun x => (hno _).trans (by cases x <;> simp [kilB]), fun G w ρ ρ2 v x hv h1 h2 hl => ?_⟩
    · rw [kilH, hf, List.getElem?_map, Option.map_map]; rfl
    · obtain ⟨v0, hv0, hs0⟩ := h1 j (by simp)
      have hjl : j < ρ.length := (List.getElem?_eq_some_iff.1 hv0).1
      have hj2 : j < ρ2.length := by omega
      by_cases hjo : j ∈ os
      · refine hr G w ρ ρ2 v _ ?_ (fun k hk => h1 k (by simp [hk])) (fun k hk => h2 k (by
          simp only [List.mem_cons, not_or]
          exact ⟨fun e => hk (by rw [e]; exact hjo), hk⟩)) hl
        have := hv.kil (v1 := v0) hv0 hs0
        rwa [set_self hv0] at this
      · refine hr G w (ρ.set j ρ2[j]) ρ2 v _ (hv.kil hv0 hs0) (fun k hk => ?_) (fun k hk => ?_) (by simpa using hl)
        · obtain ⟨vk, hk1, hk2⟩ := h1 k (by simp [hk])
          exact ⟨vk, by rw [List.getElem?_set, if_neg (fun e => hjo (by rw [e]; exact hk))]; exact hk1, hk2⟩
        · by_cases hkj : k = j
          · subst hkj
            rw [List.getElem?_set_self hjl, List.getElem?_eq_getElem hj2]
          · rw [List.getElem?_set, if_neg (fun e => hkj e.symm)]
            exact h2 k (by simp only [List.mem_cons, not_or]; exact ⟨hkj, hk⟩)

theorem kilH_len (os : List Nat) (h : H) : (kilH os h).length = h.length := by
  induction os generalizing h with
  | nil => rfl
  | cons j os ih => rw [kilH, ih]; simp

/-- The callee's part of the picture. -/
theorem HR.part (hr : HR G w ρ h) {ids : List Nat} (hn : ids.Nodup) (hlt : ∀ i ∈ ids, i < h.length) (hcl : ∀ i ∈ ids, ∀ x, h[i]? = some x → ∀ j ∈ idB x, j ∈ ids) :
    HR G w (ids.map fun i => (ρ[i]?).getD undef) (ids.map fun i => rnB (pos ids) ((get? h i).getD .no)) ∧
    (∀ b, own (ids.map fun i => (ρ[i]?).getD undef) (ids.map fun i => rnB (pos ids) ((get? h i).getD .no)) b → ∃ i v x, i ∈ ids ∧ ρ[i]? = some v ∧ h[i]? = some x ∧ x ≠ .no ∧ blk v = some b) := by
  have hρl := hr.len
  have get : ∀ (k : Nat) (v : Value) (y : B), (ids.map fun i => (ρ[i]?).getD undef)[k]? = some v → (ids.map fun i => rnB (pos ids) ((get? h i).getD .no))[k]? = some y →
      ∃ i x, ids[k]? = some i ∧ i ∈ ids ∧ ρ[i]? = some v ∧ h[i]? = some x ∧ y = rnB (pos ids) x := by
    intro k v y h1 h2
    simp only [List.getElem?_map, Option.map_eq_some_iff] at h1 h2
    obtain ⟨i, hi, rfl⟩ := h1
    obtain ⟨i', hi', rfl⟩ := h2
    rw [hi] at hi'
    cases hi'
    have hm := List.mem_of_getElem? hi
    have hl := hlt i hm
    refine ⟨i, h[i], hi, hm, ?_, List.getElem?_eq_getElem hl, ?_⟩
    · rw [List.getElem?_eq_getElem (by omega)]; rfl
    · rw [get?_eq, List.getElem?_eq_getElem hl]; rfl
  have hown : ∀ b, own (ids.map fun i => (ρ[i]?).getD undef) (ids.map fun i => rnB (pos ids) ((get? h i).getD .no)) b → ∃ i v x, i ∈ ids ∧ ρ[i]? = some v ∧ h[i]? = some x ∧ x ≠ .no ∧ blk v = some b := by
    rintro b ⟨k, v, y, h1, h2, h3, h4⟩
    obtain ⟨i, x, _, hm, g1, g2, rfl⟩ := get k v y h1 h2
    exact ⟨i, v, x, hm, g1, g2, fun e => h3 ((rnB_no _ _).2 e), h4⟩
  refine ⟨⟨by simp, fun k v y h1 h2 => ?_, fun k k' v v' y y' b h1 h2 h3 h4 h5 h6 h7 h8 => ?_, hr.gl, fun b hb ho => ?_, hr.glb⟩, hown⟩
  · obtain ⟨i, x, _, hm, g1, g2, rfl⟩ := get k v y h1 h2
    refine (hr.rep i v x g1 g2).ren (fun j hj => ?_)
    have hjm := hcl i hm x g2 j hj
    rw [List.getElem?_map, pos_get hjm]
    have := hlt j hjm
    rw [Option.map_some, List.getElem?_eq_getElem (by omega)]; rfl
  · obtain ⟨i, x, e1, hm, g1, g2, rfl⟩ := get k v y h1 h2
    obtain ⟨i', x', e2, hm', g1', g2', rfl⟩ := get k' v' y' h4 h5
    have := hr.dis i i' v v' x x' b g1 g2 (fun e => h3 ((rnB_no _ _).2 e)) g1' g2' (fun e => h6 ((rnB_no _ _).2 e)) h7 h8
    subst this
    exact (List.getElem?_inj (List.getElem?_eq_some_iff.1 e1).1 hn).1 (e1.trans e2.symm)
  · obtain ⟨i, v, x, _, g1, g2, g3, g4⟩ := hown b ho
    exact hr.gd b hb ⟨i, v, x, g1, g2, g3, g4⟩

/-- Behind the call: the picture laid together. -/
theorem Conc.back (hC : Conc E n G ρ t h a w) {ids : List Nat} (hn : ids.Nodup) (hlt : ∀ i ∈ ids, i < h.length) (hnn : ∀ i ∈ ids, h[i]? ≠ some B.no) (hcl : ∀ i ∈ ids, ∀ x, h[i]? = some x → ∀ j ∈ idB x, j ∈ ids)
    {G' : Nat → Prop} {w' : World} {ρ' : List Value} {h' : H} (hO : Ok ⟨w, G, ids.map fun i => (ρ[i]?).getD undef, ids.map fun i => rnB (pos ids) ((get? h i).getD .no), []⟩ G' w' ρ' h') :
    Conc E n G' (backρ ids ρ ρ') ((rowsOf h ids).foldl (fun t i => kilT i t) t) (Vx.back ids (home h.length ids) (kilH (rowsOf h ids) h) h') a w' ∧
      ∀ (v : Value) (x : V), Rep2 G' w' ρ' v x → Rep2 G' w' (backρ ids ρ ρ') v (rn2 (home h.length ids) x) := by
  obtain ⟨hP, hown⟩ := hC.ok.hr.part hn hlt hcl
  have hr := hC.ok.hr
  have hρl := hr.len
  have hll : ids.length ≤ h'.length := by simpa using hO.hl
  have hl' := hO.hr.len
  have hltρ : ∀ i ∈ ids, i < ρ.length := fun i hi => by rw [hρl]; exact hlt i hi
  have hb2 := fun k => backρ_home (ρ := ρ) (ρ' := ρ') hn hltρ (by omega) k
  rw [hρl] at hb2
  generalize hρc : (ids.map fun i => (ρ[i]?).getD undef) = ρc at *
  generalize hhc : (ids.map fun i => rnB (pos ids) ((get? h i).getD .no)) = hc at *
  -- blocks of the callee's that were there
  have hoc : ∀ b, own ρc hc b → own ρ h b := fun b hb => by
    obtain ⟨i, v, x, _, g1, g2, g3, g4⟩ := hown b hb
    exact ⟨i, v, x, g1, g2, g3, g4⟩
  have hold : ∀ b, b < w.heap.size → ¬ own ρc hc b → w'.heap[b]? = w.heap[b]? := hO.frame
  have hGb : ∀ b, G b → w'.heap[b]? = w.heap[b]? := fun b hb => hold b (hr.gl b hb) (fun ho => hr.gd b hb (hoc b ho))
  have hGG : ∀ b, G b → G' b := hO.gm
  have hsz : w.heap.size ≤ w'.heap.size := hO.size
  -- the blocks of others
  have hoth : ∀ (i : Nat) (v : Value) (x : B) (b : Nat), i ∉ ids → ρ[i]? = some v → h[i]? = some x → x ≠ .no → blk v = some b → b < w.heap.size ∧ (¬ own ρc hc b) ∧ ¬ G' b ∧ ¬ own ρ' h' b := by
    intro i v x b hi g1 g2 g3 g4
    have hb := hr.lt g1 g2 g3 g4
    have hno : ¬ own ρc hc b := fun ho => by
      obtain ⟨i', v', x', hm, k1, k2, k3, k4⟩ := hown b ho
      exact hi (by rw [hr.dis i i' v v' x x' b g1 g2 g3 k1 k2 k3 g4 k4]; exact hm)
    refine ⟨hb, hno, fun hg => ?_, fun ho => ?_⟩
    · rcases hO.go b hg with h1 | h1 | h1
      · exact hr.gd b h1 ⟨i, v, x, g1, g2, g3, g4⟩
      · exact absurd h1 (by show ¬ w.heap.size ≤ b; omega)
      · exact hno h1
    · rcases hO.oo b ho with h1 | h1
      · exact absurd h1 (by show ¬ w.heap.size ≤ b; omega)
      · exact hno h1
  -- handles of slices
  have hos1 : ∀ j ∈ rowsOf h ids, ∃ v0, ρ[j]? = some v0 ∧ isSl v0 = true := by
    intro j hj
    simp only [rowsOf, List.mem_filter, get?_eq] at hj
    obtain ⟨hjm, hjr⟩ := hj
    have hjl := hlt j hjm
    have hx := List.getElem?_eq_getElem hjl
    rw [hx] at hjr
    have hv := List.getElem?_eq_getElem (hltρ j hjm)
    refine ⟨_, hv, ?_⟩
    have hrep := hr.rep j _ _ hv hx
    simp only [Option.getD_some] at hjr
    generalize (h : List B)[j] = x at *
    cases x <;> simp [isRows] at hjr
    rcases hrep with ⟨he, _⟩ | ⟨_, _, _, _, he, _⟩ <;> rw [he] <;> rfl
  have hmid : ∀ j, j ∉ rowsOf h ids → ((backρ ids ρ ρ').take ρ.length)[j]? = ρ[j]? := by
    intro j hjr
    rw [List.getElem?_take]
    by_cases hjl : j < ρ.length
    · rw [if_pos hjl]
      by_cases hj : j ∈ ids
      · rw [backρ_mid hj hjl (by omega)]
        have hv := List.getElem?_eq_getElem hjl
        have hx := List.getElem?_eq_getElem (hlt j hj)
        have hns : isSl ρ[j] = false := by
          have hrep := hr.rep j _ _ hv hx
          have hxn := hnn j hj
          rw [hx] at hxn
          have hrw : j ∈ rowsOf h ids ↔ isRows ((h : List B)[j]'(hlt j hj)) = true := by
            simp only [rowsOf, List.mem_filter, get?_eq, hx, Option.getD_some]
            exact ⟨fun h => h.2, fun h => ⟨hj, h⟩⟩
          generalize (h : List B)[j]'(hlt j hj) = x at *
          cases x with
          | no => exact absurd rfl hxn
          | nw =>
            have hu : _ = undef := hrep
            rw [hu]; rfl
          | cells cs => obtain ⟨b, arr, ty, he, _⟩ := hrep; rw [he]; rfl
          | mp es => obtain ⟨b, arr, clk, he, _⟩ := hrep; rw [he]; rfl
          | dm es => obtain ⟨b, arr, clk, he, _⟩ := hrep; rw [he]; rfl
          | rows z rs => exact absurd (hrw.2 rfl) hjr
        rw [hv]
        refine hO.hand (pos ids j) _ ?_ hns
        show ρc[pos ids j]? = _
        rw [← hρc]
        simp only [List.getElem?_map, pos_get hj, Option.map_some, hv, Option.getD_some]
      · exact backρ_old hj hjl
    · rw [if_neg hjl, List.getElem?_eq_none (by omega)]
  have htl : ((backρ ids ρ ρ').take ρ.length).length = ρ.length := by rw [List.length_take, backρ_len]; omega
  have hext : ∀ i, i < ρ.length → (backρ ids ρ ρ')[i]? = ((backρ ids ρ ρ').take ρ.length)[i]? := fun i hi => by rw [List.getElem?_take, if_pos hi]
  have hren : ∀ (v : Value) (x : V), Rep2 G' w' ρ' v x → Rep2 G' w' (backρ ids ρ ρ') v (rn2 (home h.length ids) x) := fun v x hv => hv.ren (fun i _ => hb2 i)
  -- what stands at a place
  have hbl : (Vx.back ids (home h.length ids) (kilH (rowsOf h ids) h) h').length = h.length + (h'.length - ids.length) := by rw [back_len, kilH_len]
  have get : ∀ (i : Nat) (v : Value) (y : B), (backρ ids ρ ρ')[i]? = some v → (Vx.back ids (home h.length ids) (kilH (rowsOf h ids) h) h')[i]? = some y →
      (i ∉ ids ∧ ρ[i]? = some v ∧ ∃ (x : B) (f : B → B), h[i]? = some x ∧ y = f x ∧ (f x = .no ↔ x = .no) ∧ (RepB G' w' ρ v x → RepB G' w' (backρ ids ρ ρ') v y)) ∨
      (∃ k x, home h.length ids k = i ∧ ρ'[k]? = some v ∧ h'[k]? = some x ∧ y = rnB (home h.length ids) x) := by
    intro i v y h1 h2
    by_cases hil : i < h.length
    · by_cases hi : i ∈ ids
      · rw [backρ_mid hi (by omega) (by omega)] at h1
        rw [back_mid hi (by rw [kilH_len]; exact hil) hll] at h2
        simp only [Option.map_eq_some_iff] at h2
        obtain ⟨x, hx, rfl⟩ := h2
        exact .inr ⟨pos ids i, x, home_lt (pos_get hi), h1, hx, rfl⟩
      · rw [backρ_old hi (by omega)] at h1
        rw [back_old hi (by rw [kilH_len]; exact hil)] at h2
        obtain ⟨f, hf, hno, hrf⟩ := kilB_all (rowsOf h ids) h i
        rw [hf] at h2
        simp only [Option.map_eq_some_iff] at h2
        obtain ⟨x, hx, rfl⟩ := h2
        refine .inl ⟨hi, h1, x, f, hx, rfl, hno x, fun hrep => ?_⟩
        have h3 := hrf G' w' ρ _ v x hrep hos1 hmid htl
        by_cases hfx : f x = .no
        · rw [hfx]; trivial
        · exact h3.mono (fun _ h => h) (fun _ _ => rfl) (fun _ _ => rfl) (fun j hj => hext j (by have := h3.lt j hj; omega))
    · rw [backρ_new (by omega)] at h1
      rw [back_new (by rw [kilH_len]; omega), kilH_len] at h2
      simp only [Option.map_eq_some_iff] at h2
      obtain ⟨x, hx, rfl⟩ := h2
      rw [hρl] at h1
      exact .inr ⟨_, x, by rw [home_ge (by omega)]; omega, h1, hx, rfl⟩
  have hOk : Ok E G' w' (backρ ids ρ ρ') (Vx.back ids (home h.length ids) (kilH (rowsOf h ids) h) h') := by
    have hownb : ∀ b, own (backρ ids ρ ρ') (Vx.back ids (home h.length ids) (kilH (rowsOf h ids) h) h') b → (own ρ h b ∨ w.heap.size ≤ b) ∧ ¬ G' b := by
      rintro b ⟨i, v, y, h1, h2, h3, h4⟩
      rcases get i v y h1 h2 with ⟨hi, g1, x, f, g2, rfl, g4, _⟩ | ⟨k, x, _, g1, g2, rfl⟩
      · have hxn : x ≠ .no := fun e => h3 (g4.2 e)
        exact ⟨.inl ⟨i, v, x, g1, g2, hxn, h4⟩, (hoth i v x b hi g1 g2 hxn h4).2.2.1⟩
      · have hxn : x ≠ .no := fun e => h3 ((rnB_no _ _).2 e)
        have ho : own ρ' h' b := ⟨k, v, x, g1, g2, hxn, h4⟩
        refine ⟨?_, fun hg => hO.hr.gd b hg ho⟩
        rcases hO.oo b ho with h5 | h5
        · exact .inr h5
        · exact .inl (hoc b h5)
    refine ⟨⟨by rw [backρ_len, hbl]; omega, fun i v y h1 h2 => ?_, fun i i' v v' y y' b h1 h2 h3 h4 h5 h6 h7 h8 => ?_, hO.hr.gl, fun b hb ho => (hownb b ho).2 hb, hO.hr.glb⟩, fun b hb => hGG b (hC.ok.gm b hb), fun b hb => ?_, fun b hb => ?_,
      fun b hb hnb => ?_, Nat.le_trans hC.ok.size hsz, hO.os.trans hC.ok.os, hO.tape.trans hC.ok.tape, hO.out.trans hC.ok.out, fun i v hv hs => ?_, by rw [hbl]; have := hC.ok.hl; omega⟩
    · rcases get i v y h1 h2 with ⟨hi, g1, x, f, g2, rfl, g4, g5⟩ | ⟨k, x, _, g1, g2, rfl⟩
      · by_cases hxn : x = .no
        · rw [g4.2 hxn]; trivial
        · exact g5 ((hr.rep i v x g1 g2).mono hGG hGb (fun b hb => by
            obtain ⟨e1, e2, _⟩ := hoth i v x b hi g1 g2 hxn hb
            exact hold b e1 e2) (fun _ _ => rfl))
      · exact (hO.hr.rep k v x g1 g2).ren (fun j _ => hb2 j)
    · rcases get i v y h1 h2 with ⟨hi, g1, x, f, g2, rfl, g4, _⟩ | ⟨k, x, e1, g1, g2, rfl⟩ <;> rcases get i' v' y' h4 h5 with ⟨hi', k1, x', f', k2, rfl, k4, _⟩ | ⟨k', x', e2, k1, k2, rfl⟩
      · exact hr.dis i i' v v' x x' b g1 g2 (fun e => h3 (g4.2 e)) k1 k2 (fun e => h6 (k4.2 e)) h7 h8
      · exact absurd ⟨k', v', x', k1, k2, fun e => h6 ((rnB_no _ _).2 e), h8⟩ (hoth i v x b hi g1 g2 (fun e => h3 (g4.2 e)) h7).2.2.2
      · exact absurd ⟨k, v, x, g1, g2, fun e => h3 ((rnB_no _ _).2 e), h7⟩ (hoth i' v' x' b hi' k1 k2 (fun e => h6 (k4.2 e)) h8).2.2.2
      · have := hO.hr.dis k k' v v' x x' b g1 g2 (fun e => h3 ((rnB_no _ _).2 e)) k1 k2 (fun e => h6 ((rnB_no _ _).2 e)) h7 h8
        rw [← e1, ← e2, this]
    · rcases hO.go b hb with h1 | h1 | h1
      · exact hC.ok.go b h1
      · exact .inr (.inl (Nat.le_trans hC.ok.size h1))
      · exact .inr (hC.ok.oo b (hoc b h1))
    · rcases (hownb b hb).1 with h1 | h1
      · exact hC.ok.oo b h1
      · exact .inl (Nat.le_trans hC.ok.size h1)
    · have hbw : b < w.heap.size := Nat.lt_of_lt_of_le hb hC.ok.size
      rw [hold b hbw (fun ho => ?_)]
      · exact hC.ok.frame b hb hnb
      · rcases hC.ok.oo b (hoc b ho) with h1 | h1
        · omega
        · exact hnb h1
    · have h0 := hC.ok.hand i v hv hs
      have hil := (List.getElem?_eq_some_iff.1 h0).1
      rw [hext i hil]
      by_cases hjr : i ∈ rowsOf h ids
      · obtain ⟨v0, hv0, hs0⟩ := hos1 i hjr
        rw [h0] at hv0
        cases hv0
        rw [hs] at hs0; cases hs0
      · rw [hmid i hjr]; exact h0
  refine ⟨⟨hOk, hC.df, hC.sz, fun i => ?_⟩, hren⟩
  obtain ⟨f, hf, hrf⟩ := kil_all (rowsOf h ids) t i
  rw [hf]
  have h3 := hrf G' w' ρ _ _ _ ((hC.tm i).mono hGG hGb (fun _ _ => rfl)) hos1 hmid htl
  exact h3.mono (fun _ h => h) (fun _ _ => rfl) (fun j hj => hext j (by have := h3.lt j hj; omega))
end
end Go.Vx
