/- New blocks at places that are kept for them. Conditions: none; lemmas on the definitions before. -/
import Derived.Test.YtoibcfioicdlhaaGreatDoorVxQ
namespace Go.Vx
section
variable {P : Program} {E : Ent} {n : Nat} {G : Nat → Prop} {ρ : List Value} {t : T} {h : H} {a : Act} {w : World} {o : Oper} {nxt : Act → World → Prop} {Q : Exit → Act → World → Prop}

/-- Which operation lays a block. -/
theorem compO_al {P : Program} {ty : TypeId} {op : Op} {cs : List V} (h : compO P ty op = some (.al cs)) : ∃ t, op = .alloc t ∧ zer P t = some cs := by
  cases op
  case alloc t =>
    simp only [compO, Option.map_eq_some_iff, X.al.injEq] at h
    obtain ⟨x, hx, rfl⟩ := h
    exact ⟨t, rfl, hx⟩
  all_goals
    exfalso
    simp only [compO] at h
    repeat' split at h
    all_goals
      first
        | contradiction
        | (simp [Option.bind_eq_some_iff] at h; done)
        | (simp [Option.bind_eq_some_iff] at h
           obtain ⟨_, _, _, _, h⟩ := h
           (repeat' split at h) <;> simp at h)
        | (simp [Option.bind_eq_some_iff] at h
           obtain ⟨_, _, _, _, _, h⟩ := h
           (repeat' split at h) <;> simp at h)
        | (simp [Option.bind_eq_some_iff] at h
           obtain ⟨_, _, h⟩ := h
           (repeat' split at h) <;> simp at h)

theorem compO_mm {P : Program} {ty : TypeId} {op : Op} {pl : Bool} (h : compO P ty op = some (.mm pl)) : ∃ t, op = .makeMap t none := by
  cases op
  case makeMap t r =>
    cases r with
    | none => exact ⟨t, rfl⟩
    | some r => simp only [compO] at h; cases h
  all_goals
    exfalso
    simp only [compO] at h
    repeat' split at h
    all_goals
      first
        | contradiction
        | (simp [Option.bind_eq_some_iff] at h; done)
        | (simp [Option.bind_eq_some_iff] at h
           obtain ⟨_, _, _, _, h⟩ := h
           (repeat' split at h) <;> simp at h)
        | (simp [Option.bind_eq_some_iff] at h
           obtain ⟨_, _, _, _, _, h⟩ := h
           (repeat' split at h) <;> simp at h)
        | (simp [Option.bind_eq_some_iff] at h
           obtain ⟨_, _, h⟩ := h
           (repeat' split at h) <;> simp at h)

/-- What a number stands for is there, and is something. -/
def Ref1 (ρ : List Value) (i : Nat) : Prop := ∃ v, ρ[i]? = some v ∧ v ≠ undef
theorem RepK.ref {v : Value} {x : V} (h : RepK G w ρ v x) : ∀ i ∈ idc x, Ref1 ρ i := by
  cases h <;> simp only [idc, List.not_mem_nil, false_imp_iff, implies_true, List.mem_singleton, forall_eq] <;> (try exact ⟨_, ‹_›, by simp [undef]⟩)
theorem RepC.ref {v : Value} {x : V} (h : RepC G w ρ v x) : ∀ i ∈ id0 x, Ref1 ρ i := by
  cases h with
  | k h => intro i hi; exact h.ref i (by cases h <;> simpa [id0] using hi)
  | fc f u cs caps h0 h1 h2 =>
    intro i hi
    simp only [id0, List.mem_flatMap] at hi
    obtain ⟨x, hx, hi⟩ := hi
    obtain ⟨j, hxj⟩ := List.mem_iff_getElem?.1 hx
    exact (h2 j x hxj).ref i hi
theorem Rep1.ref {v : Value} {x : V} (h : Rep1 G w ρ v x) : ∀ i ∈ id1 x, Ref1 ρ i := by
  cases h with
  | c h =>
    intro i hi
    refine h.ref i ?_
    cases h with
    | k h => cases h <;> simpa [id1] using hi
    | fc => simpa [id1] using hi
  | ag cs vs h1 h2 =>
    intro i hi
    simp only [id1, List.mem_flatMap] at hi
    obtain ⟨x, hx, hi⟩ := hi
    obtain ⟨j, hxj⟩ := List.mem_iff_getElem?.1 hx
    exact (h2 j x hxj).ref i hi
theorem Rep2.ref {v : Value} {x : V} (h : Rep2 G w ρ v x) : ∀ i ∈ id2 x, Ref1 ρ i := by
  cases h with
  | o h =>
    intro i hi
    refine h.ref i ?_
    cases h with
    | c h => cases h with
      | k h => cases h <;> simpa [id2] using hi
      | fc => simpa [id2] using hi
    | ag cs vs h1 h2 => simpa [id2] using hi
  | tu cs vs h1 h2 =>
    intro i hi
    simp only [id2, List.mem_flatMap] at hi
    obtain ⟨x, hx, hi⟩ := hi
    obtain ⟨j, hxj⟩ := List.mem_iff_getElem?.1 hx
    exact (h2 j x hxj).ref i hi
theorem RepB.ref {hd : Value} {x : B} (h : RepB G w ρ hd x) : ∀ i ∈ idB x, Ref1 ρ i := by
  cases x with
  | no => simp [idB]
  | nw => simp [idB]
  | cells cs =>
    obtain ⟨b, arr, ty, rfl, h1, h2, h3⟩ := h
    intro i hi
    simp only [idB, List.mem_flatMap] at hi
    obtain ⟨x, hx, hi⟩ := hi
    obtain ⟨j, hxj⟩ := List.mem_iff_getElem?.1 hx
    exact (h3 j x hxj).ref i hi
  | mp es =>
    obtain ⟨r, arr, clk, rfl, h1, h2, h3, h4⟩ := h
    intro i hi
    simp only [idB, List.mem_flatMap] at hi
    obtain ⟨x, hx, hi⟩ := hi
    obtain ⟨j, hxj⟩ := List.mem_iff_getElem?.1 hx
    have hj : j < arr.size := by rw [h2]; exact (List.getElem?_eq_some_iff.1 hxj).1
    rcases List.mem_append.1 hi with hi | hi
    · exact (h4 j _ x (Array.getElem?_eq_getElem hj) hxj).1.ref i hi
    · exact (h4 j _ x (Array.getElem?_eq_getElem hj) hxj).2.ref i hi
  | dm es => simp [idB]
  | rows z rs => simp [idB]

/-- A block comes to a place that was kept. -/
theorem Conc.place (hC : Conc E n G ρ t h a w) {id : Nat} (hx : h[id]? = some .nw) (hid : E.ρ.length ≤ id) {hd : Value} {x : B} (hb : RepB G w ρ hd x) (hf : ∀ b, blk hd = some b → E.w.heap.size ≤ b ∧ ¬ G b ∧ ¬ own ρ h b) :
    Conc E n G (ρ.set id hd) t (h.set id x) a w := by
  have hO := hC.ok
  have hil : id < ρ.length := by rw [hO.hr.len]; exact (List.getElem?_eq_some_iff.1 hx).1
  have hihl : id < h.length := (List.getElem?_eq_some_iff.1 hx).1
  have hu : ρ[id]? = some undef := by
    have := hO.hr.rep id _ _ (List.getElem?_eq_getElem hil) hx
    rw [List.getElem?_eq_getElem hil]
    exact congrArg some this
  have hne : ∀ j, Ref1 ρ j → j ≠ id := by
    rintro j ⟨v, h1, h2⟩ rfl
    rw [hu] at h1
    cases h1
    exact h2 rfl
  have hg : ∀ j, Ref1 ρ j → (ρ.set id hd)[j]? = ρ[j]? := fun j hj => by rw [List.getElem?_set, if_neg (fun e => hne j hj e.symm)]
  have get : ∀ (j : Nat) (v : Value) (y : B), (ρ.set id hd)[j]? = some v → (h.set id x)[j]? = some y → (j ≠ id ∧ ρ[j]? = some v ∧ h[j]? = some y) ∨ (j = id ∧ v = hd ∧ y = x) := by
    intro j v y h1 h2
    rw [List.getElem?_set] at h1 h2
    split at h1
    · rename_i hj
      subst hj
      rw [if_pos rfl, if_pos hihl] at h2
      cases h1; cases h2
      exact .inr ⟨rfl, rfl, rfl⟩
    · rename_i hj
      rw [if_neg hj] at h2
      exact .inl ⟨fun e => hj e.symm, h1, h2⟩
  have hown : ∀ b, own (ρ.set id hd) (h.set id x) b → own ρ h b ∨ blk hd = some b := by
    rintro b ⟨j, v, y, h1, h2, h3, h4⟩
    rcases get j v y h1 h2 with ⟨_, g1, g2⟩ | ⟨_, rfl, _⟩
    · exact .inl ⟨j, v, y, g1, g2, h3, h4⟩
    · exact .inr h4
  refine ⟨⟨⟨by simp [hO.hr.len], fun j v y h1 h2 => ?_, fun j j' v v' y y' b h1 h2 h3 h4 h5 h6 h7 h8 => ?_, hO.hr.gl, fun b hb ho => ?_, hO.hr.glb⟩, hO.gm, hO.go, fun b hb => ?_, hO.frame, hO.size, hO.os, hO.tape, hO.out, fun j v hv hs => ?_, by simpa using hO.hl⟩,
    hC.df, hC.sz, fun i => (hC.tm i).mono (fun _ h => h) (fun _ _ => rfl) (fun j hj => hg j ((hC.tm i).ref j hj))⟩
  · rcases get j v y h1 h2 with ⟨_, g1, g2⟩ | ⟨rfl, rfl, rfl⟩
    · have hr := hO.hr.rep j v y g1 g2
      exact hr.mono (fun _ h => h) (fun _ _ => rfl) (fun _ _ => rfl) (fun k hk => hg k (hr.ref k hk))
    · exact hb.mono (fun _ h => h) (fun _ _ => rfl) (fun _ _ => rfl) (fun k hk => hg k (hb.ref k hk))
  · rcases get j v y h1 h2 with ⟨hj, g1, g2⟩ | ⟨rfl, rfl, rfl⟩ <;> rcases get j' v' y' h4 h5 with ⟨hj', k1, k2⟩ | ⟨rfl, rfl, rfl⟩
    · exact hO.hr.dis j j' v v' y y' b g1 g2 h3 k1 k2 h6 h7 h8
    · exact absurd ⟨j, v, y, g1, g2, h3, h7⟩ (hf b h8).2.2
    · exact absurd ⟨j', v', y', k1, k2, h6, h8⟩ (hf b h7).2.2
    · rfl
  · rcases hown b ho with h1 | h1
    · exact hO.hr.gd b hb h1
    · exact (hf b h1).2.1 hb
  · rcases hown b hb with h1 | h1
    · exact hO.oo b h1
    · exact .inl (hf b h1).1
  · have hj : j ≠ id := by
      have := (List.getElem?_eq_some_iff.1 hv).1
      omega
    rw [List.getElem?_set, if_neg (fun e => hj e.symm)]
    exact hO.hand j v hv hs

/-- Places are kept. -/
theorem Conc.room (hC : Conc E n G ρ t h a w) : ∀ k : Nat, ∃ ρ', Conc E n G ρ' t (h ++ List.replicate k .nw) a w
  | 0 => ⟨ρ, by simpa using hC⟩
  | k + 1 => by
    obtain ⟨ρ', h1⟩ := hC.room k
    refine ⟨ρ' ++ [undef], ?_⟩
    have := h1.push (Grw.refl w) undef .nw (by simp [blk, undef]) rfl
    rw [List.replicate_succ', ← List.append_assoc]
    exact this
end
end Go.Vx
