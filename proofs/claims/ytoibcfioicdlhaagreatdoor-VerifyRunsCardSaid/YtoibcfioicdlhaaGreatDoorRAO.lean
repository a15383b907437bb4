/- New blocks at places that are kept for them. Conditions: none; lemmas on the definitions before. -/
import Derived.Test.YtoibcfioicdlhaaGreatDoorRAN
namespace Go.Vx
section
variable {P : Program} {E : Ent} {n : Nat} {G : Nat → Prop} {ρ : List Value} {t : T} {h : H} {a : Act} {w : World} {o : Oper} {nxt : Act → World → Prop} {Q : Exit → Act → World → Prop}

/-- Which operation lays a block. -/
theorem compO_al {P : Program} {ty : TypeId} {op : Op} {cs : List V} (h : compO P ty op = some (.al cs)) : ∃ t, op = .alloc t ∧ zer P t = some cs := by
  cases op
  case alloc t =>
    have al : (zer P t).map X.al = some (.al cs) → ∃ t', Op.alloc t = .alloc t' ∧ zer P t' = some cs := fun h => by
      simp only [Option.map_eq_some_iff, X.al.injEq] at h
      obtain ⟨x, hx, rfl⟩ := h
      exact ⟨t, rfl, hx⟩
    simp only [compO] at h
    split at h
    · split at h
      · simp only [Option.bind_eq_bind, Option.bind_eq_some_iff] at h
        obtain ⟨zs, hz, h⟩ := h
        repeat' split at h
        all_goals cases h
      · exact al h
    · exact al h
  all_goals
    exfalso
    simp only [compO] at h
    repeat' split at h
    all_goals
      first
        | contradiction
        | (simp [Option.bind_eq_some_iff] at h; done)
        | (simp [Option.bind_eq_some_iff] at h
           obtain ⟨_, _, _, _, h⟩ := h
           (repeat' split at h) <;> simp at h)
        | (simp [Option.bind_eq_some_iff] at h
           obtain ⟨_, _, _, _, _, h⟩ := h
           (repeat' split at h) <;> simp at h)
        | (simp [Option.bind_eq_some_iff] at h
           obtain ⟨_, _, h⟩ := h
           (repeat' split at h) <;> simp at h)

theorem compO_mm {P : Program} {ty : TypeId} {op : Op} {pl : Bool} (h : compO P ty op = some (.mm pl)) : ∃ t, op = .makeMap t none := by
  cases op
  case makeMap t r =>
    cases r with
    | none => exact ⟨t, rfl⟩
    | some r => simp only [compO] at h; cases h
  all_goals
    exfalso
    simp only [compO] at h
    repeat' split at h
    all_goals
      first
        | contradiction
        | (simp [Option.bind_eq_some_iff] at h; done)
        | (simp [Option.bind_eq_some_iff] at h
           obtain ⟨_, _, _, _, h⟩ := h
           (repeat' split at h) <;> simp at h)
        | (simp [Option.bind_eq_some_iff] at h
           obtain ⟨_, _, _, _, _, h⟩ := h
           (repeat' split at h) <;> simp at h)
        | (simp [Option.bind_eq_some_iff] at h
           obtain ⟨_, _, h⟩ := h
           (repeat' split at h) <;> simp at h)

/-- What a number stands for is there, and is something. -/
def Ref1 (ρ : List Value) (i : Nat) : Prop := ∃ v, ρ[i]? = some v ∧ v ≠ undef
theorem RepK.ref {v : Value} {x : V} (h : RepK G w ρ v x) : ∀ i ∈ idc x, Ref1 ρ i := by
  cases h <;> simp only [idc, List.not_mem_nil, false_imp_iff, implies_true, List.mem_singleton, forall_eq] <;> (try exact ⟨_, ‹_›, by simp [undef]⟩)
theorem RepC.ref {v : Value} {x : V} (h : RepC G w ρ v x) : ∀ i ∈ id0 x, Ref1 ρ i := by
  cases h with
  | k h => intro i hi; exact h.ref i (by cases h <;> simpa [id0] using hi)
  | fc f u cs caps h0 h1 h2 =>
    intro i hi
    simp only [id0, List.mem_flatMap] at hi
    obtain ⟨x, hx, hi⟩ := hi
    obtain ⟨j, hxj⟩ := List.mem_iff_getElem?.1 hx
    exact (h2 j x hxj).ref i hi
theorem Rep1.ref {v : Value} {x : V} (h : Rep1 G w ρ v x) : ∀ i ∈ id1 x, Ref1 ρ i := by
  cases h with
  | c h =>
    intro i hi
    refine h.ref i ?_
    cases h with
    | k h => cases h <;> simpa [id1] using hi
    | fc => simpa [id1] using hi
  | ag cs vs h1 h2 =>
    intro i hi
    simp only [id1, List.mem_flatMap] at hi
    obtain ⟨x, hx, hi⟩ := hi
    obtain ⟨j, hxj⟩ := List.mem_iff_getElem?.1 hx
    exact (h2 j x hxj).ref i hi
theorem Rep2.ref {v : Value} {x : V} (h : Rep2 G w ρ v x) : ∀ i ∈ id2 x, Ref1 ρ i := by
  cases h with
  | o h =>
    intro i hi
    refine h.ref i ?_
    cases h with
    | c h => cases h with
      | k h => cases h <;> simpa [id2] using hi
      | fc => simpa [id2] using hi
    | ag cs vs h1 h2 => simpa [id2] using hi
  | tu cs vs h1 h2 =>
    intro i hi
    simp only [id2, List.mem_flatMap] at hi
    obtain ⟨x, hx, hi⟩ := hi
    obtain ⟨j, hxj⟩ := List.mem_iff_getElem?.1 hx
    exact (h2 j x hxj).ref i hi
theorem RepB.ref {hd : Value} {x : B} (h : RepB G w ρ hd x) : ∀ i ∈ idB x, Ref1 ρ i := by
  cases x with
  | no => simp [idB]
  | nw => simp [idB]
  | cells cs =>
    obtain ⟨b, arr, ty, rfl, h1, h2, h3⟩ := h
    intro i hi
    simp only [idB, List.mem_flatMap] at hi
    obtain ⟨x, hx, hi⟩ := hi
    obtain ⟨j, hxj⟩ := List.mem_iff_getElem?.1 hx
    exact (h3 j x hxj).ref i hi
  | mp es =>
    obtain ⟨r, arr, clk, rfl, h1, h2, h3, h4⟩ := h
    intro i hi
    simp only [idB, List.mem_flatMap] at hi
    obtain ⟨x, hx, hi⟩ := hi
    obtain ⟨j, hxj⟩ := List.mem_iff_getElem?.1 hx
    have hj : j < arr.size := by rw [h2]; exact (List.getElem?_eq_some_iff.1 hxj).1
    rcases List.mem_append.1 hi with hi | hi
    · exact (h4 j _ x (Array.getElem?_eq_getElem hj) hxj).1.ref i hi
    · exact (h4 j _ x (Array.getElem?_eq_getElem hj) hxj).2.ref i hi
  | dm es => simp [idB]
  | rows z rs => simp [idB]

/-- A block comes to a place that was kept. -/
theorem Conc.place (hC : Conc E n G ρ t h a w) {id : Nat} (hx : h[id]? = some .nw) (hid : E.ρ.length ≤ id) {hd : Value} {x : B} (hb : RepB G w ρ hd x) (hf : ∀ b, blk hd = some b → E.w.heap.size ≤ b ∧ ¬ G b ∧ ¬ own ρ h b) :
    Conc E n G (ρ.set id hd) t (h.set id x) a w := by
  have hO := hC.ok
  have hil : id < ρ.length := by rw [hO.hr.len]; exact (List.getElem?_eq_some_iff.1 hx).1
  have hihl : id < h.length := (List.getElem?_eq_some_iff.1 hx).1
  have hu : ρ[id]? = some undef := by
    have := hO.hr.rep id _ _ (List.getElem?_eq_getElem hil) hx
    rw [List.getElem?_eq_getElem hil]
    exact congrArg some this
  have hne : ∀ j, Ref1 ρ j → j ≠ id := by
    rintro j ⟨v, h1, h2⟩ rfl
    rw [hu] at h1
    cases h1
    exact h2 rfl
  have hg : ∀ j, Ref1 ρ j → (ρ.set id hd)[j]? = ρ[j]? := fun j hj => by rw [List.getElem?_set, if_neg (fun e => hne j hj e.symm)]
  have get : ∀ (j : Nat) (v : Value) (y : B), (ρ.set id hd)[j]? = some v → (h.set id x)[j]? = some y → (j ≠ id ∧ ρ[j]? = some v ∧ h[j]? = some y) ∨ (j = id ∧ v = hd ∧ y = x) := by
    intro j v y h1 h2
    rw [List.getElem?_set] at h1 h2
    split at h1
    · rename_i hj
      subst hj
      rw [if_pos rfl, if_pos hihl] at h2
      cases h1; cases h2
      exact .inr ⟨rfl, rfl, rfl⟩
    · rename_i hj
      rw [if_neg hj] at h2
      exact .inl ⟨fun e => hj e.symm, h1, h2⟩
  have hown : ∀ b, own (ρ.set id hd) (h.set id x) b → own ρ h b ∨ blk hd = some b := by
    rintro b ⟨j, v, y, h1, h2, h3, h4⟩
    rcases get j v y h1 h2 with ⟨_, g1, g2⟩ | ⟨_, rfl, _⟩
    · exact .inl ⟨j, v, y, g1, g2, h3, h4⟩
    · exact .inr h4
  refine ⟨⟨⟨by simp [hO.hr.len], fun j v y h1 h2 => ?_, fun j j' v v' y y' b h1 h2 h3 h4 h5 h6 h7 h8 => ?_, hO.hr.gl, fun b hb ho => ?_, hO.hr.glb⟩, hO.gm, hO.go, fun b hb => ?_, hO.frame, hO.size, hO.os, hO.tape, hO.out, fun j v hv hs => ?_, by simpa using hO.hl, fun r hr => ?_⟩,
    hC.df, hC.sz, fun i => (hC.tm i).mono (fun _ h => h) (fun _ _ => rfl) (fun j hj => hg j ((hC.tm i).ref j hj))⟩
  · rcases get j v y h1 h2 with ⟨_, g1, g2⟩ | ⟨rfl, rfl, rfl⟩
    · have hr := hO.hr.rep j v y g1 g2
      exact hr.mono (fun _ h => h) (fun _ _ => rfl) (fun _ _ => rfl) (fun k hk => hg k (hr.ref k hk))
    · exact hb.mono (fun _ h => h) (fun _ _ => rfl) (fun _ _ => rfl) (fun k hk => hg k (hb.ref k hk))
  · rcases get j v y h1 h2 with ⟨hj, g1, g2⟩ | ⟨rfl, rfl, rfl⟩ <;> rcases get j' v' y' h4 h5 with ⟨hj', k1, k2⟩ | ⟨rfl, rfl, rfl⟩
    · exact hO.hr.dis j j' v v' y y' b g1 g2 h3 k1 k2 h6 h7 h8
    · exact absurd ⟨j, v, y, g1, g2, h3, h7⟩ (hf b h8).2.2
    · exact absurd ⟨j', v', y', k1, k2, h6, h8⟩ (hf b h7).2.2
    · rfl
  · rcases hown b ho with h1 | h1
    · exact hO.hr.gd b hb h1
    · exact (hf b h1).2.1 hb
  · rcases hown b hb with h1 | h1
    · exact hO.oo b h1
    · exact .inl (hf b h1).1
  · have hj : j ≠ id := by
      have := (List.getElem?_eq_some_iff.1 hv).1
      omega
    rw [List.getElem?_set, if_neg (fun e => hj e.symm)]
    exact hO.hand j v hv hs
  · obtain ⟨g1, g2, g3⟩ := hO.mks r hr
    refine ⟨g1, g2, fun g4 => ?_⟩
    obtain ⟨j, v, y, h1, h2, h3, h4⟩ := g4
    rcases get j v y h1 h2 with ⟨_, k1, k2⟩ | ⟨rfl, rfl, rfl⟩
    · exact g3 ⟨j, v, y, k1, k2, h3, h4⟩
    · exact hb.ndef h3 h4 g1

/-- Places are kept. -/
theorem Conc.room (hC : Conc E n G ρ t h a w) : ∀ k : Nat, ∃ ρ', Conc E n G ρ' t (h ++ List.replicate k .nw) a w
  | 0 => ⟨ρ, by simpa using hC⟩
  | k + 1 => by
    obtain ⟨ρ', h1⟩ := hC.room k
    refine ⟨ρ' ++ [undef], ?_⟩
    have := h1.push (Grw.refl w) undef .nw (by simp [blk, undef]) rfl
    rw [List.replicate_succ', ← List.append_assoc]
    exact this
end
end Go.Vx
namespace Go.Vx

theorem k0 {x : V} (h : ∀ g c, x ≠ .fc g c) : (∀ f, rn0 f x = rnc f x) ∧ id0 x = idc x ∧ ∀ i, kilC i x = kil0 i x := by
  cases x <;> first | exact ⟨fun _ => rfl, rfl, fun _ => rfl⟩ | exact absurd rfl (h _ _)
theorem k1 {x : V} (h : ∀ c, x ≠ .ag c) : (∀ f, rn1 f x = rn0 f x) ∧ id1 x = id0 x ∧ ∀ i, kil1 i x = kilC i x := by
  cases x <;> first | exact ⟨fun _ => rfl, rfl, fun _ => rfl⟩ | exact absurd rfl (h _)
theorem k2 {x : V} (h : ∀ c, x ≠ .tu c) : (∀ f, rn2 f x = rn1 f x) ∧ id2 x = id1 x ∧ ∀ i, kil2 i x = kil1 i x := by
  cases x <;> first | exact ⟨fun _ => rfl, rfl, fun _ => rfl⟩ | exact absurd rfl (h _)

theorem rnc_fix {f : Nat → Nat} {x : V} (h : ∀ i ∈ idc x, f i = i) : rnc f x = x := by
  cases x <;> first | rfl | (simp only [rnc]; rw [h _ (by simp [idc])])
theorem rn0_fix {f : Nat → Nat} {x : V} (h : ∀ i ∈ id0 x, f i = i) : rn0 f x = x := by
  by_cases hx : ∃ g c, x = V.fc g c
  · obtain ⟨g, c, rfl⟩ := hx
    simp only [id0, List.mem_flatMap] at h
    simp only [rn0, map_fix (fun x hx => rnc_fix fun i hi => h i ⟨x, hx, hi⟩)]
  · obtain ⟨e1, e2, _⟩ := k0 (fun g c e => hx ⟨g, c, e⟩)
    rw [e1]
    exact rnc_fix (by rw [← e2]; exact h)
theorem rn1_fix {f : Nat → Nat} {x : V} (h : ∀ i ∈ id1 x, f i = i) : rn1 f x = x := by
  by_cases hx : ∃ c, x = V.ag c
  · obtain ⟨c, rfl⟩ := hx
    simp only [id1, List.mem_flatMap] at h
    simp only [rn1, map_fix (fun x hx => rn0_fix fun i hi => h i ⟨x, hx, hi⟩)]
  · obtain ⟨e1, e2, _⟩ := k1 (fun c e => hx ⟨c, e⟩)
    rw [e1]
    exact rn0_fix (by rw [← e2]; exact h)
theorem rnB_fix {f : Nat → Nat} {x : B} (h : ∀ i ∈ idB x, f i = i) : rnB f x = x := by
  cases x with
  | cells c =>
    simp only [idB, List.mem_flatMap] at h
    simp only [rnB, map_fix (fun x hx => rn0_fix fun i hi => h i ⟨x, hx, hi⟩)]
  | mp c =>
    simp only [idB, List.mem_flatMap, List.mem_append] at h
    simp only [rnB, map_fix (l := c) (f := fun p => (rn1 f p.1, rn1 f p.2)) (fun x hx => by
      rw [rn1_fix fun i hi => h i ⟨x, hx, .inl hi⟩, rn1_fix fun i hi => h i ⟨x, hx, .inr hi⟩])]
  | _ => rfl

theorem rnc_comp {f g : Nat → Nat} (x : V) : rnc f (rnc g x) = rnc (fun i => f (g i)) x := by cases x <;> rfl
theorem rn0_comp {f g : Nat → Nat} (x : V) : rn0 f (rn0 g x) = rn0 (fun i => f (g i)) x := by
  cases x with
  | fc F c => simp only [rn0, List.map_map]; congr 1; exact List.map_congr_left fun x _ => rnc_comp x
  | _ => rfl
theorem rn1_comp {f g : Nat → Nat} (x : V) : rn1 f (rn1 g x) = rn1 (fun i => f (g i)) x := by
  cases x with
  | ag c => simp only [rn1, List.map_map]; congr 1; exact List.map_congr_left fun x _ => rn0_comp x
  | fc F c => exact rn0_comp (.fc F c)
  | _ => rfl
theorem rn2_comp {f g : Nat → Nat} (x : V) : rn2 f (rn2 g x) = rn2 (fun i => f (g i)) x := by
  cases x with
  | tu c => simp only [rn2, List.map_map]; congr 1; exact List.map_congr_left fun x _ => rn1_comp x
  | ag c => exact rn1_comp (.ag c)
  | fc F c => exact rn0_comp (.fc F c)
  | _ => rfl
theorem rnB_comp {f g : Nat → Nat} (x : B) : rnB f (rnB g x) = rnB (fun i => f (g i)) x := by
  cases x with
  | cells c => simp only [rnB, List.map_map]; congr 1; exact List.map_congr_left fun x _ => rn0_comp x
  | mp c => simp only [rnB, List.map_map]; congr 1; exact List.map_congr_left fun x _ => by simp only [Function.comp, rn1_comp]
  | _ => rfl

theorem kil0_fix {i : Nat} {x : V} (h : i ∉ idc x) : kil0 i x = x := by
  cases x <;> first | rfl | (simp only [idc, List.mem_singleton] at h; simp only [kil0, nbeq (Ne.symm h), cond_false])
theorem kilC_fix {i : Nat} {x : V} (h : i ∉ id0 x) : kilC i x = x := by
  by_cases hx : ∃ g c, x = V.fc g c
  · obtain ⟨g, c, rfl⟩ := hx
    simp only [id0, List.mem_flatMap, not_exists, not_and] at h
    simp only [kilC, map_fix (fun x hx => kil0_fix (h x hx))]
  · obtain ⟨_, e2, e3⟩ := k0 (fun g c e => hx ⟨g, c, e⟩)
    rw [e3]
    exact kil0_fix (by rw [← e2]; exact h)
theorem kil1_fix {i : Nat} {x : V} (h : i ∉ id1 x) : kil1 i x = x := by
  by_cases hx : ∃ c, x = V.ag c
  · obtain ⟨c, rfl⟩ := hx
    simp only [id1, List.mem_flatMap, not_exists, not_and] at h
    simp only [kil1, map_fix (fun x hx => kilC_fix (h x hx))]
  · obtain ⟨_, e2, e3⟩ := k1 (fun c e => hx ⟨c, e⟩)
    rw [e3]
    exact kilC_fix (by rw [← e2]; exact h)
theorem kil2_fix {i : Nat} {x : V} (h : i ∉ id2 x) : kil2 i x = x := by
  by_cases hx : ∃ c, x = V.tu c
  · obtain ⟨c, rfl⟩ := hx
    simp only [id2, List.mem_flatMap, not_exists, not_and] at h
    simp only [kil2, map_fix (fun x hx => kil1_fix (h x hx))]
  · obtain ⟨_, e2, e3⟩ := k2 (fun c e => hx ⟨c, e⟩)
    rw [e3]
    exact kil1_fix (by rw [← e2]; exact h)
theorem kilB_fix {i : Nat} {x : B} (h : i ∉ idB x) : kilB i x = x := by
  cases x with
  | cells c =>
    simp only [idB, List.mem_flatMap, not_exists, not_and] at h
    simp only [kilB, map_fix (fun x hx => kilC_fix (h x hx))]
  | mp c =>
    simp only [idB, List.mem_flatMap, not_exists, not_and, List.mem_append, not_or] at h
    simp only [kilB, map_fix (l := c) (f := fun p => (kil1 i p.1, kil1 i p.2)) (fun x hx => by rw [kil1_fix (h x hx).1, kil1_fix (h x hx).2])]
  | _ => rfl

theorem kils_clean : ∀ (os : List Nat) (t : T), (∀ i ∈ os, ∀ s, i ∉ id2 (gs t s)) → ∀ s, gs (os.foldl (fun t i => kilT i t) t) s = gs t s := by
  intro os
  induction os with
  | nil => intro t _ s; rfl
  | cons i os ih =>
    intro t h s
    have e : ∀ s, gs (kilT i t) s = gs t s := fun s => by rw [kilT, gs_map _ rfl, kil2_fix (h i (by simp) s)]
    rw [List.foldl_cons, ih (kilT i t) (fun j hj s => by rw [e s]; exact h j (by simp [hj]) s) s, e s]
theorem kilH_clean : ∀ (os : List Nat) (h : H) (i : Nat), (∀ j ∈ os, ∀ b, h[i]? = some b → j ∉ idB b) → (kilH os h)[i]? = h[i]? := by
  intro os
  induction os with
  | nil => intro h i _; rfl
  | cons j os ih =>
    intro h i hc
    have e : (h.map (kilB j))[i]? = h[i]? := by
      rw [List.getElem?_map]
      cases hb : h[i]? with
      | none => rfl
      | some b => rw [Option.map_some, kilB_fix (hc j (by simp) b hb)]
    rw [kilH, ih (h.map (kilB j)) i (fun k hk b hb => hc k (by simp [hk]) b (by rw [← e]; exact hb)), e]

theorem reach_acc (h : H) : ∀ (n : Nat) (l acc : List Nat), ∀ i ∈ acc, i ∈ reach h n l acc := by
  intro n
  induction n with
  | zero => intro l acc i hi; exact hi
  | succ n ih =>
    intro l acc i hi
    cases l with
    | nil => exact hi
    | cons j r =>
      simp only [reach]
      cases has acc j
      · exact ih _ _ i (by simp [hi])
      · exact ih _ _ i hi
theorem reach_congr {h h' : H} : ∀ (n : Nat) (l acc : List Nat), (∀ i ∈ reach h n l acc, get? h' i = get? h i) → reach h' n l acc = reach h n l acc := by
  intro n
  induction n with
  | zero => intro l acc _; rfl
  | succ n ih =>
    intro l acc hh
    cases l with
    | nil => rfl
    | cons j r =>
      simp only [reach] at hh ⊢
      cases hj : has acc j
      · rw [hj] at hh
        simp only [cond_false] at hh ⊢
        have e := hh j (reach_acc h n _ _ j (by simp))
        rw [e]
        exact ih _ _ hh
      · rw [hj] at hh
        simp only [cond_true] at hh ⊢
        exact ih _ _ hh

theorem zset {α : Type} : ∀ (l : List (Nat × α)) (a : List α), (l.map (·.1)).Nodup → (∀ p ∈ l, p.1 < a.length) → (l.foldl (fun a p => a.set p.1 p.2) a).length = a.length ∧ (∀ p ∈ l, (l.foldl (fun a p => a.set p.1 p.2) a)[p.1]? = some p.2) ∧
    ∀ i, (∀ p ∈ l, p.1 ≠ i) → (l.foldl (fun a p => a.set p.1 p.2) a)[i]? = a[i]? := by
  intro l
  induction l with
  | nil => intro a _ _; exact ⟨rfl, by simp, fun _ _ => rfl⟩
  | cons p l ih =>
    intro a hn hl
    simp only [List.map_cons, List.nodup_cons] at hn
    obtain ⟨g1, g2, g3⟩ := ih (a.set p.1 p.2) hn.2 (fun q hq => by simpa using hl q (by simp [hq]))
    refine ⟨by simpa using g1, fun q hq => ?_, fun i hi => ?_⟩
    · rcases List.mem_cons.1 hq with rfl | hq
      · rw [List.foldl_cons, g3 q.1 (fun p hp e => hn.1 (List.mem_map.2 ⟨p, hp, e⟩)), List.getElem?_set, if_pos rfl, if_pos (hl q (by simp))]
      · exact g2 q hq
    · rw [List.foldl_cons, g3 i (fun q hq => hi q (by simp [hq])), List.getElem?_set, if_neg (hi p (by simp))]

/-- Values laid at places, each at its own. -/
theorem zipset {α : Type} {nf : List Nat} {vs a : List α} (hl : nf.length = vs.length) (hn : nf.Nodup) (hlt : ∀ i ∈ nf, i < a.length) :
    ((nf.zip vs).foldl (fun a p => a.set p.1 p.2) a).length = a.length ∧ (∀ (k i : Nat), nf[k]? = some i → ((nf.zip vs).foldl (fun a p => a.set p.1 p.2) a)[i]? = vs[k]?) ∧ ∀ i, i ∉ nf → ((nf.zip vs).foldl (fun a p => a.set p.1 p.2) a)[i]? = a[i]? := by
  have e : (nf.zip vs).map (·.1) = nf := List.map_fst_zip (by omega)
  have hm : ∀ p ∈ nf.zip vs, p.1 ∈ nf := fun p hp => by rw [← e]; exact List.mem_map.2 ⟨p, hp, rfl⟩
  obtain ⟨g1, g2, g3⟩ := zset (nf.zip vs) a (by rw [e]; exact hn) (fun p hp => hlt _ (hm p hp))
  refine ⟨g1, fun k i hk => ?_, fun i hi => g3 i fun p hp he => hi (he ▸ hm p hp)⟩
  have hkl : k < vs.length := by rw [← hl]; exact (List.getElem?_eq_some_iff.1 hk).1
  rw [List.getElem?_eq_getElem hkl]
  have hp : (i, vs[k]) ∈ nf.zip vs := List.mem_iff_getElem?.2 ⟨k, by rw [List.getElem?_zip_eq_some]; exact ⟨hk, List.getElem?_eq_getElem hkl⟩⟩
  exact g2 _ hp

section
variable {P : Program} {E : Ent} {n : Nat} {G : Nat → Prop} {ρ : List Value} {t : T} {h : H} {a : Act} {w : World}

/-- Blocks that were laid last come to places that were kept. -/
theorem Conc.move {ns : List B} (hC : Conc E n G ρ t (h ++ ns) a w) {nf : List Nat} (hl : nf.length = ns.length) (hnd : nf.Nodup) (hnw : ∀ i ∈ nf, h[i]? = some .nw) (hlo : ∀ i ∈ nf, E.ρ.length ≤ i) (hE : E.ρ.length ≤ h.length) (hEh : E.h.length ≤ h.length) {f : Nat → Nat}
    (hf1 : ∀ k, k < h.length → f k = k) (hf2 : ∀ (k i : Nat), nf[k]? = some i → f (h.length + k) = i) (hht : ∀ s, ∀ i ∈ id2 (gs t s), i < h.length) (hhh : ∀ (i : Nat) (b : B), h[i]? = some b → ∀ j ∈ idB b, j < h.length) :
    ∃ ρ', Conc E n G ρ' t ((nf.zip (ns.map (rnB f))).foldl (fun a w => a.set w.1 w.2) h) a w ∧ ∀ (v : Value) (x : V), Rep2 G w ρ v x → Rep2 G w ρ' v (rn2 f x) := by
  have hO := hC.ok
  have hlen : ρ.length = h.length + ns.length := by rw [hO.hr.len, List.length_append]
  have hnlt : ∀ i ∈ nf, i < h.length := fun i hi => (List.getElem?_eq_some_iff.1 (hnw i hi)).1
  obtain ⟨a1, a2, a3⟩ := zipset (vs := ns.map (rnB f)) (a := h) (by simpa using hl) hnd hnlt
  obtain ⟨b1, b2, b3⟩ := zipset (vs := ρ.drop h.length) (a := ρ.take h.length) (by simp; omega) hnd (fun i hi => by have := hnlt i hi; simp; omega)
  generalize hh' : (nf.zip (ns.map (rnB f))).foldl (fun a w => a.set w.1 w.2) h = h' at *
  generalize hρ' : (nf.zip (ρ.drop h.length)).foldl (fun a w => a.set w.1 w.2) (ρ.take h.length) = ρ' at *
  have bl : ρ'.length = h.length := by rw [b1]; simp; omega
  have b2' : ∀ (k i : Nat), nf[k]? = some i → ρ'[i]? = ρ[h.length + k]? := fun k i hk => by rw [b2 k i hk, List.getElem?_drop]
  have b3' : ∀ i, i ∉ nf → i < h.length → ρ'[i]? = ρ[i]? := fun i hi hlt => by rw [b3 i hi, List.getElem?_take, if_pos hlt]
  have hun : ∀ i, Ref1 ρ i → i ∉ nf := by
    rintro i ⟨v, h1, h2⟩ hi
    have hx := hnw i hi
    have hlt := hnlt i hi
    have := hO.hr.rep i v .nw h1 (by rw [List.getElem?_append_left hlt]; exact hx)
    exact h2 this
  have hg : ∀ i, Ref1 ρ i → ρ'[f i]? = ρ[i]? := by
    intro i hi
    have hni := hun i hi
    obtain ⟨v, h1, _⟩ := hi
    have hil := (List.getElem?_eq_some_iff.1 h1).1
    by_cases hlt : i < h.length
    · rw [hf1 i hlt, b3' i hni hlt]
    · obtain ⟨j, hj⟩ : ∃ j, nf[i - h.length]? = some j := ⟨_, List.getElem?_eq_getElem (by omega)⟩
      have := hf2 _ _ hj
      have e : h.length + (i - h.length) = i := by omega
      rw [e] at this
      rw [this, b2' _ _ hj, e]
  -- where each comes from
  have src : ∀ (i : Nat) (v : Value) (y : B), ρ'[i]? = some v → h'[i]? = some y → ∃ (o : Nat) (y0 : B), ρ[o]? = some v ∧ (h ++ ns)[o]? = some y0 ∧ (y0 = .no ↔ y = .no) ∧ ((∃ k, nf[k]? = some i ∧ o = h.length + k) ∨ (i ∉ nf ∧ o = i ∧ i < h.length)) ∧ (RepB G w ρ v y0 → RepB G w ρ' v y) := by
    intro i v y h1 h2
    have hil : i < h.length := by rw [← bl]; exact (List.getElem?_eq_some_iff.1 h1).1
    by_cases hi : i ∈ nf
    · obtain ⟨k, hk⟩ := List.mem_iff_getElem?.1 hi
      rw [b2' k i hk] at h1
      rw [a2 k i hk, List.getElem?_map, Option.map_eq_some_iff] at h2
      obtain ⟨y0, hy, rfl⟩ := h2
      refine ⟨h.length + k, y0, h1, by rw [List.getElem?_append_right (by omega)]; simpa using hy, (rnB_no f y0).symm, .inl ⟨k, hk, rfl⟩, fun hr => ?_⟩
      exact hr.ren fun j hj => hg j (hr.ref j hj)
    · rw [b3' i hi hil] at h1
      rw [a3 i hi] at h2
      refine ⟨i, y, h1, by rw [List.getElem?_append_left hil]; exact h2, Iff.rfl, .inr ⟨hi, rfl, hil⟩, fun hr => ?_⟩
      exact hr.mono (fun _ h => h) (fun _ _ => rfl) (fun _ _ => rfl) (fun j hj => by
        have := hg j (hr.ref j hj)
        rwa [hf1 j (hhh i y h2 j hj)] at this)
  have back : ∀ b, own ρ' h' b → own ρ (h ++ ns) b := by
    rintro b ⟨i, v, y, h1, h2, h3, h4⟩
    obtain ⟨o, y0, g1, g2, g3, _⟩ := src i v y h1 h2
    exact ⟨o, v, y0, g1, g2, fun e => h3 (g3.1 e), h4⟩
  refine ⟨ρ', ⟨⟨⟨by rw [bl, a1], fun i v y h1 h2 => ?_, fun i i' v v' y y' b h1 h2 h3 h4 h5 h6 h7 h8 => ?_, hO.hr.gl, fun b hb ho => hO.hr.gd b hb (back b ho), hO.hr.glb⟩, hO.gm, hO.go, fun b hb => hO.oo b (back b hb), hO.frame, hO.size, hO.os, hO.tape, hO.out, fun i v hv hs => ?_, by rw [a1]; exact hEh, fun r hr => let ⟨g1, g2, g3⟩ := hO.mks r hr; ⟨g1, g2, fun g4 => g3 (back r g4)⟩⟩,
    hC.df, hC.sz, fun s => (hC.tm s).mono (fun _ h => h) (fun _ _ => rfl) (fun j hj => ?_)⟩, fun v x hx => hx.ren fun j hj => hg j (hx.ref j hj)⟩
  · obtain ⟨o, y0, g1, g2, _, _, g5⟩ := src i v y h1 h2
    exact g5 (hO.hr.rep o v y0 g1 g2)
  · obtain ⟨o, y0, g1, g2, g3, g4, _⟩ := src i v y h1 h2
    obtain ⟨o', y0', k1, k2, k3, k4, _⟩ := src i' v' y' h4 h5
    have hoo := hO.hr.dis o o' v v' y0 y0' b g1 g2 (fun e => h3 (g3.1 e)) k1 k2 (fun e => h6 (k3.1 e)) h7 h8
    rcases g4 with ⟨k, hk, rfl⟩ | ⟨_, rfl, hlt⟩ <;> rcases k4 with ⟨k', hk', rfl⟩ | ⟨_, rfl, hlt'⟩
    · have : k = k' := by omega
      subst this
      rw [hk] at hk'
      exact Option.some.inj hk'
    · omega
    · omega
    · exact hoo
  · have h0 := hO.hand i v hv hs
    have hiE := (List.getElem?_eq_some_iff.1 hv).1
    have hi : i ∉ nf := fun hi => by have := hlo i hi; omega
    rw [b3' i hi (by omega)]
    exact h0
  · have := hg j ((hC.tm s).ref j hj)
    rwa [hf1 j (hht s j hj)] at this
end
end Go.Vx
