/- Blocks called otherwise; blocks that come to places that were kept. Conditions: none; lemmas on the definitions before. -/
import Derived.Test.YtjpgfgajkjhonaaGreatDoorQTAM
namespace Go.Vx
theorem k0 {x : V} (h : ∀ g c, x ≠ .fc g c) : (∀ f, rn0 f x = rnc f x) ∧ id0 x = idc x ∧ ∀ i, kilC i x = kil0 i x := by
 cases x <;> first | exact ⟨fun _ => rfl, rfl, fun _ => rfl⟩ | exact absurd rfl (h _ _)
theorem k1 {x : V} (h : ∀ c, x ≠ .ag c) : (∀ f, rn1 f x = rn0 f x) ∧ id1 x = id0 x ∧ ∀ i, kil1 i x = kilC i x := by
 cases x <;> first | exact ⟨fun _ => rfl, rfl, fun _ => rfl⟩ | exact absurd rfl (h _)
theorem k2 {x : V} (h : ∀ c, x ≠ .tu c) : (∀ f, rn2 f x = rn1 f x) ∧ id2 x = id1 x ∧ ∀ i, kil2 i x = kil1 i x := by
 cases x <;> first | exact ⟨fun _ => rfl, rfl, fun _ => rfl⟩ | exact absurd rfl (h _)
theorem rnc_fix {f : Nat → Nat} {x : V} (h : ∀ i ∈ idc x, f i = i) : rnc f x = x := by
 cases x <;> first | rfl | (simp only [rnc]; rw [h _ (by simp [idc])])
theorem rn0_fix {f : Nat → Nat} {x : V} (h : ∀ i ∈ id0 x, f i = i) : rn0 f x = x := by
 by_cases hx : ∃ g c, x = V.fc g c
 ·obtain ⟨g, c, rfl⟩ := hx
  simp only [id0, List.mem_flatMap] at h
  simp only [rn0, map_fix (fun x hx => rnc_fix fun i hi => h i ⟨x, hx, hi⟩)]
 ·obtain ⟨e1, e2, _⟩ := k0 (fun g c e => hx ⟨g, c, e⟩)
  rw [e1]
  exact rnc_fix (by rw [← e2]; exact h)
theorem rn1_fix {f : Nat → Nat} {x : V} (h : ∀ i ∈ id1 x, f i = i) : rn1 f x = x := by
 by_cases hx : ∃ c, x = V.ag c
 ·obtain ⟨c, rfl⟩ := hx
  simp only [id1, List.mem_flatMap] at h
  simp only [rn1, map_fix (fun x hx => rn0_fix fun i hi => h i ⟨x, hx, hi⟩)]
 ·obtain ⟨e1, e2, _⟩ := k1 (fun c e => hx ⟨c, e⟩)
  rw [e1]
  exact rn0_fix (by rw [← e2]; exact h)
theorem rnB_fix {f : Nat → Nat} {x : B} (h : ∀ i ∈ idB x, f i = i) : rnB f x = x := by
 cases x with
 | ms z es out it =>
  cases out with
  | none => rfl
  | some q => simp only [rnB, Option.map_some, rn0_fix h]
 | cells c =>
  simp only [idB, List.mem_flatMap] at h
  simp only [rnB, map_fix (fun x hx => rn0_fix fun i hi => h i ⟨x, hx, hi⟩)]
 | mp c =>
  simp only [idB, List.mem_flatMap, List.mem_append] at h
  simp only [rnB, map_fix (l := c) (f := fun p => (rn1 f p.1, rn1 f p.2)) (fun x hx => by
   rw [rn1_fix fun i hi => h i ⟨x, hx, .inl hi⟩, rn1_fix fun i hi => h i ⟨x, hx, .inr hi⟩])]
 | rx z rs k c =>
  simp only [idB, List.mem_flatMap] at h
  simp only [rnB, map_fix (fun x hx => rn0_fix fun i hi => h i ⟨x, hx, hi⟩)]
 | _ => rfl
theorem rnc_cg {f g : Nat → Nat} {x : V} (h : ∀ i ∈ idc x, f i = g i) : rnc f x = rnc g x := by
 cases x <;> first | rfl | (simp only [rnc]; rw [h _ (by simp [idc])])
theorem rn0_cg {f g : Nat → Nat} {x : V} (h : ∀ i ∈ id0 x, f i = g i) : rn0 f x = rn0 g x := by
 by_cases hx : ∃ g c, x = V.fc g c
 ·obtain ⟨F, c, rfl⟩ := hx
  simp only [id0, List.mem_flatMap] at h
  simp only [rn0, List.map_congr_left (fun x hx => rnc_cg fun i hi => h i ⟨x, hx, hi⟩)]
 ·obtain ⟨e1, e2, _⟩ := k0 (fun g c e => hx ⟨g, c, e⟩)
  rw [e1, e1]
  exact rnc_cg (by rw [← e2]; exact h)
theorem rn1_cg {f g : Nat → Nat} {x : V} (h : ∀ i ∈ id1 x, f i = g i) : rn1 f x = rn1 g x := by
 by_cases hx : ∃ c, x = V.ag c
 ·obtain ⟨c, rfl⟩ := hx
  simp only [id1, List.mem_flatMap] at h
  simp only [rn1, List.map_congr_left (fun x hx => rn0_cg fun i hi => h i ⟨x, hx, hi⟩)]
 ·obtain ⟨e1, e2, _⟩ := k1 (fun c e => hx ⟨c, e⟩)
  rw [e1, e1]
  exact rn0_cg (by rw [← e2]; exact h)
theorem rn2_cg {f g : Nat → Nat} {x : V} (h : ∀ i ∈ id2 x, f i = g i) : rn2 f x = rn2 g x := by
 by_cases hx : ∃ c, x = V.tu c
 ·obtain ⟨c, rfl⟩ := hx
  simp only [id2, List.mem_flatMap] at h
  simp only [rn2, List.map_congr_left (fun x hx => rn1_cg fun i hi => h i ⟨x, hx, hi⟩)]
 ·obtain ⟨e1, e2, _⟩ := k2 (fun c e => hx ⟨c, e⟩)
  rw [e1, e1]
  exact rn1_cg (by rw [← e2]; exact h)
theorem rnB_cg {f g : Nat → Nat} {x : B} (h : ∀ i ∈ idB x, f i = g i) : rnB f x = rnB g x := by
 cases x with
 | ms z es out it =>
  cases out with
  | none => rfl
  | some q => simp only [rnB, Option.map_some, rn0_cg h]
 | cells c =>
  simp only [idB, List.mem_flatMap] at h
  simp only [rnB, List.map_congr_left (fun x hx => rn0_cg fun i hi => h i ⟨x, hx, hi⟩)]
 | mp c =>
  simp only [idB, List.mem_flatMap, List.mem_append] at h
  simp only [rnB, List.map_congr_left (l := c) (f := fun p => (rn1 f p.1, rn1 f p.2)) (g := fun p => (rn1 g p.1, rn1 g p.2)) (fun x hx => by
   rw [rn1_cg fun i hi => h i ⟨x, hx, .inl hi⟩, rn1_cg fun i hi => h i ⟨x, hx, .inr hi⟩])]
 | rx z rs k c =>
  simp only [idB, List.mem_flatMap] at h
  simp only [rnB, List.map_congr_left (fun x hx => rn0_cg fun i hi => h i ⟨x, hx, hi⟩)]
 | _ => rfl
theorem rnc_comp {f g : Nat → Nat} (x : V) : rnc f (rnc g x) = rnc (fun i => f (g i)) x := by cases x <;> rfl
theorem rn0_comp {f g : Nat → Nat} (x : V) : rn0 f (rn0 g x) = rn0 (fun i => f (g i)) x := by
 cases x with
 | fc F c => simp only [rn0, List.map_map]; congr 1; exact List.map_congr_left fun x _ => rnc_comp x
 | _ => rfl
theorem rn1_comp {f g : Nat → Nat} (x : V) : rn1 f (rn1 g x) = rn1 (fun i => f (g i)) x := by
 cases x with
 | ag c => simp only [rn1, List.map_map]; congr 1; exact List.map_congr_left fun x _ => rn0_comp x
 | fc F c => exact rn0_comp (.fc F c)
 | _ => rfl
theorem rn2_comp {f g : Nat → Nat} (x : V) : rn2 f (rn2 g x) = rn2 (fun i => f (g i)) x := by
 cases x with
 | tu c => simp only [rn2, List.map_map]; congr 1; exact List.map_congr_left fun x _ => rn1_comp x
 | ag c => exact rn1_comp (.ag c)
 | fc F c => exact rn0_comp (.fc F c)
 | _ => rfl
theorem rnB_comp {f g : Nat → Nat} (x : B) : rnB f (rnB g x) = rnB (fun i => f (g i)) x := by
 cases x with
 | ms z es out it =>
  cases out with
  | none => rfl
  | some q => simp only [rnB, Option.map_some, rn0_comp]
 | cells c => simp only [rnB, List.map_map]; congr 1; exact List.map_congr_left fun x _ => rn0_comp x
 | mp c => simp only [rnB, List.map_map]; congr 1; exact List.map_congr_left fun x _ => by simp only [Function.comp, rn1_comp]
 | rx z rs k c => simp only [rnB, List.map_map]; congr 1; exact List.map_congr_left fun x _ => rn0_comp x
 | _ => rfl
theorem kil0_fix {i : Nat} {x : V} (h : i ∉ idc x) : kil0 i x = x := by
 cases x <;> first | rfl | (simp only [idc, List.mem_singleton] at h; simp only [kil0, nbeq (Ne.symm h), cond_false])
theorem kilC_fix {i : Nat} {x : V} (h : i ∉ id0 x) : kilC i x = x := by
 by_cases hx : ∃ g c, x = V.fc g c
 ·obtain ⟨g, c, rfl⟩ := hx
  simp only [id0, List.mem_flatMap, not_exists, not_and] at h
  simp only [kilC, map_fix (fun x hx => kil0_fix (h x hx))]
 ·obtain ⟨_, e2, e3⟩ := k0 (fun g c e => hx ⟨g, c, e⟩)
  rw [e3]
  exact kil0_fix (by rw [← e2]; exact h)
theorem kil1_fix {i : Nat} {x : V} (h : i ∉ id1 x) : kil1 i x = x := by
 by_cases hx : ∃ c, x = V.ag c
 ·obtain ⟨c, rfl⟩ := hx
  simp only [id1, List.mem_flatMap, not_exists, not_and] at h
  simp only [kil1, map_fix (fun x hx => kilC_fix (h x hx))]
 ·obtain ⟨_, e2, e3⟩ := k1 (fun c e => hx ⟨c, e⟩)
  rw [e3]
  exact kilC_fix (by rw [← e2]; exact h)
theorem kil2_fix {i : Nat} {x : V} (h : i ∉ id2 x) : kil2 i x = x := by
 by_cases hx : ∃ c, x = V.tu c
 ·obtain ⟨c, rfl⟩ := hx
  simp only [id2, List.mem_flatMap, not_exists, not_and] at h
  simp only [kil2, map_fix (fun x hx => kil1_fix (h x hx))]
 ·obtain ⟨_, e2, e3⟩ := k2 (fun c e => hx ⟨c, e⟩)
  rw [e3]
  exact kil1_fix (by rw [← e2]; exact h)
theorem kilB_fix {i : Nat} {x : B} (h : i ∉ idB x) : kilB i x = x := by
 cases x with
 | ms z es out it =>
  cases out with
  | none => rfl
  | some q => simp only [kilB, Option.map_some, kilC_fix h]
 | cells c =>
  simp only [idB, List.mem_flatMap, not_exists, not_and] at h
  simp only [kilB, map_fix (fun x hx => kilC_fix (h x hx))]
 | mp c =>
  simp only [idB, List.mem_flatMap, not_exists, not_and, List.mem_append, not_or] at h
  simp only [kilB, map_fix (l := c) (f := fun p => (kil1 i p.1, kil1 i p.2)) (fun x hx => by rw [kil1_fix (h x hx).1, kil1_fix (h x hx).2])]
 | rx z rs k c =>
  simp only [idB, List.mem_flatMap, not_exists, not_and] at h
  simp only [kilB, map_fix (fun x hx => kilC_fix (h x hx))]
 | _ => rfl
theorem kils_clean : ∀ (os : List Nat) (t : T), (∀ i ∈ os, ∀ s, i ∉ id2 (gs t s)) → ∀ s, gs (os.foldl (fun t i => kilT i t) t) s = gs t s := by
 intro os
 induction os with
 | nil => intro t _ s; rfl
 | cons i os ih =>
  intro t h s
  have e : ∀ s, gs (kilT i t) s = gs t s := fun s => by rw [kilT, gs_map _ rfl, kil2_fix (h i (by simp) s)]
  rw [List.foldl_cons, ih (kilT i t) (fun j hj s => by rw [e s]; exact h j (by simp [hj]) s) s, e s]
theorem kilH_clean : ∀ (os : List Nat) (h : H) (i : Nat), (∀ j ∈ os, ∀ b, h[i]? = some b → j ∉ idB b) → (kilH os h)[i]? = h[i]? := by
 intro os
 induction os with
 | nil => intro h i _; rfl
 | cons j os ih =>
  intro h i hc
  have e : (h.map (kilB j))[i]? = h[i]? := by
   rw [List.getElem?_map]
   cases hb : h[i]? with
   | none => rfl
   | some b => rw [Option.map_some, kilB_fix (hc j (by simp) b hb)]
  rw [kilH, ih (h.map (kilB j)) i (fun k hk b hb => hc k (by simp [hk]) b (by rw [← e]; exact hb)), e]
theorem reach_acc (h : H) : ∀ (n : Nat) (l acc : List Nat), ∀ i ∈ acc, i ∈ reach h n l acc := by
 intro n
 induction n with
 | zero => intro l acc i hi; exact hi
 | succ n ih =>
  intro l acc i hi
  cases l with
  | nil => exact hi
  | cons j r =>
   simp only [reach]
   cases has acc j
   ·exact ih _ _ i (by simp [hi])
   ·exact ih _ _ i hi
theorem reach_congr {h h' : H} : ∀ (n : Nat) (l acc : List Nat), (∀ i ∈ reach h n l acc, get? h' i = get? h i) → reach h' n l acc = reach h n l acc := by
 intro n
 induction n with
 | zero => intro l acc _; rfl
 | succ n ih =>
  intro l acc hh
  cases l with
  | nil => rfl
  | cons j r =>
   simp only [reach] at hh ⊢
   cases hj : has acc j
   ·rw [hj] at hh
    simp only [cond_false] at hh ⊢
    have e := hh j (reach_acc h n _ _ j (by simp))
    rw [e]
    exact ih _ _ hh
   ·rw [hj] at hh
    simp only [cond_true] at hh ⊢
    exact ih _ _ hh
theorem zset {α : Type} : ∀ (l : List (Nat × α)) (a : List α), (l.map (·.1)).Nodup → (∀ p ∈ l, p.1 < a.length) → (l.foldl (fun a p => a.set p.1 p.2) a).length = a.length ∧ (∀ p ∈ l, (l.foldl (fun a p => a.set p.1 p.2) a)[p.1]? = some p.2) ∧
  ∀ i, (∀ p ∈ l, p.1 ≠ i) → (l.foldl (fun a p => a.set p.1 p.2) a)[i]? = a[i]? := by
 intro l
 induction l with
 | nil => intro a _ _; exact ⟨rfl, by simp, fun _ _ => rfl⟩
 | cons p l ih =>
  intro a hn hl
  simp only [List.map_cons, List.nodup_cons] at hn
  obtain ⟨g1, g2, g3⟩ := ih (a.set p.1 p.2) hn.2 (fun q hq => by simpa using hl q (by simp [hq]))
  refine ⟨by simpa using g1, fun q hq => ?_, fun i hi => ?_⟩
  ·rcases List.mem_cons.1 hq with rfl | hq
   ·rw [List.foldl_cons, g3 q.1 (fun p hp e => hn.1 (List.mem_map.2 ⟨p, hp, e⟩)), List.getElem?_set, if_pos rfl, if_pos (hl q (by simp))]
   ·exact g2 q hq
  ·rw [List.foldl_cons, g3 i (fun q hq => hi q (by simp [hq])), List.getElem?_set, if_neg (hi p (by simp))]
theorem zipset {α : Type} {nf : List Nat} {vs a : List α} (hl : nf.length = vs.length) (hn : nf.Nodup) (hlt : ∀ i ∈ nf, i < a.length) :
  ((nf.zip vs).foldl (fun a p => a.set p.1 p.2) a).length = a.length ∧ (∀ (k i : Nat), nf[k]? = some i → ((nf.zip vs).foldl (fun a p => a.set p.1 p.2) a)[i]? = vs[k]?) ∧ ∀ i, i ∉ nf → ((nf.zip vs).foldl (fun a p => a.set p.1 p.2) a)[i]? = a[i]? := by
 have e : (nf.zip vs).map (·.1) = nf := List.map_fst_zip (by omega)
 have hm : ∀ p ∈ nf.zip vs, p.1 ∈ nf := fun p hp => by rw [← e]; exact List.mem_map.2 ⟨p, hp, rfl⟩
 obtain ⟨g1, g2, g3⟩ := zset (nf.zip vs) a (by rw [e]; exact hn) (fun p hp => hlt _ (hm p hp))
 refine ⟨g1, fun k i hk => ?_, fun i hi => g3 i fun p hp he => hi (he ▸ hm p hp)⟩
 have hkl : k < vs.length := by rw [← hl]; exact (List.getElem?_eq_some_iff.1 hk).1
 rw [List.getElem?_eq_getElem hkl]
 have hp : (i, vs[k]) ∈ nf.zip vs := List.mem_iff_getElem?.2 ⟨k, by rw [List.getElem?_zip_eq_some]; exact ⟨hk, List.getElem?_eq_getElem hkl⟩⟩
 exact g2 _ hp
section
variable {P : Program} {E : Ent} {n : Nat} {G : Nat → Prop} {ρ : List Value} {t : T} {h : H} {a : Act} {w : World}
theorem Conc.move {ns : List B} (hC : Conc E n G ρ t (h ++ ns) a w) {nf : List Nat} (hl : nf.length = ns.length) (hnd : nf.Nodup) (hnw : ∀ i ∈ nf, h[i]? = some .nw) (hlo : ∀ i ∈ nf, E.ρ.length ≤ i) (hE : E.ρ.length ≤ h.length) (hEh : E.h.length ≤ h.length) {f : Nat → Nat}
  (hf1 : ∀ k, k < h.length → f k = k) (hf2 : ∀ (k i : Nat), nf[k]? = some i → f (h.length + k) = i) (hht : ∀ s, ∀ i ∈ id2 (gs t s), i < h.length) (hhh : ∀ (i : Nat) (b : B), h[i]? = some b → ∀ j ∈ idB b, j < h.length) :
  ∃ ρ', Conc E n G ρ' t ((nf.zip (ns.map (rnB f))).foldl (fun a w => a.set w.1 w.2) h) a w ∧ ∀ (v : Value) (x : V), Rep2 G w ρ v x → Rep2 G w ρ' v (rn2 f x) := by
 have hO := hC.ok
 have hlen : ρ.length = h.length + ns.length := by rw [hO.hr.len, List.length_append]
 have hnlt : ∀ i ∈ nf, i < h.length := fun i hi => (List.getElem?_eq_some_iff.1 (hnw i hi)).1
 obtain ⟨a1, a2, a3⟩ := zipset (vs := ns.map (rnB f)) (a := h) (by simpa using hl) hnd hnlt
 obtain ⟨b1, b2, b3⟩ := zipset (vs := ρ.drop h.length) (a := ρ.take h.length) (by simp; omega) hnd (fun i hi => by have := hnlt i hi; simp; omega)
 generalize hh' : (nf.zip (ns.map (rnB f))).foldl (fun a w => a.set w.1 w.2) h = h' at *
 generalize hρ' : (nf.zip (ρ.drop h.length)).foldl (fun a w => a.set w.1 w.2) (ρ.take h.length) = ρ' at *
 have bl : ρ'.length = h.length := by rw [b1]; simp; omega
 have b2' : ∀ (k i : Nat), nf[k]? = some i → ρ'[i]? = ρ[h.length + k]? := fun k i hk => by rw [b2 k i hk, List.getElem?_drop]
 have b3' : ∀ i, i ∉ nf → i < h.length → ρ'[i]? = ρ[i]? := fun i hi hlt => by rw [b3 i hi, List.getElem?_take, if_pos hlt]
 have hun : ∀ i, Ref1 ρ i → i ∉ nf := by
  rintro i ⟨v, h1, h2⟩ hi
  have hx := hnw i hi
  have hlt := hnlt i hi
  have := hO.hr.rep i v .nw h1 (by rw [List.getElem?_append_left hlt]; exact hx)
  exact h2 this
 have hg : ∀ i, Ref1 ρ i → ρ'[f i]? = ρ[i]? := by
  intro i hi
  have hni := hun i hi
  obtain ⟨v, h1, _⟩ := hi
  have hil := (List.getElem?_eq_some_iff.1 h1).1
  by_cases hlt : i < h.length
  ·rw [hf1 i hlt, b3' i hni hlt]
  ·obtain ⟨j, hj⟩ : ∃ j, nf[i - h.length]? = some j := ⟨_, List.getElem?_eq_getElem (by omega)⟩
   have := hf2 _ _ hj
   have e : h.length + (i - h.length) = i := by omega
   rw [e] at this
   rw [this, b2' _ _ hj, e]
 have src : ∀ (i : Nat) (v : Value) (y : B), ρ'[i]? = some v → h'[i]? = some y → ∃ (o : Nat) (y0 : B), ρ[o]? = some v ∧ (h ++ ns)[o]? = some y0 ∧ (y0 = .no ↔ y = .no) ∧ gh y = gh y0 ∧ ((∃ k, nf[k]? = some i ∧ o = h.length + k) ∨ (i ∉ nf ∧ o = i ∧ i < h.length)) ∧ (RepB G w ρ v y0 → RepB G w ρ' v y) := by
  intro i v y h1 h2
  have hil : i < h.length := by rw [← bl]; exact (List.getElem?_eq_some_iff.1 h1).1
  by_cases hi : i ∈ nf
  ·obtain ⟨k, hk⟩ := List.mem_iff_getElem?.1 hi
   rw [b2' k i hk] at h1
   rw [a2 k i hk, List.getElem?_map, Option.map_eq_some_iff] at h2
   obtain ⟨y0, hy, rfl⟩ := h2
   refine ⟨h.length + k, y0, h1, by rw [List.getElem?_append_right (by omega)]; simpa using hy, (rnB_no f y0).symm, gh_rnB f y0, .inl ⟨k, hk, rfl⟩, fun hr => ?_⟩
   exact hr.ren fun j hj => hg j (hr.ref j hj)
  ·rw [b3' i hi hil] at h1
   rw [a3 i hi] at h2
   refine ⟨i, y, h1, by rw [List.getElem?_append_left hil]; exact h2, Iff.rfl, rfl, .inr ⟨hi, rfl, hil⟩, fun hr => ?_⟩
   exact hr.mono (fun _ h => h) (fun _ _ => rfl) (fun _ _ => rfl) (fun j hj => by
    have := hg j (hr.ref j hj)
    rwa [hf1 j (hhh i y h2 j hj)] at this)
 have back : ∀ b, own ρ' h' b → own ρ (h ++ ns) b := by
  rintro b ⟨i, v, y, h1, h2, h3, h4⟩
  obtain ⟨o, y0, g1, g2, g3, g6, _⟩ := src i v y h1 h2
  rw [bks, g6] at h4
  exact ⟨o, v, y0, g1, g2, fun e => h3 (g3.1 e), h4⟩
 refine ⟨ρ', ⟨⟨⟨by rw [bl, a1], fun i v y h1 h2 => ?_, fun i i' v v' y y' b h1 h2 h3 h4 h5 h6 h7 h8 => ?_, hO.hr.gl, fun b hb ho => hO.hr.gd b hb (back b ho), hO.hr.glb⟩, hO.gm, hO.go, fun b hb => hO.oo b (back b hb), hO.frame, hO.size, hO.os, hO.tape, hO.out, fun i v hv hs => ?_, by rw [a1]; exact hEh, fun r hr => let ⟨g1, g2, g3⟩ := hO.mks r hr; ⟨g1, g2, fun g4 => g3 (back r g4)⟩⟩,
  hC.df, hC.sz, fun s => (hC.tm s).mono (fun _ h => h) (fun _ _ => rfl) (fun j hj => ?_)⟩, fun v x hx => hx.ren fun j hj => hg j (hx.ref j hj)⟩
 ·obtain ⟨o, y0, g1, g2, _, _, _, g5⟩ := src i v y h1 h2
  exact g5 (hO.hr.rep o v y0 g1 g2)
 ·obtain ⟨o, y0, g1, g2, g3, g6, g4, _⟩ := src i v y h1 h2
  obtain ⟨o', y0', k1, k2, k3, k6, k4, _⟩ := src i' v' y' h4 h5
  rw [bks, g6] at h7
  rw [bks, k6] at h8
  have hoo := hO.hr.dis o o' v v' y0 y0' b g1 g2 (fun e => h3 (g3.1 e)) k1 k2 (fun e => h6 (k3.1 e)) h7 h8
  rcases g4 with ⟨k, hk, rfl⟩ | ⟨_, rfl, hlt⟩ <;> rcases k4 with ⟨k', hk', rfl⟩ | ⟨_, rfl, hlt'⟩
  ·have : k = k' := by omega
   subst this
   rw [hk] at hk'
   exact Option.some.inj hk'
  ·omega
  ·omega
  ·exact hoo
 ·have h0 := hO.hand i v hv hs
  have hiE := (List.getElem?_eq_some_iff.1 hv).1
  have hi : i ∉ nf := fun hi => by have := hlo i hi; omega
  rw [b3' i hi (by omega)]
  exact h0
 ·have := hg j ((hC.tm s).ref j hj)
  rwa [hf1 j (hht s j hj)] at this
end
end Go.Vx
namespace Go.Vx
section plain
def befF (acc : List (List Nat)) (d : List Nat) : List (List Nat) := acc ++ [dd (d ++ d.flatMap fun i => (acc[i]?).getD [])]
theorem mem_dd {k : Nat} : ∀ {l : List Nat}, k ∈ dd l ↔ k ∈ l
 | [] => Iff.rfl
 | i :: l => by
  have ih := mem_dd (k := k) (l := l)
  simp only [dd]
  cases h : has l i with
  | true =>
   rw [cond_true, ih, List.mem_cons]
   exact ⟨.inr, fun h' => h'.elim (fun e => e ▸ has_iff.1 h) id⟩
  | false => rw [cond_false, List.mem_cons, List.mem_cons, ih]
theorem befs_go : ∀ (ds acc : List (List Nat)), (∀ i, i < acc.length → (ds.foldl befF acc)[i]? = acc[i]?) ∧ (ds.foldl befF acc).length = acc.length + ds.length ∧
  ∀ (j : Nat) (d : List Nat), ds[j]? = some d → ∃ b : List Nat, (ds.foldl befF acc)[acc.length + j]? = some b ∧ (∀ k ∈ d, k ∈ b) ∧ ∀ k ∈ b, k ∈ d ∨ ∃ k' ∈ d, ∃ b' : List Nat, (ds.foldl befF acc)[k']? = some b' ∧ k ∈ b' := by
 intro ds
 induction ds with
 | nil => intro acc; simp
 | cons d ds ih =>
  intro acc
  obtain ⟨h1, h2, h3⟩ := ih (befF acc d)
  have hl : (befF acc d).length = acc.length + 1 := by simp [befF]
  have h1' : ∀ i, i < acc.length → (ds.foldl befF (befF acc d))[i]? = acc[i]? := fun i hi => by
   rw [h1 i (by omega)]
   simp only [befF]
   exact List.getElem?_append_left hi
  simp only [List.foldl_cons]
  refine ⟨h1', by rw [h2, hl, List.length_cons]; omega, fun j e hj => ?_⟩
  cases j with
  | zero =>
   simp at hj
   subst hj
   refine ⟨dd (d ++ d.flatMap fun i => (acc[i]?).getD []), ?_, fun k hk => mem_dd.2 (by simp [hk]), fun k hk => ?_⟩
   ·rw [h1 _ (by omega)]
    simp [befF]
   ·rw [mem_dd, List.mem_append] at hk
    rcases hk with hk | hk
    ·exact .inl hk
    ·rw [List.mem_flatMap] at hk
     obtain ⟨i, hi, hk⟩ := hk
     cases hai : acc[i]? with
     | none => rw [hai] at hk; cases hk
     | some b =>
      rw [hai] at hk
      exact .inr ⟨i, hi, b, by rw [h1' i (List.getElem?_eq_some_iff.1 hai).1, hai], hk⟩
  | succ j =>
   obtain ⟨b, g1, g2, g3⟩ := h3 j e (by simpa using hj)
   rw [hl] at g1
   exact ⟨b, by rw [← g1]; congr 1; omega, g2, g3⟩
theorem befs_ok (ds : List (List Nat)) : (befs ds).length = ds.length ∧ ∀ (j : Nat) (d : List Nat), ds[j]? = some d → ∃ b : List Nat, (befs ds)[j]? = some b ∧ (∀ k ∈ d, k ∈ b) ∧ ∀ k ∈ b, k ∈ d ∨ ∃ k' ∈ d, ∃ b' : List Nat, (befs ds)[k']? = some b' ∧ k ∈ b' := by
 obtain ⟨_, h2, h3⟩ := befs_go ds []
 have e : befs ds = ds.foldl befF [] := rfl
 rw [e]
 refine ⟨by simpa using h2, fun j d hj => ?_⟩
 have := h3 j d hj
 simpa using this
theorem full_ok : ∀ (bs : List (List Nat)) (k : Nat), fullFrom k bs = true → ∀ (j : Nat) (b : List Nat), bs[j]? = some b → ∀ i, i < k + j → i ∈ b := by
 intro bs
 induction bs with
 | nil => intro k _ j b hj; simp at hj
 | cons c bs ih =>
  intro k hk j b hj i hi
  simp only [fullFrom, Bool.and_eq_true, List.all_eq_true, List.mem_range] at hk
  cases j with
  | zero => simp at hj; subst hj; exact has_iff.1 (hk.1 i (by omega))
  | succ j => exact ih (k + 1) hk.2 j b (by simpa using hj) i (by omega)
theorem okB_ok : ∀ (bs : List (List Nat)) (k : Nat), okB k bs = true → ∀ (j : Nat) (b : List Nat), bs[j]? = some b → ∀ i ∈ b, i < k + j := by
 intro bs
 induction bs with
 | nil => intro k _ j b hj; simp at hj
 | cons c bs ih =>
  intro k hk j b hj i hi
  simp only [okB, Bool.and_eq_true, List.all_eq_true] at hk
  cases j with
  | zero => simp at hj; subst hj; have := (Nat.blt_eq ..).mp (hk.1 i hi); omega
  | succ j => have := ih (k + 1) hk.2 j b (by simpa using hj) i hi; omega
theorem okD_ok {q : List (I × List Nat)} (h : okD q = true) {i j : Nat} {x y : I × List Nat} (hi : q[i]? = some x) (hj : q[j]? = some y) (hne : i ≠ j) :
  (∀ s, x.1.d = some s → y.1.d ≠ some s) ∧ ∀ s, y.1.d = some s → s ∈ slots x.1.o ++ gslot x.1.g → j ∈ x.2 ∨ i ∈ y.2 := by
 simp only [okD, List.all_eq_true] at h
 have hx : (x, i) ∈ q.zipIdx := by rw [List.mem_zipIdx_iff_getElem?]; exact hi
 have hy : (y, j) ∈ q.zipIdx := by rw [List.mem_zipIdx_iff_getElem?]; exact hj
 have h1 := h _ hx _ hy
 simp only [nbeq hne, Bool.false_or, Bool.and_eq_true] at h1
 refine ⟨fun s h2 h3 => ?_, fun s h2 h3 => ?_⟩
 ·have := h1.1
  rw [h2, h3] at this
  simp at this
 ·have := h1.2
  rw [h2] at this
  simp only [Bool.or_eq_true, Bool.not_eq_true'] at this
  rcases this with (h4 | h4) | h4
  ·rw [Bool.eq_false_iff] at h4
   exact absurd (has_iff.2 h3) h4
  ·exact .inl (has_iff.1 h4)
  ·exact .inr (has_iff.1 h4)
end plain
section
variable {P : Program} {E : Ent} {n : Nat} {h : H} (ow : Nat → Bool)
def qok (P : Program) (i : I) (t : T) (h : H) (v : V) : Prop :=
 match i.g with
 | none => Qt ow P i.o t h v
 | some (j, x) => (∃ b, gs t j = .d (.bool b) ∧ (b = x → Qt ow P i.o t h v) ∧ (b ≠ x → v = .ud)) ∨ (gs t j = .ud ∧ v = .ud)
theorem Qt.congr {x : X} {t t' : T} {v : V} (hq : Qt ow P x t h v) (ht : ∀ s ∈ slots x, gs t' s = gs t s) : Qt ow P x t' h v :=
 fun t'' h1 h2 => hq t'' h1 fun s hs => (h2 s hs).trans (ht s hs)
theorem Qt.more {x : X} {t : T} {h1 : H} {v : V} (hq : Qt ow P x t h v) (hM : More h1 h) : Qt ow P x t h1 v :=
 fun t' h2 ht hM2 => hq t' h2 ht fun i b hb hn => hM2 i b (hM i b hb hn) hn
theorem qok.congr {i : I} {t t' : T} {v : V} (hq : qok ow P i t h v) (ht : ∀ s ∈ slots i.o ++ gslot i.g, gs t' s = gs t s) : qok ow P i t' h v := by
 unfold qok at hq ⊢
 have h1 : ∀ s ∈ slots i.o, gs t' s = gs t s := fun s hs => ht s (by simp [hs])
 split at hq
 ·exact Qt.congr ow hq h1
 ·rename_i j x hg
  have h2 : gs t' j = gs t j := ht j (by simp [gslot, hg])
  rw [h2]
  rcases hq with ⟨b, g1, g2, g3⟩ | hq
  ·exact .inl ⟨b, g1, fun hb => Qt.congr ow (g2 hb) h1, g3⟩
  ·exact .inr hq
theorem qok.more {i : I} {t : T} {h1 : H} {v : V} (hq : qok ow P i t h v) (hM : More h1 h) : qok ow P i t h1 v := by
 unfold qok at hq ⊢
 split at hq
 ·exact Qt.more ow hq hM
 ·rcases hq with ⟨b, g1, g2, g3⟩ | hq
  ·exact .inl ⟨b, g1, fun hb => Qt.more ow (g2 hb) hM, g3⟩
  ·exact .inr hq
structure R where
 v : V
 ws : List (Nat × B)
 rd : List Nat
 kl : List Nat
def stok (i : I) (t : T) (a : H) (r : R) : Prop :=
 ∃ x v n id off cs, i = ⟨none, .st x v n, none⟩ ∧ gv t x = .p id off ∧ get? a id = some (.cells cs) ∧ (Nat.beq (gv t v).cs.length n = true ∧ Nat.ble (off + n) cs.length = true ∧ (gv t v).cs.all stor = true) ∧ r = ⟨.ud, [(id, .cells (lay cs off (gv t v).cs))], [], []⟩
def alok (lo : Nat) (i : I) (a : H) (r : R) : Prop :=
 ∃ d id b v o, i = ⟨some d, o, none⟩ ∧ get? a id = some .nw ∧ lo ≤ id ∧ ((∃ cs, o = .al cs ∧ b = .cells cs ∧ v = .p id 0) ∨ (∃ pl, o = .mm pl ∧ b = mmB pl ∧ v = .mp id)) ∧ r = ⟨v, [(id, b)], [], []⟩
def clok (P : Program) (lo : Nat) (i : I) (t : T) (a : H) (r : R) : Prop :=
 ∃ f args ids r0 ns nf, i.g = none ∧ i.o = .cf f args ∧ ow f = false ∧ reach a 100 ((args.map fun x => clean1 (gv t x)).flatMap id2) [] = ids ∧ chk a ids ((args.map fun x => clean1 (gv t x)).flatMap id2) = true ∧ (args.map fun x => clean1 (gv t x)).flatMap os2 = [] ∧
  Sat P f ((args.map fun x => clean1 (gv t x)).map (rn2 (pos ids))) (ids.map fun i => rnB (pos ids) ((get? a i).getD .no)) (fun out h' => out = .ret r0 ∧ h' = (ids.map fun i => rnB (pos ids) ((get? a i).getD .no)) ++ ns) ∧
  nf.length = ns.length ∧ (ids.isEmpty && ns.isEmpty) = false ∧ (∀ i ∈ nf, lo ≤ i ∧ get? a i = some .nw) ∧ nf.Nodup ∧ r = ⟨rn2 (gm ids nf) r0, nf.zip (ns.map (rnB (gm ids nf))), ids, rowsOf a ids⟩
def lnok (P : Program) (lo : Nat) (i : I) (t : T) (a : H) (r : R) : Prop :=
 ∃ f args r0 ns nf, i.g = none ∧ i.o = .cf f args ∧ (ow f = false ∧ (args.map fun x => clean1 (gv t x)).flatMap id2 ≠ []) ∧ (Sat P f ((args.map fun x => clean1 (gv t x)).map (bor2 a)) [] fun out h' => out = .ret r0 ∧ h' = ns) ∧
  nf.length = ns.length ∧ ns.all sclB = true ∧ sclo r0 = true ∧ (∀ i ∈ nf, lo ≤ i ∧ get? a i = some .nw) ∧ nf.Nodup ∧ r = ⟨rn2 (fun k => (get? nf k).getD 0) r0, nf.zip ns, (args.map fun x => clean1 (gv t x)).flatMap id2, []⟩
def tkok (P : Program) (lo : Nat) (i : I) (t : T) (a : H) (r : R) : Prop :=
 ∃ f args r0 ns nf ids, i.g = none ∧ i.o = .cf f args ∧ (args.map fun x => clean1 (gv t x)).flatMap id2 = ids ∧ (ids.Nodup ∧ ∀ i ∈ ids, ∃ z rs, get? a i = some (.rows z rs)) ∧
  (Sat P f ((args.map fun x => clean1 (gv t x)).map (rn2 (pos ids))) (ids.map fun i => rnB (pos ids) ((get? a i).getD .no)) fun out h' => out = .ret r0 ∧ h' = List.replicate ids.length .no ++ ns) ∧
  nf.length = ns.length ∧ (∀ k ∈ ns.flatMap idB ++ id2 r0, ids.length ≤ k) ∧ (∀ i ∈ nf, lo ≤ i ∧ get? a i = some .nw) ∧ nf.Nodup ∧ r = ⟨rn2 (gt ids.length nf) r0, (ids.map fun i => (i, B.no)) ++ nf.zip (ns.map (rnB (gt ids.length nf))), ids, []⟩
def bsok (lo : Nat) (i : I) (t : T) (a : H) (r : R) : Prop :=
 ∃ d id z zero n parts ds, i = ⟨some d, .bs z zero n parts, none⟩ ∧ get? a id = some .nw ∧ lo ≤ id ∧ (parts.all fun p => Nat.beq (gv t p.2).cs.length z && Nat.ble (p.1 * z + z) (n * z) && (gv t p.2).cs.all stor) = true ∧
  (∀ (t' : T) (h' : H) (K' : List D → T → H → Prop), K' ds t' h' → frz (parts.foldl (fun cs p => lay cs (p.1 * z) (gv t p.2).cs) (List.replicate n zero).flatten) t' h' K') ∧ r = ⟨.os id, [(id, .rows z (chunk z n ds))], [], []⟩
def rok (P : Program) (lo : Nat) (i : I) (t : T) (a : H) (r : R) : Prop :=
 (r.ws = [] ∧ r.kl = [] ∧ qok ow P i t (keepH r.rd a) r.v) ∨ stok i t a r ∨ alok lo i a r ∨ clok ow P lo i t a r ∨ lnok ow P lo i t a r ∨ tkok P lo i t a r ∨ bsok lo i t a r
def wids (r : R) : List Nat := r.ws.map (·.1)
def mns (r : R) : List Nat := id2 r.v ++ r.ws.flatMap fun w => idB w.2
def wr (a : H) (r : R) : H := r.ws.foldl (fun a w => a.set w.1 w.2) a
theorem tk_fst {ids nf : List Nat} {ns : List B} {f : Nat → Nat} (hl : nf.length = ns.length) : ((ids.map fun i => (i, B.no)) ++ nf.zip (ns.map (rnB f))).map (·.1) = ids ++ nf := by
 rw [List.map_append, List.map_map]
 congr 1
 ·exact (List.map_congr_left fun _ _ => rfl).trans (List.map_id' ids)
 ·exact List.map_fst_zip (by simp [hl])
theorem rok.ws {P : Program} {lo : Nat} {i : I} {t : T} {a : H} {r : R} (h : rok ow P lo i t a r) : (r.ws.map (·.1)).Nodup ∧ ∀ w ∈ r.ws, w.1 < a.length := by
 rcases h with ⟨h, _⟩ | ⟨x, v, n, id, off, cs, _, _, h1, _, rfl⟩ | ⟨d, id, b, v, o, _, h1, _, _, rfl⟩ | ⟨f, args, ids, r0, ns, nf, _, _, _, _, _, _, _, hl, _, h1, h2, rfl⟩ | ⟨f, args, r0, ns, nf, _, _, _, _, hl, _, _, h1, h2, rfl⟩ | ⟨f, args, r0, ns, nf, ids, _, _, _, ⟨h3, h4⟩, _, hl, _, h1, h2, rfl⟩ | ⟨d, id, z, zero, n, parts, ds, _, h1, _, _, _, rfl⟩
 ·rw [h]; simp
 ·rw [get?_eq] at h1
  simpa using (List.getElem?_eq_some_iff.1 h1).1
 ·rw [get?_eq] at h1
  simpa using (List.getElem?_eq_some_iff.1 h1).1
 ·have e : (nf.zip (ns.map (rnB (gm ids nf)))).map (·.1) = nf := List.map_fst_zip (by simp [hl])
  refine ⟨by rw [e]; exact h2, fun w hw => ?_⟩
  have : w.1 ∈ nf := by rw [← e]; exact List.mem_map.2 ⟨w, hw, rfl⟩
  have := (h1 _ this).2
  rw [get?_eq] at this
  exact (List.getElem?_eq_some_iff.1 this).1
 ·have e : (nf.zip ns).map (·.1) = nf := List.map_fst_zip (by omega)
  refine ⟨by rw [e]; exact h2, fun w hw => ?_⟩
  have : w.1 ∈ nf := by rw [← e]; exact List.mem_map.2 ⟨w, hw, rfl⟩
  have := (h1 _ this).2
  rw [get?_eq] at this
  exact (List.getElem?_eq_some_iff.1 this).1
 ·have e : ((ids.map fun i => (i, B.no)) ++ nf.zip (ns.map (rnB (gt ids.length nf)))).map (·.1) = ids ++ nf := tk_fst hl
  refine ⟨?_, fun w hw => ?_⟩
  ·rw [e]
   refine List.nodup_append.2 ⟨h3, h2, fun i hi j hj hij => ?_⟩
   subst hij
   obtain ⟨z, rs, h5⟩ := h4 i hi
   rw [(h1 i hj).2] at h5
   cases h5
  ·have : w.1 ∈ ids ++ nf := by rw [← e]; exact List.mem_map.2 ⟨w, hw, rfl⟩
   rcases List.mem_append.1 this with h5 | h5
   ·obtain ⟨z, rs, h5⟩ := h4 _ h5
    rw [get?_eq] at h5
    exact (List.getElem?_eq_some_iff.1 h5).1
   ·have := (h1 _ h5).2
    rw [get?_eq] at this
    exact (List.getElem?_eq_some_iff.1 this).1
 ·rw [get?_eq] at h1
  simpa using (List.getElem?_eq_some_iff.1 h1).1
def puts : List I → List V → T → T
 | i :: r, v :: vs, t => puts r vs (putv i.d v t)
 | _, _, t => t
theorem gs_putv {d : Option Nat} {v : V} {t : T} {s : Nat} : gs (putv d v t) s = if d = some s then v else gs t s := by
 cases d with
 | none => simp [putv]
 | some i =>
  simp only [putv, gs_cons, Option.some.injEq]
  by_cases e : i = s
  ·subst e; simp
  ·rw [nbeq e, if_neg e]; rfl
theorem puts_congr : ∀ (q : List I) (vs : List V) (t t' : T), (∀ s, gs t' s = gs t s) → ∀ s, gs (puts q vs t') s = gs (puts q vs t) s := by
 intro q
 induction q with
 | nil => intro vs t t' ht s; exact ht s
 | cons i q ih =>
  intro vs t t' ht s
  cases vs with
  | nil => exact ht s
  | cons v vs => exact ih vs _ _ (fun s => by rw [gs_putv, gs_putv, ht s]) s
theorem puts_agree : ∀ (q : List I) (vs : List V) (t : T), vs.length = q.length → ∀ s, (∃ (k : Nat) (i : I), q[k]? = some i ∧ i.d = some s ∧ vs[k]? = some (gs (puts q vs t) s)) ∨ ((∀ (k : Nat) (i : I), q[k]? = some i → i.d ≠ some s) ∧ gs (puts q vs t) s = gs t s) := by
 intro q
 induction q with
 | nil => intro vs t _ s; exact .inr ⟨by simp, rfl⟩
 | cons i q ih =>
  intro vs t hl s
  cases vs with
  | nil => simp at hl
  | cons v vs =>
   simp only [puts]
   rcases ih vs (putv i.d v t) (by simpa using hl) s with ⟨k, j, h1, h2, h3⟩ | ⟨h1, h2⟩
   ·exact .inl ⟨k + 1, j, by simpa using h1, h2, by simpa using h3⟩
   ·rw [h2, gs_putv]
    by_cases hd : i.d = some s
    ·exact .inl ⟨0, i, rfl, hd, by simp [hd]⟩
    ·refine .inr ⟨fun k j hj => ?_, by rw [if_neg hd]⟩
     cases k with
     | zero => simp at hj; subst hj; exact hd
     | succ k => exact h1 k j (by simpa using hj)
theorem rok.congr {lo : Nat} {i : I} {t t' : T} {a : H} {r : R} (hq : rok ow P lo i t a r) (ht : ∀ s ∈ slots i.o ++ gslot i.g, gs t' s = gs t s) : rok ow P lo i t' a r := by
 rcases hq with ⟨h1, h2, h3⟩ | ⟨x, v, n, id, off, cs, rfl, h1, h2, h3, h4⟩ | hq | ⟨f, args, ids, r0, ns, nf, h1, h2, h⟩ | ⟨f, args, r0, ns, nf, h1, h2, h⟩ | ⟨f, args, r0, ns, nf, ids, h1, h2, h⟩ | ⟨d, id, z, zero, n, parts, ds, rfl, h1, h2, h3, h4, h5⟩
 ·exact .inl ⟨h1, h2, qok.congr ow h3 ht⟩
 ·have e1 : gv t' x = gv t x := gv_c fun s hs => ht s (by simp [slots, hs])
  have e2 : gv t' v = gv t v := gv_c fun s hs => ht s (by simp [slots, hs])
  exact .inr (.inl ⟨x, v, n, id, off, cs, rfl, by rw [e1]; exact h1, h2, by rw [e2]; exact h3, by rw [e2]; exact h4⟩)
 ·exact .inr (.inr (.inl hq))
 ·have e : (args.map fun x => clean1 (gv t' x)) = args.map fun x => clean1 (gv t x) := List.map_congr_left fun x hx => by
   rw [gv_c (t := t) (t' := t') fun s hs => ht s (by rw [h2]; simp only [slots, List.mem_append, List.mem_flatMap]; exact .inl ⟨x, hx, hs⟩)]
  refine .inr (.inr (.inr (.inl ⟨f, args, ids, r0, ns, nf, h1, h2, ?_⟩)))
  rw [e]
  exact h
 ·have e : (args.map fun x => clean1 (gv t' x)) = args.map fun x => clean1 (gv t x) := List.map_congr_left fun x hx => by
   rw [gv_c (t := t) (t' := t') fun s hs => ht s (by rw [h2]; simp only [slots, List.mem_append, List.mem_flatMap]; exact .inl ⟨x, hx, hs⟩)]
  refine .inr (.inr (.inr (.inr (.inl ⟨f, args, r0, ns, nf, h1, h2, ?_⟩))))
  rw [e]
  exact h
 ·have e : (args.map fun x => clean1 (gv t' x)) = args.map fun x => clean1 (gv t x) := List.map_congr_left fun x hx => by
   rw [gv_c (t := t) (t' := t') fun s hs => ht s (by rw [h2]; simp only [slots, List.mem_append, List.mem_flatMap]; exact .inl ⟨x, hx, hs⟩)]
  refine .inr (.inr (.inr (.inr (.inr (.inl ⟨f, args, r0, ns, nf, ids, h1, h2, ?_⟩)))))
  rw [e]
  exact h
 ·have e : ∀ p ∈ parts, gv t' p.2 = gv t p.2 := fun p hp => gv_c fun s hs => ht s (by simp only [slots, List.mem_append, List.mem_flatMap]; exact .inl ⟨p, hp, hs⟩)
  refine .inr (.inr (.inr (.inr (.inr (.inr ⟨d, id, z, zero, n, parts, ds, rfl, h1, h2, ?_, ?_, h5⟩)))))
  ·rw [← h3]
   exact all_c parts fun p hp => by rw [e p hp]
  ·rw [foldl_c (g := fun cs p => lay cs (p.1 * z) (gv t p.2).cs) parts _ fun p hp b => by rw [e p hp]]
   exact h4
theorem okL_iff {l : List (Nat × Nat)} {bef ids : List Nat} : okL l bef ids = true ↔ ∀ e ∈ l, e.2 ∈ bef ∨ e.1 ∉ ids := by
 simp only [okL, List.all_eq_true, Bool.or_eq_true, Bool.not_eq_true', has_iff, Bool.eq_false_iff]
 exact ⟨fun h e he => (h e he).imp id fun h' hi => h' (has_iff.2 hi), fun h e he => (h e he).imp id fun h' hi => h' (has_iff.1 hi)⟩
theorem okL_app {l r : List (Nat × Nat)} {bef ids : List Nat} : okL (l ++ r) bef ids = true ↔ okL l bef ids = true ∧ okL r bef ids = true := by
 simp only [okL, List.all_append, Bool.and_eq_true]
def cfl (r r' : R) : Prop := (∃ i ∈ wids r, i ∈ r'.rd ∨ i ∈ wids r') ∨ (∃ i ∈ r.rd, i ∈ wids r') ∨ ∃ i ∈ r.kl, i ∈ mns r'
def con (g : Lg) (bef : List Nat) (r : R) : Prop := okL g.lw bef r.rd = true ∧ okL g.lw bef (wids r) = true ∧ okL g.lr bef (wids r) = true ∧ okL g.lk bef (mns r) = true
theorem con.put {g : Lg} {bef rd kl fr : List Nat} {ws : List (Nat × B)} {r : R} (h : con (g.put rd ws kl fr) bef r) : con g bef r :=
 ⟨(okL_app.1 h.1).2, (okL_app.1 h.2.1).2, (okL_app.1 h.2.2.1).2, (okL_app.1 h.2.2.2).2⟩
theorem con.cfl {g : Lg} {bef fr : List Nat} {r r' : R} (h : con (g.put r.rd r.ws r.kl fr) bef r') (hc : cfl r r') : g.p ∈ bef := by
 obtain ⟨h1, h2, h3, h4⟩ := h
 replace h1 := okL_iff.1 (okL_app.1 h1).1
 replace h2 := okL_iff.1 (okL_app.1 h2).1
 replace h3 := okL_iff.1 (okL_app.1 h3).1
 replace h4 := okL_iff.1 (okL_app.1 h4).1
 have hw : ∀ i ∈ wids r, (i, g.p) ∈ r.ws.map fun w => (w.1, g.p) := fun i hi => by
  obtain ⟨w, hw, rfl⟩ := List.mem_map.1 hi
  exact List.mem_map.2 ⟨w, hw, rfl⟩
 rcases hc with ⟨i, hi, hc | hc⟩ | ⟨i, hi, hc⟩ | ⟨i, hi, hc⟩
 ·exact (h1 _ (hw i hi)).resolve_right fun hn => hn hc
 ·exact (h2 _ (hw i hi)).resolve_right fun hn => hn hc
 ·exact (h3 (i, g.p) (List.mem_map.2 ⟨i, hi, rfl⟩)).resolve_right fun hn => hn hc
 ·exact (h4 (i, g.p) (List.mem_map.2 ⟨i, hi, rfl⟩)).resolve_right fun hn => hn hc
structure Ref (P : Program) (lo : Nat) (h0 : H) (q : List (I × List Nat)) (t : T) (a : H) (g : Lg) (rs : List R) (t' : T) (a' : H) : Prop where
 r1 : rs.length = q.length
 r2 : ∀ s, gs t' s = gs (puts (q.map (·.1)) (rs.map (·.v)) t) s
 r3 : ∀ (j : Nat) (x : I × List Nat), q[j]? = some x → ∃ r, rs[j]? = some r ∧ rok ow P lo x.1 (puts ((q.take j).map (·.1)) ((rs.take j).map (·.v)) t) ((rs.take j).foldl wr a) r
 r4 : a' = rs.foldl wr a
 r5 : ∀ (j : Nat) (r : R) (x : I × List Nat), rs[j]? = some r → q[j]? = some x → con g x.2 r
 r6 : ∀ (j k : Nat) (r r' : R) (y : I × List Nat), rs[j]? = some r → rs[k]? = some r' → q[k]? = some y → j < k → cfl r r' → g.p + j ∈ y.2
 r7 : ∀ (j : Nat) (r : R), rs[j]? = some r → ∀ id ∈ r.kl, (∀ p ∈ t, id ∉ id2 p.2) ∧ (∀ (i : Nat) (b : B), h0[i]? = some b → i ∉ r.rd → id ∉ idB b) ∧ (∀ w ∈ g.ct, w.1 ∉ r.rd → id ∉ idB w.2) ∧
  ∀ (k : Nat) (r' : R) (x : I × List Nat), k < j → rs[k]? = some r' → q[k]? = some x → (∀ d, x.1.d = some d → id ∉ id2 r'.v) ∧ ∀ w ∈ r'.ws, w.1 ∉ r.rd → id ∉ idB w.2
theorem Ref.cons {lo : Nat} {h0 : H} {x : I × List Nat} {q : List (I × List Nat)} {t t1 t' : T} {a a1 a' : H} {g : Lg} {rs : List R} (r : R) (fr : List Nat) (hr : Ref ow P lo h0 q t1 a1 (g.put r.rd r.ws r.kl fr) rs t' a') (ht1 : ∀ s, gs t1 s = gs (putv x.1.d r.v t) s)
  (hsub : ∀ p ∈ t, p ∈ t1) (hin : ∀ d, x.1.d = some d → (d, r.v) ∈ t1) (hv : rok ow P lo x.1 t a r) (ha : a1 = wr a r) (hc : con g x.2 r)
  (hk : ∀ id ∈ r.kl, (∀ p ∈ t, id ∉ id2 p.2) ∧ (∀ (i : Nat) (b : B), h0[i]? = some b → i ∉ r.rd → id ∉ idB b) ∧ ∀ w ∈ g.ct, w.1 ∉ r.rd → id ∉ idB w.2) : Ref ow P lo h0 (x :: q) t a g (r :: rs) t' a' := by
 refine ⟨by simp [hr.r1], fun s => ?_, fun j y hj => ?_, by rw [hr.r4, ha]; rfl, fun j r' y hj hy => ?_, fun j k r1 r2 y hj hk hy hlt hcf => ?_, fun j r1 hj id hid => ?_⟩
 ·rw [hr.r2 s]
  exact puts_congr _ _ _ _ ht1 s
 ·cases j with
  | zero => simp at hj; subst hj; exact ⟨r, rfl, hv⟩
  | succ j =>
   obtain ⟨u, g1, g2⟩ := hr.r3 j y (by simpa using hj)
   refine ⟨u, by simpa using g1, ?_⟩
   simp only [List.take_succ_cons, List.map_cons, puts, List.foldl_cons]
   rw [← ha]
   exact rok.congr ow g2 fun s _ => (puts_congr _ _ _ _ ht1 s).symm
 ·cases j with
  | zero => simp at hj hy; subst hj hy; exact hc
  | succ j => exact (hr.r5 j r' y (by simpa using hj) (by simpa using hy)).put
 ·cases k with
  | zero => omega
  | succ k =>
   cases j with
   | zero =>
    simp at hj; subst hj
    exact (hr.r5 k r2 y (by simpa using hk) (by simpa using hy)).cfl hcf
   | succ j =>
    have := hr.r6 j k r1 r2 y (by simpa using hj) (by simpa using hk) (by simpa using hy) (by omega) hcf
    have e : (g.put r.rd r.ws r.kl fr).p = g.p + 1 := rfl
    rw [e] at this
    have e2 : g.p + (j + 1) = g.p + 1 + j := by omega
    rw [e2]; exact this
 ·cases j with
  | zero =>
   simp at hj; subst hj
   obtain ⟨k1, k2, k3⟩ := hk id hid
   exact ⟨k1, k2, k3, fun k r' x hk => by omega⟩
  | succ j =>
   obtain ⟨k1, k2, k3, k4⟩ := hr.r7 j r1 (by simpa using hj) id hid
   refine ⟨fun p hp => k1 p (hsub p hp), k2, fun w hw => k3 w (List.mem_append_right _ hw), fun k r' y hlt hk hy => ?_⟩
   cases k with
   | zero =>
    simp at hk hy; subst hk hy
    exact ⟨fun d hd => k1 _ (hin d hd), fun w hw => k3 w (List.mem_append_left _ hw)⟩
   | succ k => exact k4 k r' y (by omega) (by simpa using hk) (by simpa using hy)
theorem free_iff {kl l : List Nat} : free kl l = true ↔ ∀ id ∈ kl, id ∉ l := by
 simp only [free, List.all_eq_true, Bool.not_eq_true', Bool.eq_false_iff]
 exact ⟨fun h id h1 h2 => h id h2 (has_iff.2 h1), fun h id h1 h2 => h id (has_iff.1 h2) h1⟩
theorem rq_ref {lo : Nat} {h0 : H} {K : T → H → Prop} : ∀ (q : List (I × List Nat)) (t : T) (a : H) (g : Lg), rq (Sat P) ow lo h0 q t a g K → ∃ (rs : List R) (t' : T) (a' : H), K t' a' ∧ Ref ow P lo h0 q t a g rs t' a' := by
 intro q
 induction q with
 | nil => intro t a g hk; exact ⟨[], t, a, hk, rfl, fun _ => rfl, by simp, rfl, by simp, by simp, by simp⟩
 | cons x q ih =>
  intro t a g hk
  have fin : ∀ (r : R) (t1 : T) (a1 : H) (fr : List Nat), (∀ s, gs t1 s = gs (putv x.1.d r.v t) s) → (∀ p ∈ t, p ∈ t1) → (∀ d, x.1.d = some d → (d, r.v) ∈ t1) → rok ow P lo x.1 t a r → a1 = wr a r → con g x.2 r →
    (∀ id ∈ r.kl, (∀ p ∈ t, id ∉ id2 p.2) ∧ (∀ (i : Nat) (b : B), h0[i]? = some b → i ∉ r.rd → id ∉ idB b) ∧ ∀ w ∈ g.ct, w.1 ∉ r.rd → id ∉ idB w.2) → rq (Sat P) ow lo h0 q t1 a1 (g.put r.rd r.ws r.kl fr) K →
    ∃ (rs : List R) (t' : T) (a' : H), K t' a' ∧ Ref ow P lo h0 (x :: q) t a g rs t' a' := by
   intro r t1 a1 fr ht1 hsub hin hv ha hc hkl hk
   obtain ⟨rs, t', a', hK, hR⟩ := ih t1 a1 _ hk
   exact ⟨r :: rs, t', a', hK, Ref.cons ow r fr hR ht1 hsub hin hv ha hc hkl⟩
  have nokill : ∀ (r : R), r.kl = [] → (∀ id ∈ r.kl, (∀ p ∈ t, id ∉ id2 p.2) ∧ (∀ (i : Nat) (b : B), h0[i]? = some b → i ∉ r.rd → id ∉ idB b) ∧ ∀ w ∈ g.ct, w.1 ∉ r.rd → id ∉ idB w.2) := by
   intro r hr id hid
   rw [hr] at hid
   cases hid
  have okn : ∀ (l : List (Nat × Nat)) (bef : List Nat), okL l bef [] = true := fun l bef => okL_iff.2 fun e _ => .inr (by simp)
  have nwok : ∀ {nf : List Nat}, (nf.all fun i => Nat.ble lo i && isNw ((get? a i).getD .no)) = true → ∀ i ∈ nf, lo ≤ i ∧ get? a i = some .nw := fun d3 i hi => by
   have := List.all_eq_true.1 d3 i hi
   simp only [Bool.and_eq_true] at this
   refine ⟨Nat.le_of_ble_eq_true this.1, ?_⟩
   have h2 := this.2
   cases hh : get? a i with
   | none => rw [hh] at h2; cases h2
   | some b => rw [hh] at h2; cases b <;> first | rfl | cases h2
  have putin : ∀ (v : V) (t0 : T) (d : Nat), x.1.d = some d → (d, v) ∈ putv x.1.d v t0 := by
   intro v t0 d hd
   rw [hd]; simp [putv]
  have putsub : ∀ (v : V) (t0 : T), ∀ p ∈ t0, p ∈ putv x.1.d v t0 := by
   intro v t0 p hp
   cases x.1.d with
   | none => exact hp
   | some d => simp [putv, hp]
  have quiet : ∀ (rd : List Nat) (v : V) (t0 : T), (∀ s, gs (putv x.1.d v t0) s = gs (putv x.1.d v t) s) → (∀ p ∈ t, p ∈ t0) → qok ow P x.1 t (keepH rd a) v → okL g.lw x.2 rd = true → okL g.lk x.2 (id2 v) = true → rq (Sat P) ow lo h0 q (putv x.1.d v t0) a (g.put rd [] [] g.fr) K → ∃ (rs : List R) (t' : T) (a' : H), K t' a' ∧ Ref ow P lo h0 (x :: q) t a g rs t' a' :=
   fun rd v t0 ht0 hsub hv h1 h2 hk => fin ⟨v, [], rd, []⟩ _ a g.fr ht0 (fun p hp => putsub v t0 p (hsub p hp)) (fun d hd => putin v t0 d hd) (.inl ⟨rfl, rfl, hv⟩) rfl ⟨h1, okn _ _, okn _ _, by simpa [mns] using h2⟩ (nokill _ rfl) hk
  have two : rqg (Sat P) ow x.1.o x (rq (Sat P) ow lo h0 q) t a g K → ∃ (rs : List R) (t' : T) (a' : H), K t' a' ∧ Ref ow P lo h0 (x :: q) t a g rs t' a' := by
   intro hk
   unfold rqg at hk
   cases hg : x.1.g with
   | none =>
    rw [hg] at hk
    simp only [rqq, fl_eq] at hk
    obtain ⟨c1, hk⟩ := hk
    obtain ⟨v, ⟨c2, h1⟩, h2⟩ := qx_all ow hk
    rw [Put_putv] at h1
    exact quiet _ v t (fun _ => rfl) (fun _ h => h) (by unfold qok; rw [hg]; exact h2) c1 c2 h1
   | some p =>
    obtain ⟨j, y⟩ := p
    rw [hg] at hk
    simp only at hk
    split at hk
    ·rename_i b hb
     have kn : ∀ s, gs ((j, .d (.bool b)) :: t) s = gs t s := gs_know hb
     have kp : ∀ v s, gs (putv x.1.d v ((j, .d (.bool b)) :: t)) s = gs (putv x.1.d v t) s := fun v s => by rw [gs_putv, gs_putv, kn]
     have yes : b = y → rqq (Sat P) ow x.1.o x (rq (Sat P) ow lo h0 q) ((j, .d (.bool b)) :: t) a g K → ∃ (rs : List R) (t' : T) (a' : H), K t' a' ∧ Ref ow P lo h0 (x :: q) t a g rs t' a' := by
      intro hby hk
      simp only [rqq, fl_eq] at hk
      obtain ⟨c1, hk⟩ := hk
      obtain ⟨v, ⟨c2, h1⟩, h2⟩ := qx_all ow hk
      rw [Put_putv] at h1
      refine quiet _ v _ (kp v) (fun p hp => by simp [hp]) ?_ c1 c2 h1
      unfold qok
      rw [hg]
      exact .inl ⟨b, hb, fun _ => Qt.congr ow h2 fun s _ => (kn s).symm, fun hn => absurd hby hn⟩
     have no : b ≠ y → (Put x.1.d .ud ((j, .d (.bool b)) :: t) fun t => rq (Sat P) ow lo h0 q t a (g.put [] [] [] g.fr) K) → ∃ (rs : List R) (t' : T) (a' : H), K t' a' ∧ Ref ow P lo h0 (x :: q) t a g rs t' a' := by
      intro hby hk
      rw [Put_putv] at hk
      refine quiet [] .ud _ (kp .ud) (fun p hp => by simp [hp]) ?_ (okn _ _) (okn _ _) hk
      unfold qok
      rw [hg]
      exact .inl ⟨b, hb, fun hn => absurd hn hby, fun _ => rfl⟩
     cases b <;> cases y <;> simp only [sp, cond_true, cond_false] at hk
     ·exact yes rfl hk
     ·exact no (by simp) hk
     ·exact no (by simp) hk
     ·exact yes rfl hk
    ·rename_i hb
     rw [Put_putv] at hk
     exact quiet [] .ud _ (fun _ => rfl) (fun _ h => h) (by unfold qok; rw [hg]; exact .inr ⟨hb, rfl⟩) (okn _ _) (okn _ _) hk
    ·exact hk.elim
  by_cases hal : ∃ cs, x.1.o = .al cs
  ·obtain ⟨cs, ho⟩ := hal
   simp only [rq_cons, rq1, ho] at hk
   split at hk
   ·rename_i d id fr' hg hd hfr
    split at hk
    ·rename_i hnw
     obtain ⟨hcc, hk⟩ := hk
     rw [fl_eq] at hk
     simp only [okW, Bool.and_eq_true] at hcc
     obtain ⟨⟨c6, c4, c5⟩, c7⟩ := hcc
     have hx : x.1 = ⟨some d, .al cs, none⟩ := by
      cases hx1 : x.1
      rw [hx1] at ho hg hd
      simp only at ho hg hd
      subst ho hg hd
      rfl
     exact fin ⟨.p id 0, [(id, .cells cs)], [], []⟩ _ _ fr' (fun s => by rw [hd]; rfl) (fun p hp => by simp [hp]) (fun d' hd' => by rw [hd] at hd'; cases hd'; simp) (.inr (.inr (.inl ⟨d, id, _, _, _, hx, hnw, Nat.le_of_ble_eq_true c6, .inl ⟨cs, rfl, rfl, rfl⟩, rfl⟩))) rfl
      ⟨okn _ _, c4, c5, by simpa [mns, id2, id1, id0, idc] using c7⟩ (nokill _ rfl) hk
    ·exact hk.elim
   ·exact hk.elim
  by_cases hmm : ∃ pl, x.1.o = .mm pl
  ·obtain ⟨pl, ho⟩ := hmm
   simp only [rq_cons, rq1, ho] at hk
   split at hk
   ·rename_i d id fr' hg hd hfr
    split at hk
    ·rename_i hnw
     obtain ⟨hcc, hk⟩ := hk
     rw [fl_eq] at hk
     simp only [okW, Bool.and_eq_true] at hcc
     obtain ⟨⟨c6, c4, c5⟩, c7⟩ := hcc
     have hx : x.1 = ⟨some d, .mm pl, none⟩ := by
      cases hx1 : x.1
      rw [hx1] at ho hg hd
      simp only at ho hg hd
      subst ho hg hd
      rfl
     exact fin ⟨.mp id, [(id, mmB pl)], [], []⟩ _ _ fr' (fun s => by rw [hd]; rfl) (fun p hp => by simp [hp]) (fun d' hd' => by rw [hd] at hd'; cases hd'; simp) (.inr (.inr (.inl ⟨d, id, _, _, _, hx, hnw, Nat.le_of_ble_eq_true c6, .inr ⟨pl, rfl, rfl, rfl⟩, rfl⟩))) rfl
      ⟨okn _ _, c4, c5, by simpa [mns, id2, id1, id0, idc, idB_mmB] using c7⟩ (nokill _ rfl) hk
    ·exact hk.elim
   ·exact hk.elim
  by_cases hst : ∃ y v n, x.1.o = .st y v n
  ·obtain ⟨y, v, n, ho⟩ := hst
   simp only [rq_cons, rq1, ho] at hk
   split at hk
   ·rename_i id off hg hd hy
    split at hk
    ·rename_i cs hcs
     rw [fl_eq] at hk
     obtain ⟨⟨⟨c1, c2, c3⟩, c4⟩, hk⟩ := hk
     rw [fl_eq] at hk
     simp only [okW, Bool.and_eq_true] at c4
     have hx : x.1 = ⟨none, .st y v n, none⟩ := by
      cases hx1 : x.1
      rw [hx1] at ho hg hd
      simp only at ho hg hd
      subst ho hg hd
      rfl
     exact fin ⟨.ud, [(id, .cells (lay cs off (gv t v).cs))], [], []⟩ t _ g.fr (fun s => by rw [hd]; rfl) (fun _ h => h) (fun d' hd' => by rw [hd] at hd'; cases hd') (.inr (.inl ⟨y, v, n, id, off, cs, hx, hy, hcs, ⟨c1, c2, c3⟩, rfl⟩)) rfl
      ⟨okn _ _, c4.1.1, c4.1.2, by simpa [mns, id2, id1, id0, idc] using c4.2⟩ (nokill _ rfl) hk
    ·exact hk.elim
   ·exact hk.elim
  by_cases hbs : ∃ z zero n parts, x.1.o = .bs z zero n parts
  ·obtain ⟨z, zero, n, parts, ho⟩ := hbs
   simp only [rq_cons, rq1, ho] at hk
   rcases bsn_or hk with hk | hk
   ·split at hk
    ·rename_i d id fr' hg hd hfr
     split at hk
     ·rename_i hnw
      rw [fl_eq] at hk
      obtain ⟨hc, hk⟩ := hk
      obtain ⟨ds, hk, hfz⟩ := frz_q _ _ hk
      rw [fl_eq] at hk
      obtain ⟨hcc, hk⟩ := hk
      rw [fl_eq] at hk
      simp only [okW, Bool.and_eq_true] at hcc
      obtain ⟨⟨c6, c4, c5⟩, c7⟩ := hcc
      have hx : x.1 = ⟨some d, .bs z zero n parts, none⟩ := by
       cases hx1 : x.1
       rw [hx1] at ho hg hd
       simp only at ho hg hd
       subst ho hg hd
       rfl
      exact fin ⟨.os id, [(id, .rows z (chunk z n ds))], [], []⟩ _ _ fr' (fun s => by rw [hd]; rfl) (fun p hp => by simp [hp]) (fun d' hd' => by rw [hd] at hd'; cases hd'; simp) (.inr (.inr (.inr (.inr (.inr (.inr ⟨d, id, z, zero, n, parts, ds, hx, hnw, Nat.le_of_ble_eq_true c6, hc, hfz, rfl⟩)))))) rfl
       ⟨okn _ _, c4, c5, by simpa [mns, id2, id1, id0, idc, idB] using c7⟩ (nokill _ rfl) hk
     ·exact hk.elim
    ·exact hk.elim
   ·exact two (by rw [ho]; exact hk)
  by_cases hcf : ∃ f args, x.1.o = .cf f args
  ·obtain ⟨f, args, ho⟩ := hcf
   simp only [rq_cons, rq1, ho] at hk
   rcases cfo_or hk with hk | hk
   ·exact two (by rw [ho]; exact hk)
   rcases cfo_or hk with hk | hk | hk
   ·unfold rqc at hk
    split at hk
    ·rename_i hg
     simp only [fl_eq] at hk
     obtain ⟨hof, hch, r0, ns, hS, ⟨c1, c2, c3⟩, hk⟩ := hk
     rw [Put_putv] at hk
     simp only [Bool.and_eq_true, okW] at hch c1 c2 c3
     obtain ⟨⟨⟨d1, d2⟩, d3⟩, d4⟩ := c1
     obtain ⟨⟨e1, e2, e3⟩, e4⟩ := c2
     obtain ⟨⟨f1, f2⟩, f3⟩ := c3
     have hlen := nbq d1
     refine fin ⟨_, _, _, _⟩ _ _ (g.fr.drop ns.length) (fun _ => rfl) (putsub _ t) (putin _ t) (.inr (.inr (.inr (.inl ⟨f, args, _, r0, ns, _, hg, ho, hof, rfl, hch.1, List.isEmpty_iff.1 hch.2, hS, hlen, (Bool.not_eq_true' _).mp d2, fun i hi => ?_, nodup_of d4, rfl⟩)))) rfl ⟨e1, ?_, ?_, e4⟩ (fun id hid => ⟨fun p hp => ?_, fun i b hb hi => ?_, fun w hw hi => ?_⟩) hk
     ·have := List.all_eq_true.1 d3 i hi
      simp only [Bool.and_eq_true] at this
      refine ⟨Nat.le_of_ble_eq_true this.1, ?_⟩
      have h2 := this.2
      cases hh : get? a i with
      | none => rw [hh] at h2; cases h2
      | some b => rw [hh] at h2; cases b <;> first | rfl | cases h2
     ·have e : wids ⟨rn2 (gm (reach a 100 ((args.map fun x => clean1 (gv t x)).flatMap id2) []) (g.fr.take ns.length)) r0, (g.fr.take ns.length).zip (ns.map (rnB (gm (reach a 100 ((args.map fun x => clean1 (gv t x)).flatMap id2) []) (g.fr.take ns.length)))), reach a 100 ((args.map fun x => clean1 (gv t x)).flatMap id2) [], rowsOf a (reach a 100 ((args.map fun x => clean1 (gv t x)).flatMap id2) [])⟩ = g.fr.take ns.length := List.map_fst_zip (by rw [List.length_map]; omega)
      rw [e]; exact e2
     ·have e : wids ⟨rn2 (gm (reach a 100 ((args.map fun x => clean1 (gv t x)).flatMap id2) []) (g.fr.take ns.length)) r0, (g.fr.take ns.length).zip (ns.map (rnB (gm (reach a 100 ((args.map fun x => clean1 (gv t x)).flatMap id2) []) (g.fr.take ns.length)))), reach a 100 ((args.map fun x => clean1 (gv t x)).flatMap id2) [], rowsOf a (reach a 100 ((args.map fun x => clean1 (gv t x)).flatMap id2) [])⟩ = g.fr.take ns.length := List.map_fst_zip (by rw [List.length_map]; omega)
      rw [e]; exact e3
     ·simp only [tcl, Bool.or_eq_true, List.isEmpty_iff, List.all_eq_true] at f1
      rcases f1 with f1 | f1
      ·rw [f1] at hid; cases hid
      ·exact free_iff.1 (f1 p hp) id hid
     ·simp only [hcl, Bool.or_eq_true, List.isEmpty_iff, List.all_eq_true] at f2
      rcases f2 with f2 | f2
      ·rw [f2] at hid; cases hid
      ·rcases f2 (b, i) (by rw [List.mem_zipIdx_iff_getElem?]; exact hb) with f2 | f2
       ·exact absurd (has_iff.1 f2) hi
       ·exact free_iff.1 f2 id hid
     ·simp only [ccl, Bool.or_eq_true, List.isEmpty_iff, List.all_eq_true] at f3
      rcases f3 with f3 | f3
      ·rw [f3] at hid; cases hid
      ·rcases f3 w hw with f3 | f3
       ·exact absurd (has_iff.1 f3) hi
       ·exact free_iff.1 f3 id hid
    ·exact hk.elim
   ·unfold rql at hk
    split at hk
    ·rename_i hg
     simp only [fl_eq] at hk
     obtain ⟨hof, r0, ns, hS, ⟨c1, c2⟩, hk⟩ := hk
     rw [Put_putv] at hk
     simp only [Bool.and_eq_true, okW] at c1 c2
     obtain ⟨⟨⟨⟨d1, d2⟩, d3⟩, d4⟩, d5⟩ := c1
     obtain ⟨⟨e1, e2, e3⟩, e4⟩ := c2
     have hlen := nbq d1
     have e : wids ⟨rn2 (fun k => (get? (g.fr.take ns.length) k).getD 0) r0, (g.fr.take ns.length).zip ns, (args.map fun x => clean1 (gv t x)).flatMap id2, []⟩ = g.fr.take ns.length := List.map_fst_zip (by omega)
     have e0 : ∀ w ∈ (g.fr.take ns.length).zip ns, idB w.2 = [] := fun w hw => by
      have h1 := List.all_eq_true.1 d4 w.2 (List.of_mem_zip hw).2
      generalize w.2 = b at h1
      cases b <;> first | rfl | cases h1
     refine fin ⟨_, _, _, _⟩ _ _ (g.fr.drop ns.length) (fun _ => rfl) (putsub _ t) (putin _ t) (.inr (.inr (.inr (.inr (.inl ⟨f, args, r0, ns, _, hg, ho, hof, hS, hlen, d4, d5, nwok d2, nodup_of d3, rfl⟩))))) rfl ⟨e1, by rw [e]; exact e2, by rw [e]; exact e3, ?_⟩ (nokill _ rfl) hk
     have e5 : ((g.fr.take ns.length).zip ns).flatMap (fun w => idB w.2) = [] := List.flatMap_eq_nil_iff.2 e0
     simp only [mns, e5, List.append_nil]
     exact e4
    ·exact hk.elim
   ·unfold rqo at hk
    split at hk
    ·rename_i hg
     simp only [fl_eq] at hk
     obtain ⟨r0, ns, hS, ⟨c1, c2⟩, hk⟩ := hk
     rw [Put_putv] at hk
     simp only [Bool.and_eq_true, okW] at c1 c2
     obtain ⟨⟨⟨⟨⟨d0, d00⟩, d1⟩, d2⟩, d3⟩, d4⟩ := c1
     obtain ⟨⟨e1, e2, e3⟩, e4⟩ := c2
     have hlen := nbq d1
     generalize hids : (args.map fun x => clean1 (gv t x)).flatMap id2 = ids at *
     have e : wids ⟨rn2 (gt ids.length (g.fr.take ns.length)) r0, (ids.map fun i => (i, B.no)) ++ (g.fr.take ns.length).zip (ns.map (rnB (gt ids.length (g.fr.take ns.length)))), ids, []⟩ = ids ++ g.fr.take ns.length := tk_fst hlen
     refine fin ⟨_, _, _, _⟩ _ _ (g.fr.drop ns.length) (fun _ => rfl) (putsub _ t) (putin _ t) (.inr (.inr (.inr (.inr (.inr (.inl ⟨f, args, r0, ns, _, ids, hg, ho, hids, ⟨nodup_of d0, fun i hi => ?_⟩, hS, hlen, fun k hk => ?_, nwok d2, nodup_of d3, rfl⟩)))))) rfl ⟨e1, by rw [e]; exact e2, by rw [e]; exact e3, e4⟩ (nokill _ rfl) hk
     ·have h2 := List.all_eq_true.1 d00 i hi
      cases hh : get? a i with
      | none => rw [hh] at h2; cases h2
      | some b => rw [hh] at h2; cases b <;> first | exact ⟨_, _, rfl⟩ | cases h2
     ·exact Nat.le_of_ble_eq_true (List.all_eq_true.1 d4 k hk)
    ·exact hk.elim
  ·refine two ?_
   rw [rq_cons] at hk
   unfold rq1 at hk
   split at hk
   ·exact absurd ⟨_, ‹_›⟩ hal
   ·exact absurd ⟨_, ‹_›⟩ hmm
   ·exact absurd ⟨_, _, _, ‹_›⟩ hst
   ·exact absurd ⟨_, _, _, _, ‹_›⟩ hbs
   ·exact absurd ⟨_, _, ‹_›⟩ hcf
   ·exact hk
end
end Go.Vx
