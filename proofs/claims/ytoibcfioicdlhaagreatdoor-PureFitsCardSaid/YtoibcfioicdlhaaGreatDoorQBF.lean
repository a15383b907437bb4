/- A typed function is gone through without a fault; what was reached is closed. Plain lemmas on what verify's functions do. Conditions: the function is typed. -/
import Derived.Test.YtoibcfioicdlhaaGreatDoorQBE
namespace Go.Proofs.YtoibcfioicdlhaaGreatDoor
open Go.Vx
set_option maxRecDepth 100000
abbrev Ty := Int × Int
def sucs (im : Im) (o : Op) (i : Info) (x d t : Int) : List (Int × Ty) :=
  bif o.c == 18 || o.c == 19 then []
  else bif o.c == 15 then [(o.a, (d - takes im o + i.pu, t))]
  else bif o.c == 16 then [(o.a, (d - takes im o + i.pu, t)), (x + 1, (d - takes im o + i.pu, t))]
  else bif o.c == 20 then [(x + 1, (d - takes im o + i.pu, t + 1)), (o.a, (d + 1, t))]
  else bif o.c == 21 then [(x + 1, (d - takes im o + i.pu, t - 1))]
  else [(x + 1, (d - takes im o + i.pu, t))]
def tyAt (tys : List Ty) (p : Int × Ty) : Prop := ∃ y : Nat, p.1 = y ∧ tys[y]? = some p.2
structure Typed (im : Im) (code : List Op) (tys : List Ty) : Prop where
  len : tys.length = code.length
  at' : ∀ (x : Nat) (o : Op), code[x]? = some o → ∃ i d t, inf o.c = some i ∧ tys[x]? = some (d, t) ∧ (0 ≤ d ∧ d ≤ 32 ∧ 0 ≤ t ∧ t ≤ 16) ∧ (takes im o ≤ d ∧ d - takes im o + i.pu ≤ 32) ∧ (o.c = 21 → 0 < t) ∧ (o.c = 20 → t < 16 ∧ d < 32) ∧ ∀ p ∈ sucs im o i x d t, tyAt tys p
theorem lookI_some {x : Int} {r : Nat × Ty} : ∀ {s : Sn} {i : Nat}, lookI s x i = some r → (x, r.2) ∈ s
  | [], _, h => by cases h
  | p :: q, i, h => by
    simp only [lookI] at h
    cases hx : x == p.1 with
    | true =>
      rw [hx] at h
      simp only [cond_true, Option.some.injEq] at h
      subst h
      have := beq_iff_eq.1 hx
      subst this
      exact List.mem_cons_self
    | false =>
      rw [hx] at h
      exact List.mem_cons_of_mem _ (lookI_some h)
theorem lkI_none {x : Int} : ∀ {s : Sn} {i : Nat}, lookI s x i = none → x ∉ s.map (·.1)
  | [], _, _ => by simp
  | p :: q, i, h => by
    simp only [lookI] at h
    cases hx : x == p.1 with
    | true => rw [hx] at h; cases h
    | false =>
      rw [hx] at h
      have h1 := lkI_none h
      have h2 : x ≠ p.1 := by simpa using hx
      simp only [List.map_cons, List.mem_cons, not_or]
      exact ⟨h2, h1⟩
theorem nodup_uniq {s : Sn} (h : (s.map (·.1)).Nodup) {x : Int} {p q : Ty} (h1 : (x, p) ∈ s) (h2 : (x, q) ∈ s) : p = q := by
  induction s with
  | nil => cases h1
  | cons y s ih =>
    simp only [List.map_cons, List.nodup_cons] at h
    rcases List.mem_cons.1 h1 with e1 | e1 <;> rcases List.mem_cons.1 h2 with e2 | e2
    · rw [← e1] at e2; cases e2; rfl
    · exact absurd (List.mem_map.2 ⟨_, e2, by rw [← e1]⟩) h.1
    · exact absurd (List.mem_map.2 ⟨_, e1, by rw [← e2]⟩) h.1
    · exact ih h.2 e1 e2
theorem look_mem {s : Sn} (h : (s.map (·.1)).Nodup) {x : Int} {p : Ty} (hm : (x, p) ∈ s) : ∃ j, lookI s x 0 = some (j, p) := by
  cases hl : lookI s x 0 with
  | none => exact absurd (List.mem_map.2 ⟨_, hm, rfl⟩) (lkI_none hl)
  | some r =>
    have := nodup_uniq h (lookI_some hl) hm
    subst this
    exact ⟨r.1, rfl⟩
structure Rch (tys : List Ty) (s : Sn) (l : List Int) : Prop where
  sub : ∀ p ∈ s, tyAt tys p
  nd : (s.map (·.1)).Nodup
  lk : ∀ y ∈ l, y ∈ s.map (·.1)
  ln : l.Nodup
structure More (tys : List Ty) (s : Sn) (l : List Int) (q : Sn × List Int) : Prop where
  r : Rch tys q.1 q.2
  ss : ∀ p ∈ s, p ∈ q.1
  nw : ∀ p ∈ q.1, p ∈ s ∨ p.1 ∈ q.2
  ll : ∀ y ∈ l, y ∈ q.2
  ol : ∀ y ∈ q.2, y ∈ l ∨ y ∉ s.map (·.1)
  ct : q.1.length + l.length = s.length + q.2.length
theorem More.refl {tys : List Ty} {s : Sn} {l : List Int} (h : Rch tys s l) : More tys s l (s, l) := ⟨h, fun _ h => h, fun _ h => .inl h, fun _ h => h, fun _ h => .inl h, rfl⟩
theorem More.trans {tys : List Ty} {s : Sn} {l : List Int} {q r : Sn × List Int} (h : More tys s l q) (k : More tys q.1 q.2 r) : More tys s l r :=
  ⟨k.r, fun p hp => k.ss p (h.ss p hp), fun p hp => (k.nw p hp).elim (fun h1 => (h.nw p h1).imp (fun h => h) (k.ll _)) .inr, fun y hy => k.ll y (h.ll y hy),
    fun y hy => (k.ol y hy).elim (h.ol y) fun h1 => .inr fun h2 => h1 (by obtain ⟨p, hp, rfl⟩ := List.mem_map.1 h2; exact List.mem_map.2 ⟨p, h.ss p hp, rfl⟩), by have := h.ct; have := k.ct; omega⟩
theorem rch_ok {tys : List Ty} {s : Sn} {l : List Int} (h : Rch tys s l) {y : Int} {p : Ty} (hy : tyAt tys (y, p)) : ∃ q, rch s l y p = some q ∧ More tys s l q ∧ (y, p) ∈ q.1 := by
  unfold rch
  cases hl : lookI s y 0 with
  | some r =>
    have hm := lookI_some hl
    obtain ⟨k, e1, e2⟩ := hy
    obtain ⟨k', e3, e4⟩ := h.sub _ hm
    have hk : k' = k := by
      have : (k' : Int) = k := e3.symm.trans e1
      omega
    subst hk
    have hp : r.2 = p := by
      simp only at e2 e4
      rw [e2] at e4
      exact (Option.some.inj e4).symm
    subst hp
    refine ⟨(s, l), ?_, .refl h, hm⟩
    simp
  | none =>
    have hn := lkI_none hl
    have hyl : y ∉ l := fun hy => hn (h.lk y hy)
    have hi : ins l y = l ++ [y] := by
      unfold ins
      cases hmi : memI l y 0 with
      | none => rfl
      | some j =>
        obtain ⟨_, h2⟩ := memI_get hmi
        exact absurd (List.mem_of_getElem? h2) hyl
    refine ⟨_, rfl, ⟨⟨fun q hq => ?_, ?_, fun z hz => ?_, ?_⟩, fun q hq => by simp [hq], fun q hq => ?_, fun z hz => by simp [hi, hz], fun z hz => ?_, by simp [hi]; omega⟩, by simp⟩
    · simp only [List.mem_append, List.mem_singleton] at hq
      rcases hq with hq | rfl
      · exact h.sub q hq
      · exact hy
    · simp only [List.map_append, List.map_cons, List.map_nil]
      exact List.nodup_append.2 ⟨h.nd, by simp, fun a ha b hb e => by
        simp at hb
        subst hb e
        exact hn ha⟩
    · simp only [hi, List.mem_append, List.mem_singleton] at hz
      rcases hz with hz | rfl
      · simp only [List.map_append, List.mem_append]; exact .inl (h.lk z hz)
      · simp
    · simp only [hi]
      exact List.nodup_append.2 ⟨h.ln, by simp, fun a ha b hb e => by
        simp at hb
        subst hb e
        exact hyl ha⟩
    · simp only [List.mem_append, List.mem_singleton] at hq
      rcases hq with hq | rfl
      · exact .inl hq
      · exact .inr (by simp [hi])
    · simp only [hi, List.mem_append, List.mem_singleton] at hz
      rcases hz with hz | rfl
      · exact .inl hz
      · exact .inr hn
theorem sq_ok {tys : List Ty} {s : Sn} {l : List Int} (h : Rch tys s l) {n : Nat} (hn : tys.length = n) {x : Int} {o : Op} {p : Ty} (hl : last o.c = false) (hy : tyAt tys (x + 1, p)) : ∃ q, sq n x o s l p = .ok q ∧ More tys s l q ∧ (x + 1, p) ∈ q.1 := by
  obtain ⟨q, h1, h2, h3⟩ := rch_ok h hy
  refine ⟨q, ?_, h2, h3⟩
  obtain ⟨y, e1, e2⟩ := hy
  have hlt : y < n := by rw [← hn]; exact (List.getElem?_eq_some_iff.1 e2).1
  have hd : decide (x + 1 < (n : Int)) = true := by
    simp only at e1
    rw [e1]
    simpa using hlt
  unfold sq
  rw [hl, hd, h1]
  rfl
theorem sq_last {n : Nat} {x : Int} {o : Op} {s : Sn} {l : List Int} {p : Ty} (hl : last o.c = true) : sq n x o s l p = .ok (s, l) := by
  unfold sq
  rw [hl]
  rfl
theorem thr_ok {im : Im} {code : List Op} {tys : List Ty} (hT : Typed im code tys) {s : Sn} {l : List Int} (h : Rch tys s l) {x : Nat} {o : Op} (ho : code[x]? = some o) {i : Info} {d t : Int} (hi : inf o.c = some i) (hx : tys[x]? = some (d, t)) :
    ∃ q, thr im code.length o i x (d, t) s l = .ok q ∧ More tys s l q ∧ ∀ p ∈ sucs im o i x d t, p ∈ q.1 := by
  obtain ⟨i', d', t', e1, e2, hb, ⟨h1, h2⟩, h3, h4, h5⟩ := hT.at' x o ho
  rw [hi] at e1
  cases e1
  rw [hx] at e2
  cases e2
  have hd : (decide (takes im o ≤ d) && decide (d - takes im o + i.pu ≤ 32)) = true := by simp [h1, h2]
  unfold thr
  simp only
  rw [hd]
  simp only [cond_true]
  unfold sucs at h5 ⊢
  by_cases c21 : o.c = 21
  · have hl : last o.c = false := by rw [c21]; rfl
    rw [c21] at h5 ⊢
    have ht : decide (0 < t) = true := by simpa using h3 c21
    obtain ⟨q, g1, g2, g3⟩ := sq_ok h hT.len hl (h5 _ (by exact List.mem_cons_self))
    refine ⟨q, ?_, g2, fun p hp => ?_⟩
    · simp only [beq_self_eq_true, cond_true, ht]
      exact g1
    · have : p = _ := List.mem_singleton.1 (show p ∈ [_] from hp)
      rw [this]
      exact g3
  by_cases c20 : o.c = 20
  · have hl : last o.c = false := by rw [c20]; rfl
    rw [c20] at h5 ⊢
    obtain ⟨k1, k2⟩ := h4 c20
    have ht : (decide (t < 16) && decide (d < 32)) = true := by simp [k1, k2]
    obtain ⟨q, g1, g2, g3⟩ := sq_ok h hT.len hl (h5 _ (by exact List.mem_cons_self))
    obtain ⟨r, f1, f2, f3⟩ := rch_ok g2.r (h5 _ (by exact List.mem_cons_of_mem _ List.mem_cons_self))
    refine ⟨r, ?_, g2.trans f2, fun p hp => ?_⟩
    · show (bif (20 : Int) == 21 then _ else bif (20 : Int) == 20 then bif decide (t < 16) && decide (d < 32) then _ else _ else _) = _
      rw [ht]
      simp only [show ((20 : Int) == 21) = false from rfl, show ((20 : Int) == 20) = true from rfl, cond_false, cond_true]
      rw [g1]
      simp only
      rw [f1]
    · rcases List.mem_cons.1 (show p ∈ [_, _] from hp) with rfl | hp
      · exact f2.ss _ g3
      · rw [List.mem_singleton.1 hp]
        exact f3
  by_cases c16 : o.c = 16
  · have hl : last o.c = false := by rw [c16]; rfl
    rw [c16] at h5 ⊢
    obtain ⟨q, g1, g2, g3⟩ := rch_ok h (h5 _ (by exact List.mem_cons_self))
    obtain ⟨r, f1, f2, f3⟩ := sq_ok g2.r hT.len hl (h5 _ (by exact List.mem_cons_of_mem _ List.mem_cons_self))
    refine ⟨r, ?_, g2.trans f2, fun p hp => ?_⟩
    · simp only [show ((16 : Int) == 21) = false from rfl, show ((16 : Int) == 20) = false from rfl, show ((16 : Int) == 16) = true from rfl, Bool.true_or, cond_false, cond_true]
      rw [g1]
      exact f1
    · rcases List.mem_cons.1 (show p ∈ [_, _] from hp) with rfl | hp
      · exact f2.ss _ g3
      · rw [List.mem_singleton.1 hp]
        exact f3
  by_cases c15 : o.c = 15
  · have hl : last o.c = true := by rw [c15]; rfl
    rw [c15] at h5 ⊢
    obtain ⟨q, g1, g2, g3⟩ := rch_ok h (h5 _ (by exact List.mem_cons_self))
    refine ⟨q, ?_, g2, fun p hp => ?_⟩
    · simp only [show ((15 : Int) == 21) = false from rfl, show ((15 : Int) == 20) = false from rfl, show ((15 : Int) == 16) = false from rfl, show ((15 : Int) == 15) = true from rfl, Bool.false_or, cond_false, cond_true]
      rw [g1]
      exact sq_last hl
    · have : p = _ := List.mem_singleton.1 (show p ∈ [_] from hp)
      rw [this]
      exact g3
  have b21 : (o.c == 21) = false := by simpa using c21
  have b20 : (o.c == 20) = false := by simpa using c20
  have b16 : (o.c == 16) = false := by simpa using c16
  have b15 : (o.c == 15) = false := by simpa using c15
  simp only [b21, b20, b16, b15, Bool.or_self, cond_false] at h5 ⊢
  by_cases c18 : o.c = 18 ∨ o.c = 19
  · have hl : last o.c = true := by rcases c18 with e | e <;> rw [e] <;> rfl
    have b18 : (o.c == 18 || o.c == 19) = true := by simpa using c18
    rw [b18]
    exact ⟨(s, l), sq_last hl, .refl h, fun p hp => by cases hp⟩
  · have b18 : (o.c == 18 || o.c == 19) = false := by simpa using c18
    have hl : last o.c = false := by
      unfold last
      rw [b15, b18]
      rfl
    rw [b18] at h5 ⊢
    obtain ⟨q, g1, g2, g3⟩ := sq_ok h hT.len hl (h5 _ (by exact List.mem_cons_self))
    refine ⟨q, g1, g2, fun p hp => ?_⟩
    have : p = _ := List.mem_singleton.1 (show p ∈ [_] from hp)
    rw [this]
    exact g3
theorem nodup_le : ∀ {l m : List Int}, l.Nodup → (∀ x ∈ l, x ∈ m) → l.length ≤ m.length
  | [], _, _, _ => by simp
  | x :: l, m, h, hs => by
    obtain ⟨h1, h2⟩ := List.nodup_cons.1 h
    have hm := hs x (by simp)
    have := nodup_le (m := m.erase x) h2 fun y hy => (List.mem_erase_of_ne (fun e : y = x => h1 (e ▸ hy))).2 (hs y (by simp [hy]))
    rw [List.length_erase_of_mem hm] at this
    have := List.length_pos_of_mem hm
    simp only [List.length_cons]
    omega
def Clo (im : Im) (code : List Op) (s : Sn) (l : List Int) : Prop :=
  ∀ p ∈ s, p.1 ∉ l → ∀ (x : Nat) (o : Op) (i : Info), p.1 = x → code[x]? = some o → inf o.c = some i → ∀ q ∈ sucs im o i x p.2.1 p.2.2, q ∈ s
theorem mem_era {l : List Int} (hn : l.Nodup) {x : Int} (hx : x ∈ l) : (∀ y, y ∈ era l x ↔ y ∈ l ∧ y ≠ x) ∧ (era l x).Nodup ∧ (era l x).length + 1 = l.length := by
  obtain ⟨j, hj⟩ := memI_mem 0 hx
  obtain ⟨_, h2⟩ := memI_get hj
  rw [Nat.sub_zero] at h2
  have he : era l x = l.eraseIdx j := by unfold era; rw [hj]
  rw [he]
  have hjl : j < l.length := (List.getElem?_eq_some_iff.1 h2).1
  refine ⟨fun y => ?_, hn.sublist (List.eraseIdx_sublist ..), by rw [List.length_eraseIdx, if_pos hjl]; omega⟩
  rw [List.mem_eraseIdx_iff_getElem?]
  constructor
  · rintro ⟨k, hk, hy⟩
    refine ⟨List.mem_of_getElem? hy, fun e => hk ?_⟩
    subst e
    exact (List.getElem?_inj (List.getElem?_eq_some_iff.1 hy).1 hn).1 (hy.trans h2.symm)
  · rintro ⟨hy, hne⟩
    obtain ⟨k, hk⟩ := List.mem_iff_getElem?.1 hy
    refine ⟨k, fun e => hne ?_, hk⟩
    subst e
    rw [h2] at hk
    exact (Option.some.inj hk).symm
theorem isort_mem {l : List Int} {x : Int} : x ∈ isort l ↔ x ∈ l := (isort_perm l).mem_iff
theorem keys_le {tys : List Ty} {s : Sn} {l : List Int} (h : Rch tys s l) : s.length ≤ tys.length := by
  have h1 : (s.map (·.1)).length ≤ ((List.range tys.length).map (fun n : Nat => (n : Int))).length := by
    refine nodup_le h.nd fun y hy => ?_
    obtain ⟨p, hp, rfl⟩ := List.mem_map.1 hy
    obtain ⟨k, e1, e2⟩ := h.sub p hp
    rw [e1]
    exact List.mem_map.2 ⟨k, List.mem_range.2 (List.getElem?_eq_some_iff.1 e2).1, rfl⟩
  simpa using h1
theorem loop_ok {im : Im} {fn : Fn} {tys : List Ty} (hT : Typed im fn.code tys) (hn : fn.code.length ≤ 1000) : ∀ (n : Nat) (s : Sn) (l : List Int), Rch tys s l → Clo im fn.code s l → fn.code.length + l.length < n + s.length →
    ∃ s', loopV im fn n s l = some (.ok s') ∧ Rch tys s' [] ∧ Clo im fn.code s' [] ∧ ∀ p ∈ s, p ∈ s' := by
  intro n
  induction n with
  | zero =>
    intro s l h _ hf
    have := keys_le h
    rw [hT.len] at this
    omega
  | succ n ih =>
    intro s l h hc hf
    have hpos : ∀ y ∈ l, ∃ k : Nat, y = k ∧ k < fn.code.length := fun y hy => by
      obtain ⟨p, hp, rfl⟩ := List.mem_map.1 (h.lk y hy)
      obtain ⟨k, e1, e2⟩ := h.sub p hp
      exact ⟨k, e1, by rw [← hT.len]; exact (List.getElem?_eq_some_iff.1 e2).1⟩
    have hll : l.length ≤ s.length := by
      have := nodup_le h.ln (fun y hy => h.lk y hy)
      simpa using this
    have hsl := keys_le h
    rw [hT.len] at hsl
    have hok : okKs l = true := by
      unfold okKs
      simp only [Bool.and_eq_true, decide_eq_true_eq, List.all_eq_true]
      refine ⟨by omega, h.ln, fun y hy => ?_⟩
      obtain ⟨k, rfl, hk⟩ := hpos y hy
      omega
    unfold loopV
    rw [hok]
    simp only [cond_true]
    cases hs : isort l with
    | nil =>
      have : l = [] := by
        have := (isort_perm l).length_eq
        rw [hs] at this
        exact List.eq_nil_of_length_eq_zero this.symm
      subst this
      exact ⟨s, rfl, h, hc, fun _ h => h⟩
    | cons x xs =>
      have hxl : x ∈ l := isort_mem.1 (by rw [hs]; simp)
      obtain ⟨k, rfl, hk⟩ := hpos x hxl
      obtain ⟨p, hp, e1⟩ := List.mem_map.1 (h.lk _ hxl)
      obtain ⟨y, p2⟩ := p
      obtain ⟨d, t⟩ := p2
      simp only at e1
      subst e1
      obtain ⟨k', e2, e3⟩ := h.sub _ hp
      have ekk : k' = k := by simp only at e2; omega
      subst ekk
      simp only at e3
      obtain ⟨o, ho⟩ : ∃ o, fn.code[k']? = some o := ⟨_, List.getElem?_eq_getElem hk⟩
      obtain ⟨i, d', t', hi, e4, hb, _⟩ := hT.at' k' o ho
      rw [e3] at e4
      cases e4
      obtain ⟨j, hj⟩ := look_mem h.nd hp
      have hhr : okHr (k' : Int) (d, t) = true := by
        unfold okHr
        simp only [Bool.and_eq_true, decide_eq_true_eq]
        omega
      obtain ⟨m1, m2, m3⟩ := mem_era h.ln hxl
      have hE : Rch tys s (era l k') := ⟨h.sub, h.nd, fun y hy => h.lk y ((m1 y).1 hy).1, m2⟩
      obtain ⟨q, g1, g2, g3⟩ := thr_ok hT hE ho hi e3
      have hcq : Clo im fn.code q.1 q.2 := by
        intro p hp' hpl z o' i' ez ho' hi' r hr
        rcases g2.nw p hp' with h1 | h1
        · by_cases hpk : p.1 = (k' : Int)
          · have hz : z = k' := by omega
            subst hz
            rw [ho] at ho'
            cases ho'
            rw [hi] at hi'
            cases hi'
            obtain ⟨pa, pd, pt⟩ := p
            simp only at hpk hr
            subst hpk
            have := nodup_uniq h.nd h1 hp
            cases this
            exact g3 r hr
          · have hpl2 : p.1 ∉ l := fun hm => hpl (g2.ll _ ((m1 _).2 ⟨hm, hpk⟩))
            exact g2.ss _ (hc p h1 hpl2 z o' i' ez ho' hi' r hr)
        · exact absurd h1 hpl
      obtain ⟨s', k1, k2, k3, k4⟩ := ih q.1 q.2 g2.r hcq (by have := g2.ct; omega)
      refine ⟨s', ?_, k2, k3, fun p hp => k4 p (g2.ss p hp)⟩
      simp only [hj, Int.toNat_natCast, ho, hhr, cond_true, hi]
      rw [g1]
      exact k1
theorem trace_ok {im : Im} {fn : Fn} {tys : List Ty} (hT : Typed im fn.code tys) (hn : fn.code.length ≤ 1000) (h0 : tys[0]? = some (0, 0)) (hop : opsErr im fn fn.code 0 = none) {N : Nat} (hN : fn.code.length < N) :
    ∃ s, traceV im fn N = some (.ok s) ∧ Rch tys s [] ∧ Clo im fn.code s [] ∧ (0, (0, 0)) ∈ s := by
  have hR : Rch tys [((0 : Int), ((0 : Int), (0 : Int)))] [0] := ⟨fun p hp => by rw [List.mem_singleton.1 hp]; exact ⟨0, rfl, h0⟩, by simp, by simp, by simp⟩
  obtain ⟨s, h1, h2, h3, h4⟩ := loop_ok hT hn N _ _ hR (fun p hp hpl => by rw [List.mem_singleton.1 hp] at hpl; simp at hpl) (by simp; omega)
  refine ⟨s, ?_, h2, h3, h4 _ (by simp)⟩
  unfold traceV
  rw [hop]
  exact h1
end Go.Proofs.YtoibcfioicdlhaaGreatDoor
namespace Go.Proofs.YtoibcfioicdlhaaGreatDoor
open Go.Vx
set_option maxRecDepth 100000
theorem opk_inf {c ar t p : Int} (h : opk c = some (ar, t, p)) : ∃ i, inf c = some i ∧ i.ar = ar ∧ i.pu = p ∧ (bif c == 17 then i.po + 1 else i.po) = t := by
  unfold opk at h
  rw [Option.map_eq_some_iff] at h
  obtain ⟨i, h1, h2⟩ := h
  simp only [Prod.mk.injEq] at h2
  exact ⟨i, h1, h2.1, h2.2.2, h2.2.1⟩
theorem good_args {im : Im} (h : GoodIm im) {a : Int} (ha : 0 ≤ a ∧ a < 3) : ∃ g, im.fs[a.toNat]? = some g ∧ g.args = 1 := by
  have hl : a.toNat < im.fs.length := by rw [h.2.1]; omega
  exact ⟨im.fs[a.toNat], List.getElem?_eq_getElem hl, (h.2.2 _ (List.getElem_mem hl)).1⟩
theorem aOk_ge {ar a : Int} (h : aOk ar a = true) : 0 ≤ a ∧ a ≤ 63 := by
  unfold aOk at h
  repeat' split at h
  all_goals (cases h0 : ar == 0 <;> cases h1 : ar == 1 <;> cases h2 : ar == 2 <;> cases h4 : ar == 4 <;> cases h5 : ar == 5 <;> simp [h0, h1, h2, h4, h5] at h <;> omega)
structure OkOp (im : Im) (o : Op) : Prop where
  right : rightB o = true
  noerr : ∀ fn : Fn, fn.args = 1 → fn.vars = 7 → (∀ i, inf o.c = some i → i.ar = 3 → o.a < fn.code.length) → opErr im fn o = none
theorem ok_str {im : Im} (h : GoodIm im) {c a ar t p : Int} (hk : opk c = some (ar, t, p)) (ha : aOk ar a = true) : OkOp im ⟨c, a⟩ ∧ takes im ⟨c, a⟩ = t := by
  obtain ⟨i, h1, h2, h3, h4⟩ := opk_inf hk
  have hge := aOk_ge ha
  have hcs : im.cs.length = 16 := by rw [h.1]; rfl
  have hfs := h.2.1
  subst h2
  refine ⟨⟨?_, fun fn f1 f2 f3 => ?_⟩, ?_⟩
  · unfold rightB
    simp only [h1]
    cases h0 : i.ar == 0 with
    | true =>
      unfold aOk at ha
      rw [h0] at ha
      exact ha
    | false => simp only [cond_false, Bool.and_eq_true, decide_eq_true_eq]; omega
  · unfold opErr
    simp only [h1]
    unfold opErrA aOk at *
    cases e1 : i.ar == 1 with
    | true =>
      have : i.ar = 1 := by simpa using e1
      rw [this] at ha
      simp at ha
      simp only [cond_true]
      rw [show decide (a < (im.cs.length : Int)) = true by rw [hcs]; simp; omega]
      rfl
    | false =>
      cases e2 : i.ar == 2 with
      | true =>
        have : i.ar = 2 := by simpa using e2
        rw [this] at ha
        simp at ha
        simp only [cond_false, cond_true]
        rw [show decide (a < fn.args + fn.vars) = true by rw [f1, f2]; simp; omega]
        rfl
      | false =>
        cases e3 : i.ar == 3 with
        | true =>
          have : i.ar = 3 := by simpa using e3
          have := f3 i h1 this
          simp only [cond_false, cond_true]
          rw [show decide (a < (fn.code.length : Int)) = true by simpa using this]
          rfl
        | false =>
          cases e4 : i.ar == 4 with
          | true =>
            have : i.ar = 4 := by simpa using e4
            rw [this] at ha
            simp at ha
            obtain ⟨g, g1, g2⟩ := good_args h ha
            simp only [cond_false, cond_true]
            rw [show decide (a < (im.fs.length : Int)) = true by rw [hfs]; simp; omega, g1]
            simp [g2]
          | false =>
            cases e5 : i.ar == 5 with
            | true =>
              simp only [cond_false, cond_true]
              rw [show decide (a ≤ 63) = true by simp; omega]
              rfl
            | false => rfl
  · unfold takes
    simp only [h1]
    rw [← h4]
    cases h17 : c == 17 with
    | false => rfl
    | true =>
      have hc : c = 17 := by simpa using h17
      subst hc
      have hi : inf 17 = some ⟨[99, 97, 108, 108], 4, 0, 1⟩ := rfl
      rw [hi] at h1
      cases h1
      unfold aOk at ha
      simp at ha
      obtain ⟨g, g1, g2⟩ := good_args h ha
      simp only [cond_true]
      rw [g1]
      simp only [g2]
theorem str_type {im : Im} (hI : GoodIm im) {h h' : Int} {d : List Op} (hs : Str h d h') : 0 ≤ h ∧ h ≤ 8 → ∃ ds : List Int, ds.length = d.length ∧ (ds ++ [h'])[0]? = some h ∧ (0 ≤ h' ∧ h' ≤ 8) ∧
    ∀ (x : Nat) (o : Op), d[x]? = some o → ∃ i dx, inf o.c = some i ∧ ctl o.c = false ∧ OkOp im o ∧ ds[x]? = some dx ∧ (0 ≤ dx ∧ dx ≤ 8) ∧ (takes im o ≤ dx ∧ dx - takes im o + i.pu ≤ 8) ∧ (ds ++ [h'])[x + 1]? = some (dx - takes im o + i.pu) := by
  induction hs with
  | nil h => exact fun hh => ⟨[], rfl, rfl, hh, fun x o hx => by simp at hx⟩
  | @cons c a ar t p h h' r hk hc ha h1 h2 hr ih =>
    intro hh
    obtain ⟨hok, htk⟩ := ok_str hI hk ha
    obtain ⟨i, e1, e2, e3, _⟩ := opk_inf hk
    obtain ⟨_, _, _, _, _, _, p2, _⟩ := inf_some e1
    obtain ⟨ds, g1, g2, g3, g4⟩ := ih ⟨by omega, h2⟩
    refine ⟨h :: ds, by simp [g1], rfl, g3, fun x o hx => ?_⟩
    cases x with
    | zero =>
      simp only [List.getElem?_cons_zero, Option.some.injEq] at hx
      subst hx
      refine ⟨i, h, e1, hc, hok, rfl, hh, ?_, ?_⟩
      · rw [htk, e3]; exact ⟨h1, h2⟩
      · rw [htk, e3]
        simpa using g2
    | succ x =>
      obtain ⟨i', dx, k1, k2, k3, k4, k5, k6, k7⟩ := g4 x o (by simpa using hx)
      exact ⟨i', dx, k1, k2, k3, by simpa using k4, k5, k6, by simpa using k7⟩
structure LT (im : Im) (b : Int) (tys : List Ty) (p : List Op) (e : Ty) : Prop where
  len : tys.length = p.length
  op : ∀ (x : Nat) (o : Op), p[x]? = some o → ∃ i d t, inf o.c = some i ∧ OkOp im o ∧ tys[x]? = some (d, t) ∧ (0 ≤ d ∧ d ≤ 8 ∧ 0 ≤ t ∧ t ≤ 1) ∧ (takes im o ≤ d ∧ d - takes im o + i.pu ≤ 32) ∧ (o.c = 21 → 0 < t) ∧
    ∀ q ∈ sucs im o i (b + x) d t, ∃ y : Nat, q.1 = b + y ∧ x < y ∧ (tys ++ [e])[y]? = some q.2
theorem LT.nil (im : Im) (b : Int) (e : Ty) : LT im b [] [] e := ⟨rfl, fun x o hx => by simp at hx⟩
theorem LT.cons {im : Im} {b : Int} {tys : List Ty} {p : List Op} {e : Ty} (h : LT im (b + 1) tys p e) {o : Op} {i : Info} {d t : Int} (hi : inf o.c = some i) (hok : OkOp im o) (hb : 0 ≤ d ∧ d ≤ 8 ∧ 0 ≤ t ∧ t ≤ 1) (ht : takes im o ≤ d ∧ d - takes im o + i.pu ≤ 32) (h21 : o.c = 21 → 0 < t)
    (hq : ∀ q ∈ sucs im o i b d t, ∃ y : Nat, q.1 = b + 1 + y ∧ (tys ++ [e])[y]? = some q.2) : LT im b ((d, t) :: tys) (o :: p) e := by
  refine ⟨by simp [h.len], fun x o' hx => ?_⟩
  cases x with
  | zero =>
    simp only [List.getElem?_cons_zero, Option.some.injEq] at hx
    subst hx
    refine ⟨i, d, t, hi, hok, rfl, hb, ht, h21, fun q hm => ?_⟩
    obtain ⟨y, y1, y2⟩ := hq q (by simpa using hm)
    exact ⟨y + 1, by rw [y1]; omega, by omega, by simpa using y2⟩
  | succ x =>
    obtain ⟨i', d', t', k1, k2, k3, k4, k5, k6, k7⟩ := h.op x o' (by simpa using hx)
    refine ⟨i', d', t', k1, k2, by simpa using k3, k4, k5, k6, fun q hm => ?_⟩
    obtain ⟨y, y1, y2, y3⟩ := k7 q (by rw [show b + 1 + (x : Int) = b + ((x + 1 : Nat) : Int) by omega]; exact hm)
    exact ⟨y + 1, by rw [y1]; omega, by omega, by simpa using y3⟩
theorem LT.append {im : Im} {b b' : Int} {tys tys' : List Ty} {p p' : List Op} {e e' : Ty} (h : LT im b tys p e) (hb : b' = b + p.length) (h' : LT im b' tys' p' e') (he : (tys' ++ [e'])[0]? = some e) : LT im b (tys ++ tys') (p ++ p') e' := by
  subst hb
  refine ⟨by simp [h.len, h'.len], fun x o hx => ?_⟩
  by_cases hlt : x < p.length
  · rw [List.getElem?_append_left hlt] at hx
    obtain ⟨i, d, t, k1, k2, k3, k4, k5, k6, k7⟩ := h.op x o hx
    refine ⟨i, d, t, k1, k2, by rw [List.getElem?_append_left (by rw [h.len]; exact hlt)]; exact k3, k4, k5, k6, fun q hm => ?_⟩
    obtain ⟨y, y1, y2, y3⟩ := k7 q hm
    refine ⟨y, y1, y2, ?_⟩
    by_cases hy : y < tys.length
    · rw [List.getElem?_append_left hy] at y3
      rw [List.append_assoc, List.getElem?_append_left hy]
      exact y3
    · have hy2 : y = tys.length := by
        have := (List.getElem?_eq_some_iff.1 y3).1
        simp at this
        omega
      subst hy2
      rw [List.getElem?_append_right (Nat.le_refl _), Nat.sub_self] at y3
      rw [List.append_assoc, List.getElem?_append_right (Nat.le_refl _), Nat.sub_self, he]
      simpa using y3
  · rw [List.getElem?_append_right (by omega)] at hx
    obtain ⟨i, d, t, k1, k2, k3, k4, k5, k6, k7⟩ := h'.op (x - p.length) o hx
    refine ⟨i, d, t, k1, k2, by rw [List.getElem?_append_right (by rw [h.len]; omega), h.len]; exact k3, k4, k5, k6, fun q hm => ?_⟩
    obtain ⟨y, y1, y2, y3⟩ := k7 q (by rw [show b + (p.length : Int) + ((x - p.length : Nat) : Int) = b + (x : Int) by omega]; exact hm)
    refine ⟨p.length + y, by rw [y1]; omega, by omega, ?_⟩
    rw [List.append_assoc, List.getElem?_append_right (by rw [h.len]; omega), h.len, Nat.add_sub_cancel_left]
    exact y3
theorem ctl_ne {c : Int} (h : ctl c = false) : (c == 15) = false ∧ (c == 16) = false ∧ (c == 18) = false ∧ (c == 19) = false ∧ (c == 20) = false ∧ (c == 21) = false := by
  unfold ctl at h
  simp only [Bool.or_eq_false_iff] at h
  exact ⟨h.1, h.2.1, h.2.2.1, h.2.2.2.1, h.2.2.2.2.1, h.2.2.2.2.2.1⟩
theorem ctl_ne2 {c : Int} (h : ctl c = false) : c ≠ 24 ∧ c ≠ 31 := by
  unfold ctl at h
  simp only [Bool.or_eq_false_iff, beq_eq_false_iff_ne] at h
  exact ⟨h.2.2.2.2.2.2.1, h.2.2.2.2.2.2.2⟩
theorem sucs_str {im : Im} {o : Op} {i : Info} {x d t : Int} (h : ctl o.c = false) : sucs im o i x d t = [(x + 1, (d - takes im o + i.pu, t))] := by
  obtain ⟨h15, h16, h18, h19, h20, h21⟩ := ctl_ne h
  unfold sucs
  rw [h15, h16, h18, h19, h20, h21]
  rfl
theorem str_LT {im : Im} (hI : GoodIm im) {h h' : Int} {d : List Op} (hs : Str h d h') (hh : 0 ≤ h ∧ h ≤ 8) (b t : Int) (ht : 0 ≤ t ∧ t ≤ 1) : ∃ tys, LT im b tys d (h', t) ∧ (tys ++ [(h', t)])[0]? = some (h, t) := by
  obtain ⟨ds, g1, g2, g3, g4⟩ := str_type hI hs hh
  have hm : ∀ y : Nat, (ds.map (fun x => (x, t)) ++ [(h', t)])[y]? = ((ds ++ [h'])[y]?).map fun x => (x, t) := fun y => by
    rw [show ds.map (fun x => (x, t)) ++ [(h', t)] = (ds ++ [h']).map (fun x => (x, t)) by simp, List.getElem?_map]
  refine ⟨ds.map fun x => (x, t), ⟨by simp [g1], fun x o hx => ?_⟩, by rw [hm, g2]; rfl⟩
  obtain ⟨i, dx, k1, k2, k3, k4, k5, k6, k7⟩ := g4 x o hx
  refine ⟨i, dx, t, k1, k3, by rw [List.getElem?_map, k4]; rfl, ⟨k5.1, k5.2, ht.1, ht.2⟩, ⟨k6.1, by omega⟩, fun e => ?_, fun q hq => ?_⟩
  · obtain ⟨_, _, _, _, _, h21⟩ := ctl_ne k2
    rw [e] at h21
    cases h21
  · rw [sucs_str k2] at hq
    rw [List.mem_singleton.1 hq]
    exact ⟨x + 1, by simp only; omega, by omega, by rw [hm, k7]; rfl⟩
theorem ok_lit {im : Im} (hI : GoodIm im) {c a ar t p : Int} (hk : opk c = some (ar, t, p)) (ha : aOk ar a = true) : ∃ i, inf c = some i ∧ OkOp im ⟨c, a⟩ ∧ takes im ⟨c, a⟩ = t ∧ i.pu = p := by
  obtain ⟨h1, h2⟩ := ok_str hI hk ha
  obtain ⟨i, e1, _, e3, _⟩ := opk_inf hk
  exact ⟨i, e1, h1, h2, e3⟩
theorem throw_LT {im : Im} (hI : GoodIm im) {n : Int} (hn : 0 ≤ n ∧ n < 8) (b t : Int) (ht : 0 ≤ t ∧ t ≤ 1) (e : Ty) : LT im b [(0, t), (1, t)] [⟨1, n⟩, ⟨19, 0⟩] e := by
  obtain ⟨i1, a1, a2, a3, a4⟩ := ok_lit hI (c := 1) (a := n) (ar := 1) (t := 0) (p := 1) rfl (by simp [aOk]; omega)
  obtain ⟨i2, b1, b2, b3, b4⟩ := ok_lit hI (c := 19) (a := 0) (ar := 0) (t := 1) (p := 0) rfl rfl
  refine .cons (i := i1) (.cons (i := i2) (.nil ..) b1 b2 ⟨by omega, by omega, ht.1, ht.2⟩ (by rw [b3, b4]; decide) (fun e => by cases e) (fun q hq => ?_)) a1 a2 ⟨by omega, by omega, ht.1, ht.2⟩ (by rw [a3, a4]; decide) (fun e => by cases e) (fun q hq => ?_)
  · cases hq
  · rw [sucs_str (by rfl)] at hq
    rw [List.mem_singleton.1 hq, a3, a4]
    exact ⟨0, by simp only; omega, rfl⟩
theorem ok_jmp {im : Im} {c a : Int} {i : Info} (hi : inf c = some i) (h3 : i.ar = 3) (ha : 0 ≤ a ∧ a ≤ 65535) : OkOp im ⟨c, a⟩ := by
  refine ⟨?_, fun fn _ _ f3 => ?_⟩
  · unfold rightB
    simp only [hi, h3]
    simp
    omega
  · unfold opErr opErrA
    simp only [hi, h3]
    have := f3 i hi h3
    simp only at this
    rw [show decide (a < (fn.code.length : Int)) = true by simpa using this]
    rfl
theorem deed_LT {im : Im} (hI : GoodIm im) {d : List Op} (hd : Deed d) (b : Int) : ∃ tys, LT im b tys d (0, 0) ∧ (tys ++ [((0 : Int), (0 : Int))])[0]? = some (0, 0) := by
  rcases hd with ⟨h, _⟩ | ⟨n, h1, h2, rfl⟩
  · exact str_LT hI h (by omega) b 0 (by omega)
  · exact ⟨_, throw_LT hI ⟨h1, h2⟩ b 0 (by omega) (0, 0), rfl⟩
theorem store_LT {im : Im} (hI : GoodIm im) (b : Int) : LT im b [(1, 0)] [⟨3, 1⟩] (0, 0) := by
  obtain ⟨i, a1, a2, a3, a4⟩ := ok_lit hI (c := 3) (a := 1) (ar := 2) (t := 1) (p := 0) rfl rfl
  refine .cons (i := i) (.nil ..) a1 a2 ⟨by omega, by omega, by omega, by omega⟩ (by rw [a3, a4]; decide) (fun e => by cases e) (fun q hq => ?_)
  rw [sucs_str (by rfl)] at hq
  rw [List.mem_singleton.1 hq, a3, a4]
  exact ⟨0, by simp only; omega, rfl⟩
set_option maxHeartbeats 1000000 in
theorem part_LT {im : Im} (hI : GoodIm im) {b : Int} (hb : 0 ≤ b ∧ b ≤ 1000) {p : List Op} (hp : Part b p) : ∃ tys, LT im b tys p (0, 0) ∧ (tys ++ [((0 : Int), (0 : Int))])[0]? = some (0, 0) := by
  obtain ⟨d, hd, hp⟩ := hp
  have hdl := hd.len
  rcases hp with rfl | rfl | ⟨h19, rfl⟩ | ⟨h19, rfl⟩
  · exact deed_LT hI hd b
  · obtain ⟨tys, g1, g2⟩ := deed_LT hI hd (b + 1 + 1)
    obtain ⟨i1, a1, a2, a3, a4⟩ := ok_lit hI (c := 2) (a := 1) (ar := 2) (t := 0) (p := 1) rfl rfl
    refine ⟨(0, 0) :: (1, 0) :: tys, .cons (i := i1) (.cons (i := ⟨[105, 102], 3, 1, 0⟩) g1 rfl (ok_jmp (i := ⟨[105, 102], 3, 1, 0⟩) rfl rfl ⟨by omega, by omega⟩) ⟨by omega, by omega, by omega, by omega⟩ ⟨(by show (1 : Int) ≤ 1; omega), (by show (1 : Int) - 1 + 0 ≤ 32; omega)⟩ (fun e => by cases e) (fun q hq => ?_)) a1 a2 ⟨by omega, by omega, by omega, by omega⟩ (by rw [a3, a4]; decide) (fun e => by cases e) (fun q hq => ?_), rfl⟩
    · have hq : q ∈ [(b + 2 + (d.length : Int), ((1 : Int) - 1 + 0, (0 : Int))), (b + 1 + 1, ((1 : Int) - 1 + 0, (0 : Int)))] := hq
      rcases List.mem_cons.1 hq with rfl | hq
      · refine ⟨d.length, by simp only; omega, ?_⟩
        rw [List.getElem?_append_right (by rw [g1.len]; exact Nat.le_refl _), g1.len, Nat.sub_self]
        rfl
      · rw [List.mem_singleton.1 hq]
        exact ⟨0, by simp only; omega, g2⟩
    · rw [sucs_str (by rfl)] at hq
      rw [List.mem_singleton.1 hq, a3, a4]
      exact ⟨0, by simp only; omega, rfl⟩
  · obtain ⟨n, n1, n2, rfl⟩ : ∃ n : Int, 0 ≤ n ∧ n < 8 ∧ d = [⟨1, n⟩, ⟨19, 0⟩] := hd.resolve_left fun h => h.2.2.1 h19
    have g := (throw_LT hI ⟨n1, n2⟩ (b + 1) 1 (by omega) (1, 0)).append (b' := b + 1 + 2) rfl (store_LT hI _) rfl
    refine ⟨(0, 0) :: ([(0, 1), (1, 1)] ++ [(1, 0)]), g.cons (o := ⟨20, b + 1 + 2⟩) (i := ⟨[116, 114, 121], 3, 0, 0⟩) rfl (ok_jmp (i := ⟨[116, 114, 121], 3, 0, 0⟩) rfl rfl ⟨by omega, by omega⟩) ⟨by omega, by omega, by omega, by omega⟩ ⟨(by show (0 : Int) ≤ 0; omega), (by show (0 : Int) - 0 + 0 ≤ 32; omega)⟩ (fun e => by cases e) (fun q hq => ?_), rfl⟩
    have hq : q ∈ [(b + 1, ((0 : Int) - 0 + 0, (0 : Int) + 1)), (b + 1 + 2, ((0 : Int) + 1, (0 : Int)))] := hq
    rcases List.mem_cons.1 hq with rfl | hq
    · exact ⟨0, by simp only; omega, rfl⟩
    · rw [List.mem_singleton.1 hq]
      exact ⟨2, by simp only; omega, rfl⟩
  · obtain ⟨hs, _⟩ : Str 0 d 0 ∧ d ≠ [] := by
      rcases hd with h | ⟨n, _, _, rfl⟩
      · exact ⟨h.1, h.2.1⟩
      · exact absurd rfl h19
    obtain ⟨tys, g1, g2⟩ := str_LT hI hs (by omega) (b + 1) 1 (by omega)
    obtain ⟨i1, a1, a2, a3, a4⟩ := ok_lit hI (c := 21) (a := 0) (ar := 0) (t := 0) (p := 0) rfl rfl
    have gS : LT im (b + 1 + d.length) [(0, 1), (0, 0), (1, 0)] [⟨21, 0⟩, ⟨15, b + 4 + d.length⟩, ⟨3, 1⟩] (0, 0) := by
      refine .cons (i := i1) (.cons (i := ⟨[106, 117, 109, 112], 3, 0, 0⟩) (store_LT hI _) rfl (ok_jmp (i := ⟨[106, 117, 109, 112], 3, 0, 0⟩) rfl rfl ⟨by omega, by omega⟩) ⟨by omega, by omega, by omega, by omega⟩ ⟨(by show (0 : Int) ≤ 0; omega), (by show (0 : Int) - 0 + 0 ≤ 32; omega)⟩ (fun e => by cases e) (fun q hq => ?_)) a1 a2 ⟨by omega, by omega, by omega, by omega⟩ (by rw [a3, a4]; decide) (fun _ => by omega) (fun q hq => ?_)
      · have hq : q ∈ [(b + 4 + (d.length : Int), ((0 : Int) - 0 + 0, (0 : Int)))] := hq
        rw [List.mem_singleton.1 hq]
        exact ⟨1, by simp only; omega, rfl⟩
      · have hq : q ∈ [(b + 1 + (d.length : Int) + 1, ((0 : Int) - takes im ⟨21, 0⟩ + i1.pu, (1 : Int) - 1))] := hq
        rw [List.mem_singleton.1 hq, a3, a4]
        exact ⟨0, by simp only; omega, rfl⟩
    have g := g1.append (b' := b + 1 + d.length) rfl gS rfl
    have hge : ∀ (k : Nat), k < tys.length → ((tys ++ [((0 : Int), (1 : Int)), (0, 0), (1, 0)]) ++ [((0 : Int), (0 : Int))])[k]? = (tys ++ [((0 : Int), (1 : Int))])[k]? := fun k hk => by
      rw [List.append_assoc, List.getElem?_append_left hk, List.getElem?_append_left hk]
    refine ⟨(0, 0) :: (tys ++ [(0, 1), (0, 0), (1, 0)]), ?_, rfl⟩
    rw [List.append_assoc]
    refine g.cons (o := ⟨20, b + 3 + d.length⟩) (i := ⟨[116, 114, 121], 3, 0, 0⟩) rfl (ok_jmp (i := ⟨[116, 114, 121], 3, 0, 0⟩) rfl rfl ⟨by omega, by omega⟩) ⟨by omega, by omega, by omega, by omega⟩ ⟨(by show (0 : Int) ≤ 0; omega), (by show (0 : Int) - 0 + 0 ≤ 32; omega)⟩ (fun e => by cases e) (fun q hq => ?_)
    have hq : q ∈ [(b + 1, ((0 : Int) - 0 + 0, (0 : Int) + 1)), (b + 3 + (d.length : Int), ((0 : Int) + 1, (0 : Int)))] := hq
    rcases List.mem_cons.1 hq with rfl | hq
    · refine ⟨0, by simp only; omega, ?_⟩
      rw [hge 0 (by rw [g1.len]; omega), g2]
      rfl
    · rw [List.mem_singleton.1 hq]
      refine ⟨d.length + 2, by simp only; omega, ?_⟩
      rw [List.append_assoc, List.getElem?_append_right (by rw [g1.len]; omega), g1.len, Nat.add_sub_cancel_left]
      rfl
theorem tail_LT {im : Im} (hI : GoodIm im) {n : Int} (hn : 0 ≤ n ∧ n < 8) (b : Int) (e : Ty) : LT im b [(0, 0), (1, 0)] [⟨2, n⟩, ⟨18, 0⟩] e := by
  obtain ⟨i1, a1, a2, a3, a4⟩ := ok_lit hI (c := 2) (a := n) (ar := 2) (t := 0) (p := 1) rfl (by simp [aOk]; omega)
  obtain ⟨i2, b1, b2, b3, b4⟩ := ok_lit hI (c := 18) (a := 0) (ar := 0) (t := 1) (p := 0) rfl rfl
  refine .cons (i := i1) (.cons (i := i2) (.nil ..) b1 b2 ⟨by omega, by omega, by omega, by omega⟩ (by rw [b3, b4]; decide) (fun e => by cases e) (fun q hq => ?_)) a1 a2 ⟨by omega, by omega, by omega, by omega⟩ (by rw [a3, a4]; decide) (fun e => by cases e) (fun q hq => ?_)
  · cases hq
  · rw [sucs_str (by rfl)] at hq
    rw [List.mem_singleton.1 hq, a3, a4]
    exact ⟨0, by simp only; omega, rfl⟩
theorem start_app {tys tys' : List Ty} {e e' : Ty} (h : (tys ++ [e])[0]? = some e) (h' : (tys' ++ [e'])[0]? = some e) : (tys ++ tys' ++ [e'])[0]? = some e := by
  cases tys with
  | nil => exact h'
  | cons a r => simpa using h
theorem Parts.len {c : List Op} {k : Nat} (h : Parts c k) : c.length ≤ 12 * k := by
  induction h with
  | nil => simp
  | snoc _ hp ih => have := hp.len; rw [List.length_append]; omega
theorem parts_LT {im : Im} (hI : GoodIm im) {c : List Op} {k : Nat} (h : Parts c k) : k ≤ 12 → ∃ tys, LT im 0 tys c (0, 0) ∧ (tys ++ [((0 : Int), (0 : Int))])[0]? = some (0, 0) := by
  induction h with
  | nil => exact fun _ => ⟨[], .nil .., rfl⟩
  | @snoc c p k h hp ih =>
    intro hk
    have hl := h.len
    obtain ⟨tys, g1, g2⟩ := ih (by omega)
    obtain ⟨tys', g3, g4⟩ := part_LT hI (b := c.length) ⟨by omega, by omega⟩ hp
    exact ⟨_, g1.append (b' := c.length) (by omega) g3 g4, start_app g2 g4⟩
theorem sucs_ge {im : Im} {o : Op} {i : Info} {x d t : Int} (h1 : takes im o ≤ d) (h2 : 0 ≤ d) (h3 : 0 ≤ i.pu) : ∀ q ∈ sucs im o i x d t, 0 ≤ q.2.1 := by
  intro q
  unfold sucs
  cases (o.c == 18 || o.c == 19) <;> cases (o.c == 15) <;> cases (o.c == 16) <;> cases (o.c == 20) <;> cases (o.c == 21) <;> simp only [cond_true, cond_false, List.mem_cons, List.not_mem_nil, or_false] <;> intro hq
  all_goals first
    | exact hq.elim
    | (rcases hq with rfl | rfl <;> simp only <;> omega)
    | (subst hq; simp only; omega)
    | fail
theorem ar3 {c : Int} {i : Info} (h : inf c = some i) (h3 : i.ar = 3) : c = 15 ∨ c = 16 ∨ c = 20 := by
  obtain ⟨c1, c2, _⟩ := inf_some h
  have hall : ((List.range 48).all fun n => match inf (n : Int) with
    | some i => !(i.ar == 3) || (n == 15 || (n == 16 || n == 20))
    | none => true) = true := by kernel_rfl
  have hm := List.all_eq_true.1 hall c.toNat (List.mem_range.2 (by omega))
  rw [Int.toNat_of_nonneg (by omega), h] at hm
  simp only [h3] at hm
  simp at hm
  omega
theorem typed_good {im : Im} (hI : GoodIm im) {f : Fn} (hf : GoodFn f) : ∃ tys, Typed im f.code tys ∧ tys[0]? = some (0, 0) ∧ (∀ (x : Nat) (o : Op) (i : Info) (d t : Int), f.code[x]? = some o → inf o.c = some i → tys[x]? = some (d, t) → ∀ q ∈ sucs im o i x d t, (x : Int) < q.1) ∧ (∀ o ∈ f.code, opErr im f o = none ∧ rightB o = true) ∧ f.code.length ≤ 146 := by
  obtain ⟨h1, h2, p, k, n, hp, _, hk, n1, n2, hc⟩ := hf
  have hl := hp.len
  obtain ⟨tys, g1, g2⟩ := parts_LT hI hp hk
  have g := g1.append (b' := p.length) (by omega) (tail_LT hI ⟨n1, n2⟩ p.length (-5, 0)) rfl
  rw [← hc] at g
  have hst : (tys ++ [((0 : Int), (0 : Int)), (1, 0)])[0]? = some (0, 0) := by
    cases tys with
    | nil => rfl
    | cons a r => simpa using g2
  generalize tys ++ [((0 : Int), (0 : Int)), (1, 0)] = T at g hst
  have key : ∀ (x : Nat) (o : Op), f.code[x]? = some o → ∃ i d t, inf o.c = some i ∧ OkOp im o ∧ T[x]? = some (d, t) ∧ (0 ≤ d ∧ d ≤ 8 ∧ 0 ≤ t ∧ t ≤ 1) ∧ (takes im o ≤ d ∧ d - takes im o + i.pu ≤ 32) ∧ (o.c = 21 → 0 < t) ∧ ∀ q ∈ sucs im o i x d t, ∃ y : Nat, q.1 = y ∧ x < y ∧ y < f.code.length ∧ T[y]? = some q.2 := by
    intro x o hx
    obtain ⟨i, d, t, k1, k2, k3, k4, k5, k6, k7⟩ := g.op x o hx
    obtain ⟨_, _, _, _, _, _, p2, _⟩ := inf_some k1
    refine ⟨i, d, t, k1, k2, k3, k4, k5, k6, fun q hq => ?_⟩
    obtain ⟨y, y1, y2, y3⟩ := k7 q (by rw [Int.zero_add]; exact hq)
    have hge := sucs_ge k5.1 k4.1 p2 q hq
    have hy : y < T.length := by
      have hy1 := (List.getElem?_eq_some_iff.1 y3).1
      simp at hy1
      rcases Nat.lt_or_ge y T.length with h | h
      · exact h
      · have e : y = T.length := by omega
        subst e
        rw [List.getElem?_append_right (Nat.le_refl _), Nat.sub_self] at y3
        simp only [List.getElem?_cons_zero, Option.some.injEq] at y3
        rw [← y3] at hge
        simp at hge
    rw [List.getElem?_append_left hy] at y3
    exact ⟨y, by omega, y2, by rw [← g.len]; exact hy, y3⟩
  refine ⟨T, ⟨g.len, fun x o hx => ?_⟩, hst, fun x o i d t hx hi ht q hq => ?_, fun o ho => ?_, ?_⟩
  · obtain ⟨i, d, t, k1, k2, k3, k4, k5, k6, k7⟩ := key x o hx
    refine ⟨i, d, t, k1, k3, ⟨k4.1, by omega, k4.2.2.1, by omega⟩, k5, k6, fun _ => ⟨by omega, by omega⟩, fun q hq => ?_⟩
    obtain ⟨y, y1, _, _, y4⟩ := k7 q hq
    exact ⟨y, y1, y4⟩
  · obtain ⟨i', d', t', k1, k2, k3, k4, k5, k6, k7⟩ := key x o hx
    rw [hi] at k1
    cases k1
    rw [ht] at k3
    cases k3
    obtain ⟨y, y1, y2, _, _⟩ := k7 q hq
    omega
  · obtain ⟨x, hx⟩ := List.mem_iff_getElem?.1 ho
    obtain ⟨i, d, t, k1, k2, k3, k4, k5, k6, k7⟩ := key x o hx
    refine ⟨k2.noerr f h1 h2 fun i' hi' h3 => ?_, k2.right⟩
    rw [k1] at hi'
    cases hi'
    have hm : ∃ r, (o.a, r) ∈ sucs im o i x d t := by
      rcases ar3 k1 h3 with e | e | e
      · exact ⟨(d - takes im o + i.pu, t), by unfold sucs; rw [e]; exact List.mem_cons_self⟩
      · exact ⟨(d - takes im o + i.pu, t), by unfold sucs; rw [e]; exact List.mem_cons_self⟩
      · exact ⟨(d + 1, t), by unfold sucs; rw [e]; exact List.mem_cons_of_mem _ List.mem_cons_self⟩
    obtain ⟨r, hr⟩ := hm
    obtain ⟨y, y1, _, y3, _⟩ := k7 _ hr
    simp only at y1
    omega
  · rw [hc, List.length_append]
    simp only [List.length_cons, List.length_nil]
    omega
end Go.Proofs.YtoibcfioicdlhaaGreatDoor
namespace Go.Proofs.YtoibcfioicdlhaaGreatDoor
open Go.Vx
set_option maxRecDepth 100000
theorem parts_pos {im : Im} (hI : GoodIm im) {f : Fn} (hf : GoodFn f) : 0 < f.code.length := by
  obtain ⟨tys, h1, h2, _⟩ := typed_good hI hf
  obtain ⟨_, _, p, k, n, hp, _, hk, n1, n2, hc⟩ := hf
  rw [hc]; simp
theorem okFn_good {im : Im} (hI : GoodIm im) {f : Fn} (hf : GoodFn f) : okFn f = true := by
  obtain ⟨tys, _, _, _, h, hl⟩ := typed_good hI hf
  have hp := parts_pos hI hf
  have h1 := hf.1
  have h2 := hf.2.1
  simp only [okFn, Bool.and_eq_true, decide_eq_true_eq, List.all_eq_true]
  exact ⟨by omega, by omega, by omega, by omega, by omega, hp, by omega, fun o ho => (h o ho).2⟩
theorem okIm_good {im : Im} (hI : GoodIm im) : OkIm im :=
  ⟨by rw [hI.1]; decide, by rw [hI.1]; exact cs16_ok, by rw [hI.2.1]; decide, by rw [hI.2.1]; decide, fun f hm => okFn_good hI (hI.2.2 f hm)⟩
theorem opsErr_of {im : Im} {fn : Fn} : ∀ {l : List Op} {x : Int}, (∀ o ∈ l, opErr im fn o = none) → opsErr im fn l x = none
  | [], _, _ => rfl
  | p :: r, x, h => by
    simp only [opsErr, h p (by simp)]
    exact opsErr_of fun o ho => h o (by simp [ho])
theorem trace_good {im : Im} (hI : GoodIm im) {f : Fn} (hf : GoodFn f) {N : Nat} (hN : 146 < N) : ∃ tys s, tys[0]? = some ((0 : Int), (0 : Int)) ∧ Typed im f.code tys ∧ (∀ (x : Nat) (o : Op) (i : Info) (d t : Int), f.code[x]? = some o → inf o.c = some i → tys[x]? = some (d, t) → ∀ q ∈ sucs im o i x d t, (x : Int) < q.1) ∧ traceV im f N = some (.ok s) ∧ Rch tys s [] ∧ Clo im f.code s [] ∧ (0, (0, 0)) ∈ s := by
  obtain ⟨tys, h1, h2, h3, h4, hl⟩ := typed_good hI hf
  obtain ⟨s, g1, g2, g3, g4⟩ := trace_ok h1 (by omega) h2 (opsErr_of fun o ho => (h4 o ho).1) (N := N) (by omega)
  exact ⟨tys, s, h2, h1, h3, g1, g2, g3, g4⟩
theorem checkV_good {im : Im} (hI : GoodIm im) {N : Nat} (hN : 146 < N) : ∀ {l : List Fn} {i : Int}, (∀ f ∈ l, GoodFn f) → checkV im N l i = some (0, 0, 0)
  | [], _, _ => rfl
  | f :: r, i, h => by
    obtain ⟨_, s, _, _, _, g, _⟩ := trace_good hI (h f (by simp)) hN
    simp only [checkV, g]
    exact checkV_good hI hN fun f' hf' => h f' (by simp [hf'])
theorem check_good {im : Im} (hI : GoodIm im) : checkV im 300 im.fs 0 = some (0, 0, 0) := checkV_good hI (by decide) hI.2.2
end Go.Proofs.YtoibcfioicdlhaaGreatDoor
namespace Go.Proofs.YtoibcfioicdlhaaGreatDoor
open Go.Vx
set_option maxRecDepth 100000
theorem lookI_of {x : Int} {t : Ty} : ∀ {s : Sn} {i : Nat}, (s.map (·.1)).Nodup → (x, t) ∈ s → ∃ j, lookI s x i = some (j, t)
  | [], _, _, h => by cases h
  | p :: q, i, hn, h => by
    rw [List.map_cons, List.nodup_cons] at hn
    simp only [lookI]
    rcases List.mem_cons.1 h with h | h
    · subst h
      simp
    · have : (x == p.1) = false := by
        rw [beq_eq_false_iff_ne]
        intro e
        exact hn.1 (e ▸ List.mem_map_of_mem (f := (·.1)) h)
      simp only [this, cond_false]
      exact lookI_of hn.2 h
theorem nodup_len : ∀ (n : Nat) (l : List Int), l.Nodup → (∀ x ∈ l, 0 ≤ x ∧ x < n) → l.length ≤ n
  | 0, [], _, _ => Nat.le_refl _
  | 0, x :: r, _, h => by have := h x (by simp); omega
  | n + 1, l, hn, h => by
    have h1 := nodup_len n (l.erase (n : Int)) (hn.erase _) (fun x hx => by
      rw [hn.mem_erase_iff] at hx
      have := h x hx.2
      have := hx.1
      omega)
    rw [List.length_erase] at h1
    split at h1 <;> omega
theorem depths_get {n : Nat} {s : Sn} {x : Nat} {t : Ty} (hn : (s.map (·.1)).Nodup) (h : ((x : Int), t) ∈ s) (hx : x < n) : (depthsV n s)[x]? = some t.1 := by
  obtain ⟨j, hj⟩ := lookI_of (i := 0) hn h
  simp [depthsV, hx, hj]
theorem depths_ok {im : Im} (hI : GoodIm im) {f : Nat} {fn : Fn} (hf : im.fs[f]? = some fn) : ∃ (s : Sn), SatP Tryz.prog 18 [agI im, .d (.int .i64 f)] (.d (.sl 1 (rowsI (depthsV fn.code.length s)))) ∧ (s.map (·.1)).Nodup ∧ (∀ p ∈ s, ∃ (x : Nat) (o : Op) (i : Info), p.1 = x ∧ fn.code[x]? = some o ∧ inf o.c = some i ∧ opErr im fn o = none ∧ rightB o = true ∧ (0 ≤ p.2.1 ∧ p.2.1 ≤ 32 ∧ 0 ≤ p.2.2 ∧ p.2.2 ≤ 16) ∧ (takes im o ≤ p.2.1 ∧ p.2.1 - takes im o + i.pu ≤ 32) ∧ (o.c = 21 → 0 < p.2.2) ∧ (o.c = 20 → p.2.2 < 16 ∧ p.2.1 < 32) ∧ ∀ q ∈ sucs im o i x p.2.1 p.2.2, q ∈ s ∧ (x : Int) < q.1) ∧ (0, (0, 0)) ∈ s ∧ fn.code.length ≤ 146 := by
  have hg := hI.2.2 fn (List.mem_of_getElem? hf)
  obtain ⟨tys, t1, t2, t3, t4, t5⟩ := typed_good hI hg
  obtain ⟨s, g1, g2, g3, g4⟩ := trace_ok t1 (by omega) t2 (opsErr_of fun o ho => (t4 o ho).1) (N := 300) (by omega)
  have key : ∀ p ∈ s, ∃ x : Nat, p.1 = x ∧ x < fn.code.length ∧ tys[x]? = some p.2 := by
    intro p hp
    obtain ⟨x, h1, h2⟩ := g2.sub p hp
    exact ⟨x, h1, by have := (List.getElem?_eq_some_iff.1 h2).1; have := t1.len; omega, h2⟩
  refine ⟨s, depths18 im (okIm_good hI) 300 f fn hf (check_good hI) s g1 ?_ ?_, g2.nd, ?_, g4, t5⟩
  · simp only [okKs, Bool.and_eq_true, decide_eq_true_eq, List.all_eq_true]
    have hr : ∀ x ∈ s.map (·.1), 0 ≤ x ∧ x < ((fn.code.length : Nat) : Int) := by
      intro x hx
      obtain ⟨p, hp, rfl⟩ := List.mem_map.1 hx
      obtain ⟨y, h1, h2, _⟩ := key p hp
      omega
    refine ⟨?_, g2.nd, fun x hx => ⟨(hr x hx).1, by have := (hr x hx).2; omega⟩⟩
    have := nodup_len _ _ g2.nd hr
    omega
  · intro p hp
    obtain ⟨y, h1, h2, _⟩ := key p hp
    omega
  · intro p hp
    obtain ⟨x, h1, h2, h3⟩ := key p hp
    obtain ⟨o, ho⟩ : ∃ o, fn.code[x]? = some o := ⟨_, List.getElem?_eq_getElem h2⟩
    obtain ⟨i, d, t, a1, a2, a3, a4, a5, a6, a7⟩ := t1.at' x o ho
    rw [h3, Option.some.injEq] at a2
    rw [a2]
    have hm := t4 o (List.mem_of_getElem? ho)
    refine ⟨x, o, i, h1, ho, a1, hm.1, hm.2, a3, a4, a5, a6, fun q hq => ⟨?_, t3 x o i d t ho a1 (by rw [h3, a2]) q hq⟩⟩
    exact g3 p hp (by simp) x o i h1 ho a1 q (by rw [a2]; exact hq)
end Go.Proofs.YtoibcfioicdlhaaGreatDoor
