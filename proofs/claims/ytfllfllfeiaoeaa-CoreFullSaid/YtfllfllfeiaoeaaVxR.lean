/- A row of operations in any order that is free. Conditions: none; lemmas on the definitions before. -/
import Derived.Test.YtfllfllfeiaoeaaVxQa
namespace Go.Vx

section plain
def befF (acc : List (List Nat)) (d : List Nat) : List (List Nat) := acc ++ [d ++ d.flatMap fun i => (acc[i]?).getD []]

theorem befs_go : ∀ (ds acc : List (List Nat)), (∀ i, i < acc.length → (ds.foldl befF acc)[i]? = acc[i]?) ∧ (ds.foldl befF acc).length = acc.length + ds.length ∧
    ∀ (j : Nat) (d : List Nat), ds[j]? = some d → ∃ b : List Nat, (ds.foldl befF acc)[acc.length + j]? = some b ∧ (∀ k ∈ d, k ∈ b) ∧ ∀ k ∈ b, k ∈ d ∨ ∃ k' ∈ d, ∃ b' : List Nat, (ds.foldl befF acc)[k']? = some b' ∧ k ∈ b' := by
  intro ds
  induction ds with
  | nil => intro acc; simp
  | cons d ds ih =>
    intro acc
    obtain ⟨h1, h2, h3⟩ := ih (befF acc d)
    have hl : (befF acc d).length = acc.length + 1 := by simp [befF]
    have h1' : ∀ i, i < acc.length → (ds.foldl befF (befF acc d))[i]? = acc[i]? := fun i hi => by
      rw [h1 i (by omega)]
      simp only [befF]
      exact List.getElem?_append_left hi
    simp only [List.foldl_cons]
    refine ⟨h1', by rw [h2, hl, List.length_cons]; omega, fun j e hj => ?_⟩
    cases j with
    | zero =>
      simp at hj
      subst hj
      refine ⟨d ++ d.flatMap fun i => (acc[i]?).getD [], ?_, fun k hk => by simp [hk], fun k hk => ?_⟩
      · rw [h1 _ (by omega)]
        simp [befF]
      · rw [List.mem_append] at hk
        rcases hk with hk | hk
        · exact .inl hk
        · rw [List.mem_flatMap] at hk
          obtain ⟨i, hi, hk⟩ := hk
          cases hai : acc[i]? with
          | none => rw [hai] at hk; cases hk
          | some b =>
            rw [hai] at hk
            exact .inr ⟨i, hi, b, by rw [h1' i (List.getElem?_eq_some_iff.1 hai).1, hai], hk⟩
    | succ j =>
      obtain ⟨b, g1, g2, g3⟩ := h3 j e (by simpa using hj)
      rw [hl] at g1
      exact ⟨b, by rw [← g1]; congr 1; omega, g2, g3⟩

theorem befs_ok (ds : List (List Nat)) : (befs ds).length = ds.length ∧ ∀ (j : Nat) (d : List Nat), ds[j]? = some d → ∃ b : List Nat, (befs ds)[j]? = some b ∧ (∀ k ∈ d, k ∈ b) ∧ ∀ k ∈ b, k ∈ d ∨ ∃ k' ∈ d, ∃ b' : List Nat, (befs ds)[k']? = some b' ∧ k ∈ b' := by
  obtain ⟨_, h2, h3⟩ := befs_go ds []
  have e : befs ds = ds.foldl befF [] := rfl
  rw [e]
  refine ⟨by simpa using h2, fun j d hj => ?_⟩
  have := h3 j d hj
  simpa using this

theorem full_ok : ∀ (bs : List (List Nat)) (k : Nat), fullFrom k bs = true → ∀ (j : Nat) (b : List Nat), bs[j]? = some b → ∀ i, i < k + j → i ∈ b := by
  intro bs
  induction bs with
  | nil => intro k _ j b hj; simp at hj
  | cons c bs ih =>
    intro k hk j b hj i hi
    simp only [fullFrom, Bool.and_eq_true, List.all_eq_true, List.mem_range] at hk
    cases j with
    | zero => simp at hj; subst hj; exact has_iff.1 (hk.1 i (by omega))
    | succ j => exact ih (k + 1) hk.2 j b (by simpa using hj) i (by omega)

theorem okB_ok : ∀ (bs : List (List Nat)) (k : Nat), okB k bs = true → ∀ (j : Nat) (b : List Nat), bs[j]? = some b → ∀ i ∈ b, i < k + j := by
  intro bs
  induction bs with
  | nil => intro k _ j b hj; simp at hj
  | cons c bs ih =>
    intro k hk j b hj i hi
    simp only [okB, Bool.and_eq_true, List.all_eq_true] at hk
    cases j with
    | zero => simp at hj; subst hj; have := (Nat.blt_eq ..).mp (hk.1 i hi); omega
    | succ j => have := ih (k + 1) hk.2 j b (by simpa using hj) i hi; omega

theorem okD_ok {q : List (I × List Nat)} (h : okD q = true) {i j : Nat} {x y : I × List Nat} (hi : q[i]? = some x) (hj : q[j]? = some y) (hne : i ≠ j) :
    (∀ s, x.1.d = some s → y.1.d ≠ some s) ∧ ∀ s, y.1.d = some s → s ∈ slots x.1.o ++ gslot x.1.g → j ∈ x.2 ∨ i ∈ y.2 := by
  simp only [okD, List.all_eq_true] at h
  have hx : (x, i) ∈ q.zipIdx := by rw [List.mem_zipIdx_iff_getElem?]; exact hi
  have hy : (y, j) ∈ q.zipIdx := by rw [List.mem_zipIdx_iff_getElem?]; exact hj
  have h1 := h _ hx _ hy
  simp only [nbeq hne, Bool.false_or, Bool.and_eq_true] at h1
  refine ⟨fun s h2 h3 => ?_, fun s h2 h3 => ?_⟩
  · have := h1.1
    rw [h2, h3] at this
    simp at this
  · have := h1.2
    rw [h2] at this
    simp only [Bool.or_eq_true, Bool.not_eq_true'] at this
    rcases this with (h4 | h4) | h4
    · rw [Bool.eq_false_iff] at h4
      exact absurd (has_iff.2 h3) h4
    · exact .inl (has_iff.1 h4)
    · exact .inr (has_iff.1 h4)
end plain

section
variable {P : Program} {E : Ent} {n : Nat} {h : H} (ow : Nat → Bool)

/-- What one of them comes to. -/
def qok (P : Program) (i : I) (t : T) (h : H) (v : V) : Prop :=
  match i.g with
  | none => Qt ow P i.o t h v
  | some (j, x) => (∃ b, gs t j = .d (.bool b) ∧ (b = x → Qt ow P i.o t h v) ∧ (b ≠ x → v = .ud)) ∨ (gs t j = .ud ∧ v = .ud)

theorem Qt.congr {x : X} {t t' : T} {v : V} (hq : Qt ow P x t h v) (ht : ∀ s ∈ slots x, gs t' s = gs t s) : Qt ow P x t' h v :=
  fun t'' h1 h2 => hq t'' h1 fun s hs => (h2 s hs).trans (ht s hs)
theorem Qt.more {x : X} {t : T} {h1 : H} {v : V} (hq : Qt ow P x t h v) (hM : More h1 h) : Qt ow P x t h1 v :=
  fun t' h2 ht hM2 => hq t' h2 ht fun i b hb hn => hM2 i b (hM i b hb hn) hn

theorem qok.congr {i : I} {t t' : T} {v : V} (hq : qok ow P i t h v) (ht : ∀ s ∈ slots i.o ++ gslot i.g, gs t' s = gs t s) : qok ow P i t' h v := by
  unfold qok at hq ⊢
  have h1 : ∀ s ∈ slots i.o, gs t' s = gs t s := fun s hs => ht s (by simp [hs])
  split at hq
  · exact Qt.congr ow hq h1
  · rename_i j x hg
    have h2 : gs t' j = gs t j := ht j (by simp [gslot, hg])
    rw [h2]
    rcases hq with ⟨b, g1, g2, g3⟩ | hq
    · exact .inl ⟨b, g1, fun hb => Qt.congr ow (g2 hb) h1, g3⟩
    · exact .inr hq

theorem qok.more {i : I} {t : T} {h1 : H} {v : V} (hq : qok ow P i t h v) (hM : More h1 h) : qok ow P i t h1 v := by
  unfold qok at hq ⊢
  split at hq
  · exact Qt.more ow hq hM
  · rcases hq with ⟨b, g1, g2, g3⟩ | hq
    · exact .inl ⟨b, g1, fun hb => Qt.more ow (g2 hb) hM, g3⟩
    · exact .inr hq

/-- What one of them comes to, and what it writes. -/
abbrev R := V × Option (Nat × B)
def stok (i : I) (t : T) (h hm : H) (w : Nat × B) : Prop :=
  ∃ x v n off cs, i = ⟨none, .st x v n, none⟩ ∧ gv t x = .p w.1 off ∧ get? h w.1 = some (.cells cs) ∧ (Nat.beq (gv t v).cs.length n = true ∧ Nat.ble (off + n) cs.length = true ∧ (gv t v).cs.all stor = true) ∧ w.2 = .cells (lay cs off (gv t v).cs) ∧ isNo ((get? hm w.1).getD .no) = true
def alok (lo : Nat) (i : I) (h hm : H) (r : R) (w : Nat × B) : Prop :=
  ∃ d cs, i = ⟨some d, .al cs, none⟩ ∧ r.1 = .p w.1 0 ∧ w.2 = .cells cs ∧ get? h w.1 = some .nw ∧ isNo ((get? hm w.1).getD .no) = true ∧ lo ≤ w.1
def rok (P : Program) (lo : Nat) (i : I) (t : T) (h hm : H) (r : R) : Prop :=
  match r.2 with
  | none => qok ow P i t hm r.1
  | some w => stok i t h hm w ∨ alok lo i h hm r w
def wr (a : H) (r : R) : H :=
  match r.2 with
  | some w => a.set w.1 w.2
  | none => a

def puts : List I → List V → T → T
  | i :: r, v :: vs, t => puts r vs (putv i.d v t)
  | _, _, t => t

theorem gs_putv {d : Option Nat} {v : V} {t : T} {s : Nat} : gs (putv d v t) s = if d = some s then v else gs t s := by
  cases d with
  | none => simp [putv]
  | some i =>
    simp only [putv, gs_cons, Option.some.injEq]
    by_cases e : i = s
    · subst e; simp
    · rw [nbeq e, if_neg e]; rfl

theorem puts_congr : ∀ (q : List I) (vs : List V) (t t' : T), (∀ s, gs t' s = gs t s) → ∀ s, gs (puts q vs t') s = gs (puts q vs t) s := by
  intro q
  induction q with
  | nil => intro vs t t' ht s; exact ht s
  | cons i q ih =>
    intro vs t t' ht s
    cases vs with
    | nil => exact ht s
    | cons v vs => exact ih vs _ _ (fun s => by rw [gs_putv, gs_putv, ht s]) s

theorem puts_agree : ∀ (q : List I) (vs : List V) (t : T), vs.length = q.length → ∀ s, (∃ (k : Nat) (i : I), q[k]? = some i ∧ i.d = some s ∧ vs[k]? = some (gs (puts q vs t) s)) ∨ ((∀ (k : Nat) (i : I), q[k]? = some i → i.d ≠ some s) ∧ gs (puts q vs t) s = gs t s) := by
  intro q
  induction q with
  | nil => intro vs t _ s; exact .inr ⟨by simp, rfl⟩
  | cons i q ih =>
    intro vs t hl s
    cases vs with
    | nil => simp at hl
    | cons v vs =>
      simp only [puts]
      rcases ih vs (putv i.d v t) (by simpa using hl) s with ⟨k, j, h1, h2, h3⟩ | ⟨h1, h2⟩
      · exact .inl ⟨k + 1, j, by simpa using h1, h2, by simpa using h3⟩
      · rw [h2, gs_putv]
        by_cases hd : i.d = some s
        · exact .inl ⟨0, i, rfl, hd, by simp [hd]⟩
        · refine .inr ⟨fun k j hj => ?_, by rw [if_neg hd]⟩
          cases k with
          | zero => simp at hj; subst hj; exact hd
          | succ k => exact h1 k j (by simpa using hj)

theorem rok.congr {lo : Nat} {i : I} {t t' : T} {h hm : H} {r : R} (hq : rok ow P lo i t h hm r) (ht : ∀ s ∈ slots i.o ++ gslot i.g, gs t' s = gs t s) : rok ow P lo i t' h hm r := by
  unfold rok at hq ⊢
  split at hq
  · exact qok.congr ow hq ht
  · rcases hq with hq | hq
    rotate_left
    · exact .inr hq
    obtain ⟨x, v, n, off, cs, rfl, h1, h2, h3, h4, h5⟩ := hq
    have e1 : gv t' x = gv t x := gv_c fun s hs => ht s (by simp [slots, hs])
    have e2 : gv t' v = gv t v := gv_c fun s hs => ht s (by simp [slots, hs])
    exact .inl ⟨x, v, n, off, cs, rfl, by rw [e1]; exact h1, h2, by rw [e2]; exact h3, by rw [e2]; exact h4, h5⟩

/-- The run in the text's order. -/
def Ref (P : Program) (lo : Nat) (q : List (I × List Nat)) (t : T) (h hm a : H) (ds : List Nat) (rs : List R) (t' : T) (a' : H) : Prop :=
  rs.length = q.length ∧ (∀ s, gs t' s = gs (puts (q.map (·.1)) (rs.map (·.1)) t) s) ∧
    (∀ (j : Nat) (x : I × List Nat), q[j]? = some x → ∃ r, rs[j]? = some r ∧ rok ow P lo x.1 (puts ((q.take j).map (·.1)) ((rs.take j).map (·.1)) t) h hm r) ∧ a' = rs.foldl wr a ∧
    (∀ (j : Nat) (r : R) (w : Nat × B), rs[j]? = some r → r.2 = some w → w.1 ∉ ds) ∧
    ∀ (j k : Nat) (r r' : R) (w w' : Nat × B), rs[j]? = some r → rs[k]? = some r' → r.2 = some w → r'.2 = some w' → j ≠ k → w.1 ≠ w'.1

theorem Ref.cons {lo : Nat} {x : I × List Nat} {q : List (I × List Nat)} {t t1 t' : T} {h hm a a1 a' : H} {ds ds1 : List Nat} {rs : List R} (r : R) (hr : Ref ow P lo q t1 h hm a1 ds1 rs t' a') (ht1 : ∀ s, gs t1 s = gs (putv x.1.d r.1 t) s) (hv : rok ow P lo x.1 t h hm r) (ha : a1 = wr a r)
    (hds : ∀ i, i ∈ ds → i ∈ ds1) (hw : ∀ w, r.2 = some w → w.1 ∉ ds ∧ w.1 ∈ ds1) : Ref ow P lo (x :: q) t h hm a ds (r :: rs) t' a' := by
  obtain ⟨h1, h3, h4, h5, h6, h7⟩ := hr
  refine ⟨by simp [h1], fun s => ?_, fun j y hj => ?_, by rw [h5, ha]; rfl, fun j r' w hj hr' => ?_, fun j k r1 r2 w w' hj hk e1 e2 hne => ?_⟩
  · rw [h3 s]
    exact puts_congr _ _ _ _ ht1 s
  · cases j with
    | zero => simp at hj; subst hj; exact ⟨r, rfl, hv⟩
    | succ j =>
      obtain ⟨u, g1, g2⟩ := h4 j y (by simpa using hj)
      refine ⟨u, by simpa using g1, ?_⟩
      simp only [List.take_succ_cons, List.map_cons, puts]
      exact rok.congr ow g2 fun s _ => (puts_congr _ _ _ _ ht1 s).symm
  · cases j with
    | zero => simp at hj; subst hj; exact (hw w hr').1
    | succ j => exact fun hi => h6 j r' w (by simpa using hj) hr' (hds _ hi)
  · cases j with
    | zero =>
      cases k with
      | zero => exact absurd rfl hne
      | succ k =>
        simp at hj; subst hj
        exact fun e => h6 k r2 w' (by simpa using hk) e2 (e ▸ (hw w e1).2)
    | succ j =>
      cases k with
      | zero =>
        simp at hk; subst hk
        exact fun e => h6 j r1 w (by simpa using hj) e1 (e ▸ (hw w' e2).2)
      | succ k => exact h7 j k r1 r2 w w' (by simpa using hj) (by simpa using hk) e1 e2 (by omega)

theorem rq_ref {lo : Nat} {hm h : H} {K : T → H → Prop} : ∀ (q : List (I × List Nat)) (t : T) (a : H) (ds fr : List Nat), rq (Sat P) ow lo hm h q t a ds fr K → ∃ (rs : List R) (t' : T) (a' : H), K t' a' ∧ Ref ow P lo q t h hm a ds rs t' a' := by
  intro q
  induction q with
  | nil => intro t a ds fr hk; exact ⟨[], t, a, hk, rfl, fun _ => rfl, by simp, rfl, by simp, by simp⟩
  | cons x q ih =>
    intro t a ds fr hk
    have fin : ∀ (r : R) (t1 : T) (a1 : H) (ds1 fr1 : List Nat), (∀ s, gs t1 s = gs (putv x.1.d r.1 t) s) → rok ow P lo x.1 t h hm r → a1 = wr a r → (∀ i, i ∈ ds → i ∈ ds1) → (∀ w, r.2 = some w → w.1 ∉ ds ∧ w.1 ∈ ds1) → rq (Sat P) ow lo hm h q t1 a1 ds1 fr1 K →
        ∃ (rs : List R) (t' : T) (a' : H), K t' a' ∧ Ref ow P lo (x :: q) t h hm a ds rs t' a' := by
      intro r t1 a1 ds1 fr1 ht1 hv ha hds hw hk
      obtain ⟨rs, t', a', hK, hR⟩ := ih t1 a1 ds1 fr1 hk
      exact ⟨r :: rs, t', a', hK, Ref.cons ow r hR ht1 hv ha hds hw⟩
    have quiet : ∀ (v : V) (t1 : T), (∀ s, gs t1 s = gs (putv x.1.d v t) s) → qok ow P x.1 t hm v → rq (Sat P) ow lo hm h q t1 a ds fr K → ∃ (rs : List R) (t' : T) (a' : H), K t' a' ∧ Ref ow P lo (x :: q) t h hm a ds rs t' a' :=
      fun v t1 ht1 hv hk => fin (v, none) t1 a ds fr ht1 hv rfl (fun _ h => h) (fun w e => by cases e) hk
    have two : ∀ (o : X), x.1.o = o → (match x.1.g with
      | none => qx (Sat P) ow o t hm fun v => Put x.1.d v t fun t => rq (Sat P) ow lo hm h q t a ds fr K
      | some (j, w) => (match gs t j with
        | .d (.bool b) => sp b
            (bif w then qx (Sat P) ow o ((j, .d (.bool true)) :: t) hm fun v => Put x.1.d v ((j, .d (.bool true)) :: t) fun t => rq (Sat P) ow lo hm h q t a ds fr K
              else Put x.1.d .ud ((j, .d (.bool true)) :: t) fun t => rq (Sat P) ow lo hm h q t a ds fr K)
            (bif w then Put x.1.d .ud ((j, .d (.bool false)) :: t) fun t => rq (Sat P) ow lo hm h q t a ds fr K
              else qx (Sat P) ow o ((j, .d (.bool false)) :: t) hm fun v => Put x.1.d v ((j, .d (.bool false)) :: t) fun t => rq (Sat P) ow lo hm h q t a ds fr K)
        | .ud => Put x.1.d .ud t fun t => rq (Sat P) ow lo hm h q t a ds fr K
        | _ => False)) → ∃ (rs : List R) (t' : T) (a' : H), K t' a' ∧ Ref ow P lo (x :: q) t h hm a ds rs t' a' := by
      intro o ho hk
      cases hg : x.1.g with
      | none =>
        rw [hg] at hk
        obtain ⟨v, h1, h2⟩ := qx_all ow hk
        rw [Put_putv] at h1
        exact quiet v _ (fun _ => rfl) (by unfold qok; rw [hg, ho]; exact h2) h1
      | some p =>
        obtain ⟨j, y⟩ := p
        rw [hg] at hk
        simp only at hk
        split at hk
        · rename_i b hb
          have kn : ∀ s, gs ((j, .d (.bool b)) :: t) s = gs t s := gs_know hb
          have kp : ∀ v s, gs (putv x.1.d v ((j, .d (.bool b)) :: t)) s = gs (putv x.1.d v t) s := fun v s => by rw [gs_putv, gs_putv, kn]
          have yes : b = y → (qx (Sat P) ow o ((j, .d (.bool b)) :: t) hm fun v => Put x.1.d v ((j, .d (.bool b)) :: t) fun t => rq (Sat P) ow lo hm h q t a ds fr K) → ∃ (rs : List R) (t' : T) (a' : H), K t' a' ∧ Ref ow P lo (x :: q) t h hm a ds rs t' a' := by
            intro hby hk
            obtain ⟨v, h1, h2⟩ := qx_all ow hk
            rw [Put_putv] at h1
            refine quiet v _ (kp v) ?_ h1
            unfold qok
            rw [hg]
            exact .inl ⟨b, hb, fun _ => by rw [ho]; exact Qt.congr ow h2 fun s _ => (kn s).symm, fun hn => absurd hby hn⟩
          have no : b ≠ y → (Put x.1.d .ud ((j, .d (.bool b)) :: t) fun t => rq (Sat P) ow lo hm h q t a ds fr K) → ∃ (rs : List R) (t' : T) (a' : H), K t' a' ∧ Ref ow P lo (x :: q) t h hm a ds rs t' a' := by
            intro hby hk
            rw [Put_putv] at hk
            refine quiet .ud _ (kp .ud) ?_ hk
            unfold qok
            rw [hg]
            exact .inl ⟨b, hb, fun hn => absurd hn hby, fun _ => rfl⟩
          cases b <;> cases y <;> simp only [sp, cond_true, cond_false] at hk
          · exact yes rfl hk
          · exact no (by simp) hk
          · exact no (by simp) hk
          · exact yes rfl hk
        · rename_i hb
          rw [Put_putv] at hk
          exact quiet .ud _ (fun _ => rfl) (by unfold qok; rw [hg]; exact .inr ⟨hb, rfl⟩) hk
        · exact hk.elim
    by_cases hal : ∃ cs, x.1.o = .al cs
    · obtain ⟨cs, ho⟩ := hal
      simp only [rq_cons, rq1, ho] at hk
      split at hk
      · rename_i d id fr' hg hd
        split at hk
        · rename_i hnw
          obtain ⟨⟨c4, c5, c6⟩, hk⟩ := hk
          rw [fl_eq] at hk
          have hx : x.1 = ⟨some d, .al cs, none⟩ := by
            cases hx1 : x.1
            rw [hx1] at ho hg hd
            simp only at ho hg hd
            subst ho hg hd
            rfl
          have c5' : id ∉ ds := fun hi => by rw [has_iff.2 hi] at c5; cases c5
          refine fin (.p id 0, some (id, .cells cs)) _ _ (id :: ds) fr' (fun s => by rw [hd]; rfl) (.inr ⟨d, cs, hx, rfl, rfl, hnw, c4, Nat.le_of_ble_eq_true c6⟩) rfl (fun i hi => by simp [hi]) (fun w e => ?_) hk
          simp only [Option.some.injEq] at e
          subst e
          exact ⟨c5', by simp⟩
        · exact hk.elim
      · exact hk.elim
    by_cases hst : ∃ y v n, x.1.o = .st y v n
    · obtain ⟨y, v, n, ho⟩ := hst
      simp only [rq_cons, rq1, ho] at hk
      split at hk
      · rename_i id off hg hd hy
        split at hk
        · rename_i cs hcs
          obtain ⟨⟨c1, c2, c3, c4, c5⟩, hk⟩ := hk
          rw [fl_eq, fl_eq] at hk
          have hx : x.1 = ⟨none, .st y v n, none⟩ := by
            cases hx1 : x.1
            rw [hx1] at ho hg hd
            simp only at ho hg hd
            subst ho hg hd
            rfl
          have c5' : id ∉ ds := fun hi => by rw [has_iff.2 hi] at c5; cases c5
          refine fin (.ud, some (id, .cells (lay cs off (gv t v).cs))) t _ (id :: ds) fr (fun s => by rw [hd]; rfl) (.inl ⟨y, v, n, off, cs, hx, hy, hcs, ⟨c1, c2, c3⟩, rfl, c4⟩) rfl (fun i hi => by simp [hi]) (fun w e => ?_) hk
          simp only [Option.some.injEq] at e
          subst e
          exact ⟨c5', by simp⟩
        · exact hk.elim
      · exact hk.elim
    · have : rq (Sat P) ow lo hm h (x :: q) t a ds fr K = (match x.1.g with
        | none => qx (Sat P) ow x.1.o t hm fun v => Put x.1.d v t fun t => rq (Sat P) ow lo hm h q t a ds fr K
        | some (j, w) => (match gs t j with
          | .d (.bool b) => sp b
              (bif w then qx (Sat P) ow x.1.o ((j, .d (.bool true)) :: t) hm fun v => Put x.1.d v ((j, .d (.bool true)) :: t) fun t => rq (Sat P) ow lo hm h q t a ds fr K
                else Put x.1.d .ud ((j, .d (.bool true)) :: t) fun t => rq (Sat P) ow lo hm h q t a ds fr K)
              (bif w then Put x.1.d .ud ((j, .d (.bool false)) :: t) fun t => rq (Sat P) ow lo hm h q t a ds fr K
                else qx (Sat P) ow x.1.o ((j, .d (.bool false)) :: t) hm fun v => Put x.1.d v ((j, .d (.bool false)) :: t) fun t => rq (Sat P) ow lo hm h q t a ds fr K)
          | .ud => Put x.1.d .ud t fun t => rq (Sat P) ow lo hm h q t a ds fr K
          | _ => False)) := by
        rw [rq_cons]; unfold rq1
        split
        · exact absurd ⟨_, ‹_›⟩ hal
        · exact absurd ⟨_, _, _, ‹_›⟩ hst
        · rfl
      rw [this] at hk
      exact two _ rfl hk
end
end Go.Vx
