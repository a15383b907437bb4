/- Ways to use the conditions: a test is parted; a loop keeps what it does not write. Conditions: none; lemmas on the definitions before. -/
import Derived.Test.YtoibcfioicdlhaaGreatDoorQAQ
namespace Go.Vx
theorem sp_intro {b : Bool} {p q : Prop} (h1 : b = true → p) (h2 : b = false → q) : sp b p q := by
  cases b
  · exact h2 rfl
  · exact h1 rfl
theorem sp_t {b : Bool} {p q : Prop} (h : b = true) (hp : p) : sp b p q := by subst h; exact hp
theorem sp_f {b : Bool} {p q : Prop} (h : b = false) (hq : q) : sp b p q := by subst h; exact hq
theorem outs_eq {x y : V} (h : x = y) : Out.ret x = Out.ret y := by rw [h]
def keepT : List Nat → T → T
  | _, [] => []
  | ws, p :: r => bif has ws p.1 then keepT ws r else p :: keepT (p.1 :: ws) r
theorem keepT_subs (t : T) : ∀ (r : T) (ws : List Nat), (∀ i, has ws i = false → gs t i = gs r i) → subs t (keepT ws r) := by
  intro r
  induction r with
  | nil => intro ws _; exact trivial
  | cons p r ih =>
    intro ws hw
    simp only [keepT]
    cases hp : has ws p.1 with
    | true =>
      refine ih ws fun i hi => ?_
      rw [hw i hi, gs_cons, nbeq (fun e => by rw [e] at hp; rw [hp] at hi; cases hi)]
      rfl
    | false =>
      refine ⟨?_, ih _ fun i hi => ?_⟩
      · rw [hw _ hp, gs_cons, Nat.beq_refl]
        exact wkb_self _
      · simp only [has, List.any_cons, Bool.or_eq_false_iff] at hi
        have hne : p.1 ≠ i := fun e => by
          have := hi.1
          rw [e, Nat.beq_refl] at this
          cases this
        have hi2 : has ws i = false := hi.2
        rw [hw i hi2, gs_cons, nbeq hne]
        rfl
theorem subs_append {t : T} : ∀ {a b : T}, subs t a → subs t b → subs t (a ++ b)
  | [], _, _, h => h
  | _ :: _, _, h1, h2 => ⟨h1.1, subs_append h1.2 h2⟩
theorem lx_intro {t : T} {h : H} {n0 : Nat} {body : T → H → (Ex → T → H → Prop) → Prop} {K : Ex → T → H → Prop}
    (hx : ∃ (A : Type) (I : A → Prop) (S1 : A → T) (S2 : A → H) (m : A → Nat) (x : A),
      (I x ∧ subs t (S1 x) ∧ subh h (S2 x) ∧ lts n0 (S1 x) (S2 x) = true) ∧ ∀ x, I x → body (S1 x) (S2 x) fun e t h => match e with
        | .nrm => ∃ y, I y ∧ m y < m x ∧ subs t (S1 y) ∧ subh h (S2 y) ∧ lts n0 (S1 y) (S2 y) = true
        | .ext i => K (.ext i) t h
        | .ret => K .ret t h
        | .pan v => K (.pan v) t h) : lx n0 body t h K := by
  unfold lx
  exact hx
theorem loop_use {t : T} {h : H} {n0 : Nat} {body : T → H → (Ex → T → H → Prop) → Prop} {K : Ex → T → H → Prop} (ws : List Nat) {A : Type} (I : A → Prop) (f : A → T) (g : A → H) (m : A → Nat) (x : A)
    (h1 : I x) (h2 : subs t (f x)) (h3 : subh h (g x)) (h4 : lts n0 (f x ++ keepT ws t) (g x) = true)
    (hr : ∀ x, I x → fl (f x ++ keepT ws t) fun s => body s (g x) fun e t' h' => match e with
        | .nrm => ∃ y, I y ∧ m y < m x ∧ subs t' (f y ++ keepT ws t) ∧ subh h' (g y) ∧ lts n0 (f y ++ keepT ws t) (g y) = true
        | .ext i => K (.ext i) t' h'
        | .ret => K .ret t' h'
        | .pan v => K (.pan v) t' h') :
    lx n0 body t h K := by
  unfold lx
  refine ⟨A, I, fun a => f a ++ keepT ws t, g, m, x, ⟨h1, subs_append h2 (keepT_subs t t ws fun _ _ => rfl), h3, h4⟩, fun a ha => ?_⟩
  have := hr a ha
  rwa [fl_eq] at this
theorem wkb_of {a b : V} (h : a = b) : wkb a b := h ▸ wkb_self a
theorem wkB_of {a b : B} (h : a = b) : wkB a b := by
  subst h
  cases a <;> first | exact rfl | exact Or.inl rfl
theorem loop_use2 {t : T} {h : H} {n0 : Nat} {body : T → H → (Ex → T → H → Prop) → Prop} {K : Ex → T → H → Prop} (rest : T) {A : Type} (I : A → Prop) (f : A → T) (g : A → H) (m : A → Nat) (x : A)
    (h1 : I x) (h2 : subs t (f x ++ rest)) (h3 : subh h (g x)) (h4 : lts n0 (f x ++ rest) (g x) = true)
    (hr : ∀ x, I x → fl (f x ++ rest) fun s => body s (g x) fun e t' h' => match e with
        | .nrm => ∃ y, I y ∧ m y < m x ∧ subs t' (f y ++ rest) ∧ subh h' (g y) ∧ lts n0 (f y ++ rest) (g y) = true
        | .ext i => K (.ext i) t' h'
        | .ret => K .ret t' h'
        | .pan v => K (.pan v) t' h') :
    lx n0 body t h K := by
  unfold lx
  refine ⟨A, I, fun a => f a ++ rest, g, m, x, ⟨h1, h2, h3, h4⟩, fun a ha => ?_⟩
  have := hr a ha
  rwa [fl_eq] at this
end Go.Vx
namespace Go.Vx
abbrev iS (d : Nat) (x : X) : I := ⟨some d, x, none⟩
abbrev iG (d : Nat) (x : X) (g : Nat) (b : Bool) : I := ⟨some d, x, some (g, b)⟩
abbrev iN (x : X) : I := ⟨none, x, none⟩
class ZA (p : Prop) (q : outParam Prop) : Prop where
  go : q → p
instance {p q : Prop} : ZA (apn p q) p := ⟨apn_own⟩
instance {p q : Prop} : ZA (bsn p q) q := ⟨bsn_data⟩
instance {p q : Prop} : ZA (rxn p q) q := ⟨rxn_data⟩
instance {K : List Nat × Nat → Prop} : ZA (fro K) (K ([], 0)) := ⟨fro_nil⟩
instance {p q : Prop} : ZA (cfo p q) p := ⟨cfo_old⟩
theorem za {p q : Prop} [h : ZA p q] (k : q) : p := h.go k
class ZL (p : Prop) (a b : outParam Prop) : Prop where
  go : a → b → p
instance {a b : Prop} : ZL (a ∧ b) a b := ⟨And.intro⟩
instance {a b q : Prop} : ZL ((a ∧ b) ∨ q) a b := ⟨fun x y => .inl ⟨x, y⟩⟩
theorem zl {p a b : Prop} [h : ZL p a b] (y : b) (x : a := by (repeat' apply And.intro) <;> first | rfl | omega | (unfold inR; omega) | (simp; done) | (unfold inR; simp at *; omega) | (simp at *; omega) | (intros; contradiction)) : p := h.go x y
class ZF (p : Prop) (a b : outParam Prop) : Prop where
  go : a → b → p
instance {a b : Out} {h k : H} : ZF (a = b ∧ h = k) (a = b) (h = k) := ⟨And.intro⟩
theorem zf {p a b : Prop} [h : ZF p a b] (x : a := by exact rfl) (y : b := by exact rfl) : p := h.go x y
theorem zg {p a b : Prop} [h : ZF p a b] (x : a) (y : b := by exact rfl) : p := h.go x y
end Go.Vx
