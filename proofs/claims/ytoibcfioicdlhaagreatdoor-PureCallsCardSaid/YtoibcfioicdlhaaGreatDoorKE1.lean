/- Runs of programs that call; what they come to. Conditions: bytes are bytes. -/
import Derived.Test.YtoibcfioicdlhaaGreatDoorKD
import Derived.KernelRfl
namespace Go.Proofs.YtoibcfioicdlhaaGreatDoor
open Go.Vx

/-- Which op fits next, where what is a right op is told elsewhere. -/
def fitG (rb : Op → Bool) (im : Im) (c : Co) : Option Op :=
  match c.fr.getLast? with
  | none => none
  | some f => bif within f.fu im.fs.length then (match im.fs[f.fu.toNat]? with
    | none => none
    | some fn => bif within f.pc fn.code.length then (match fn.code[f.pc.toNat]? with
      | none => none
      | some o => bif rb o && (operandB im f fn o && popOk c (takes im o)) then some o else none) else none) else none
theorem fitG_eq {rb : Op → Bool} {im : Im} {c : Co} (h : ∀ g ∈ im.fs, ∀ o ∈ g.code, rb o = rightB o) : fit im c = fitG rb im c := by
  unfold fit fitG
  cases c.fr.getLast? with
  | none => rfl
  | some f =>
    show (bif within f.fu im.fs.length then _ else none) = bif within f.fu im.fs.length then _ else none
    cases within f.fu im.fs.length with
    | false => rfl
    | true =>
      cases hg : im.fs[f.fu.toNat]? with
      | none => rfl
      | some fn =>
        show (bif within f.pc fn.code.length then _ else none) = bif within f.pc fn.code.length then _ else none
        cases within f.pc fn.code.length with
        | false => rfl
        | true =>
          cases ho : fn.code[f.pc.toNat]? with
          | none => rfl
          | some o =>
            simp only [cond_true]
            rw [h fn (List.mem_of_getElem? hg) o (List.mem_of_getElem? ho)]
def stepG (rb : Op → Bool) (im : Im) (c : Co) : Co × Ou :=
  match fitG rb im c with
  | none => (c, failed (-6))
  | some o => match c.fr.getLast? with
    | none => (c, failed (-6))
    | some f => opR im c 0 0 o f
theorem stepG_eq {rb : Op → Bool} {im : Im} {c : Co} (h : ∀ g ∈ im.fs, ∀ o ∈ g.code, rb o = rightB o) : stepR im c 0 0 = stepG rb im c := by
  unfold stepR stepG
  rw [fitG_eq h]
  cases fitG rb im c <;> rfl
def okG (rb : Op → Bool) (im : Im) (c : Co) : Bool :=
  decide (c.fr.length < 17) && (decide (c.st.length < 800000000) && (decide (c.tr.length < 900000000) && (match fitG rb im c with | some o => dom o.c | none => true)))
def okI0 (im : Im) : Bool := im.fs.all (fun g => decide (-9223372036854775808 ≤ g.args) && (decide (g.args ≤ 9223372036854775807) && decide (g.code.length < 1000000000)))
def topG (c : Co) : List Int := match c.fr.getLast? with | some f => [f.ma] | none => []
def runG (rb : Op → Bool) (im : Im) : Nat → Co × Ou → Co × Ou
  | 0, s => s
  | k + 1, s => bif s.2.k == 0 then runG rb im k (stepG rb im s.1) else s
def okRunG (rb : Op → Bool) (im : Im) : Nat → Co × Ou → Bool
  | 0, s => decide (s.1.fr.length < 17)
  | k + 1, s => bif s.2.k == 0 then okG rb im s.1 && okRunG rb im k (stepG rb im s.1) else decide (s.1.fr.length < 17)
def topsG (rb : Op → Bool) (im : Im) : Nat → Co × Ou → List Int
  | 0, _ => []
  | k + 1, s => bif s.2.k == 0 then topG s.1 ++ topsG rb im k (stepG rb im s.1) else []
/-- All along the run the machine is fit for the law of a step. -/
def okP (im : Im) : Nat → Co × Ou → Prop
  | 0, s => s.1.fr.length < 17
  | k + 1, s => s.1.fr.length < 17 ∧ (s.2.k == 0) = false ∨ s.1.fr.length < 17 ∧ (s.2.k == 0) = true ∧ okC im s.1 ∧ okP im k (stepR im s.1 0 0)
theorem okP_of {rb : Op → Bool} {im : Im} (h : ∀ g ∈ im.fs, ∀ o ∈ g.code, rb o = rightB o) (h0 : okI0 im = true) : ∀ (k : Nat) (s : Co × Ou), okRunG rb im k s = true → (∀ x ∈ topsG rb im k s, 0 ≤ x ∧ x ≤ 255) → okP im k s
  | 0, s, hr, _ => by
    show s.1.fr.length < 17
    simpa [okRunG] using hr
  | k + 1, s, hr, ht => by
    unfold okRunG at hr
    unfold topsG at ht
    unfold okP
    cases hs : s.2.k == 0 with
    | false =>
      rw [hs] at hr
      exact .inl ⟨by simpa using hr, rfl⟩
    | true =>
      rw [hs] at hr ht
      simp only [cond_true, Bool.and_eq_true, List.mem_append] at hr ht
      obtain ⟨h1, h2⟩ := hr
      unfold okG at h1
      simp only [Bool.and_eq_true, decide_eq_true_eq] at h1
      obtain ⟨g1, g2, g3, g4⟩ := h1
      simp only [okI0, Bool.and_eq_true, List.all_eq_true, decide_eq_true_eq] at h0
      refine .inr ⟨g1, rfl, ⟨⟨fun i g hg => ?_⟩, fun i g hg => (h0 g (List.mem_of_getElem? hg)).2.2, by omega, g2, g3, fun f hf => ht _ (.inl (by simp [topG, hf])), fun o ho => ?_⟩, ?_⟩
      · have := h0 g (List.mem_of_getElem? hg)
        exact ⟨this.1, this.2.1⟩
      · rw [fitG_eq h] at ho
        rw [ho] at g4
        exact g4
      · rw [stepG_eq h]
        exact okP_of h (by simpa [okI0] using h0) k _ h2 fun x hx => ht x (.inr hx)
theorem runG_eq {rb : Op → Bool} {im : Im} (h : ∀ g ∈ im.fs, ∀ o ∈ g.code, rb o = rightB o) : ∀ (k : Nat) (s : Co × Ou), runS im k s = runG rb im k s
  | 0, _ => rfl
  | k + 1, s => by
    unfold runS runG
    rw [stepG_eq h, runG_eq h k]

def rbC (o : Op) : Bool := bif o.c == 44 then true else rightB o
def fnC (less : Int) : List Fn := [⟨1, 0, [⟨2, 0⟩, ⟨17, 0⟩, ⟨18, 0⟩]⟩, ⟨1, 0, [⟨2, 0⟩, ⟨17, 2⟩, ⟨18, 0⟩]⟩, ⟨1, 0, [⟨44, less⟩, ⟨2, 0⟩, ⟨18, 0⟩]⟩, ⟨1, 0, [⟨2, 0⟩, ⟨17, 2⟩, ⟨4, 0⟩, ⟨47, 0⟩, ⟨18, 0⟩]⟩, ⟨1, 0, [⟨44, less⟩, ⟨47, 0⟩, ⟨18, 0⟩]⟩]
def imC (less : Int) : Im := ⟨[], fnC less⟩
theorem rbC_ok {less : Int} (h : 0 ≤ less ∧ less ≤ 255) : ∀ g ∈ (imC less).fs, ∀ o ∈ g.code, rbC o = rightB o := by
  have h44 : rightB ⟨44, less⟩ = true := by
    show (bif (5 : Int) == 0 then less == 0 else decide (0 ≤ less) && decide (less ≤ 65535)) = true
    simp
    omega
  intro g hg o ho
  simp only [imC, fnC, List.mem_cons, List.not_mem_nil, or_false] at hg
  rcases hg with rfl | rfl | rfl | rfl | rfl <;> simp only [List.mem_cons, List.not_mem_nil, or_false] at ho <;> rcases ho with rfl | rfl | rfl | rfl | rfl <;> first | rfl | exact h44.symm
def begF (less : Int) (v : Va) (ma : Int) (f : Nat) : Co := begC f ((fnC less).getD f ⟨1, 0, []⟩) v ma
def endF (less : Int) (v : Va) (ma : Int) : Nat → Ou
  | 0 => ⟨2, num (-6), o0⟩
  | 1 => ⟨1, v, o0⟩
  | 2 => ⟨1, v, o0⟩
  | 3 => ⟨1, num ma, o0⟩
  | _ => ⟨1, num (lessM less ma), o0⟩
theorem less_is {less ma : Int} (h : 0 ≤ less ∧ less ≤ 255) : lessM less ma = bitv .and .u8 ma less := by
  have key : ∀ n : Fin 256, IntKind.u8.wrap (bitv .and .i64 (n.val : Int) 255) = (n.val : Int) := by decide +kernel
  have := key ⟨less.toNat, by omega⟩
  rw [show ((⟨less.toNat, by omega⟩ : Fin 256).val : Int) = less by simp; omega] at this
  rw [lessM, this]
theorem runs_C (less : Int) (v : Va) (ma : Int) : ∀ f, f < 5 → okRunG rbC (imC less) 60 (begF less v ma f, went) = true ∧ (runG rbC (imC less) 60 (begF less v ma f, went)).2 = endF less v ma f ∧ ∀ x ∈ topsG rbC (imC less) 60 (begF less v ma f, went), x = ma ∨ x = lessM less ma := by
  intro f hf
  match f, hf with
  | 0, _ =>
    refine ⟨by kernel_rfl, by kernel_rfl, ?_⟩
    have : topsG rbC (imC less) 60 (begF less v ma 0, went) = List.replicate 32 ma := by kernel_rfl
    rw [this]
    intro x hx
    exact .inl (List.mem_replicate.1 hx).2
  | 1, _ =>
    refine ⟨by kernel_rfl, by kernel_rfl, ?_⟩
    have : topsG rbC (imC less) 60 (begF less v ma 1, went) = [ma, ma, ma, lessM less ma, lessM less ma, ma] := by kernel_rfl
    rw [this]
    intro x hx
    simp only [List.mem_cons, List.not_mem_nil, or_false] at hx
    omega
  | 2, _ =>
    refine ⟨by kernel_rfl, by kernel_rfl, ?_⟩
    have : topsG rbC (imC less) 60 (begF less v ma 2, went) = [ma, lessM less ma, lessM less ma] := by kernel_rfl
    rw [this]
    intro x hx
    simp only [List.mem_cons, List.not_mem_nil, or_false] at hx
    omega
  | 3, _ =>
    refine ⟨by kernel_rfl, by kernel_rfl, ?_⟩
    have : topsG rbC (imC less) 60 (begF less v ma 3, went) = [ma, ma, ma, lessM less ma, lessM less ma, ma, ma, ma] := by kernel_rfl
    rw [this]
    intro x hx
    simp only [List.mem_cons, List.not_mem_nil, or_false] at hx
    omega
  | 4, _ =>
    refine ⟨by kernel_rfl, by kernel_rfl, ?_⟩
    have : topsG rbC (imC less) 60 (begF less v ma 4, went) = [ma, lessM less ma, lessM less ma] := by kernel_rfl
    rw [this]
    intro x hx
    simp only [List.mem_cons, List.not_mem_nil, or_false] at hx
    omega
theorem less_in {less ma : Int} (h : 0 ≤ less ∧ less ≤ 255) : 0 ≤ lessM less ma ∧ lessM less ma ≤ 255 := by
  rw [less_is h]
  simp only [bitv, IntKind.wrap]
  constructor <;> (simp [IntKind.signed, IntKind.bits]; omega)
theorem run_C {less : Int} (v : Va) {ma : Int} (h : 0 ≤ less ∧ less ≤ 255) (hm : 0 ≤ ma ∧ ma ≤ 255) {f : Nat} (hf : f < 5) : okP (imC less) 60 (begF less v ma f, went) ∧ (runS (imC less) 60 (begF less v ma f, went)).2 = endF less v ma f := by
  obtain ⟨h1, h2, h3⟩ := runs_C less v ma f hf
  refine ⟨okP_of (rbC_ok h) rfl 60 _ h1 fun x hx => ?_, by rw [runG_eq (rbC_ok h)]; exact h2⟩
  rcases h3 x hx with rfl | rfl
  · exact hm
  · exact less_in h
end Go.Proofs.YtoibcfioicdlhaaGreatDoor
