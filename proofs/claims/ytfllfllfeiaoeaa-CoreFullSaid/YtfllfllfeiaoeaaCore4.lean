/- What is thrown, and what is given back. Conditions: lists are not too long. -/
import Derived.Test.YtfllfllfeiaoeaaCore3
namespace Go.Proofs.Ytfllfllfeiaoeaa
open Go.Vx

def agT (t : Tr) : V := .ag [.d (.int .i64 t.f), .d (.int .i64 t.h), .d (.int .i64 t.a)]

theorem more28 (t : Tr) (n : Int) : SatP Try.prog 28 [agT t, .e [.int .i64 n] 0] (.d (.bool (decide (n < t.f)))) := by
  refine s28 (keep := false) rfl ?_
  repeat' (conv => whnf
           first
             | (exact And.intro rfl rfl)
             | (refine And.intro (?_ : _ = Out.ret _) rfl)
             | (intro _)
             | (refine And.intro rfl ?_)
             | (refine apn_own ?_)
             | (refine .inl (And.intro ?_ ?_); focus ((repeat' apply And.intro) <;> first | rfl | omega | (unfold inR; omega) | (simp; done) | (unfold inR; simp at *; omega) | (simp at *; omega) | (intros; contradiction)))
             | (refine And.intro ?_ ?_; focus ((repeat' apply And.intro) <;> first | rfl | omega | (unfold inR; omega) | (simp; done) | (unfold inR; simp at *; omega) | (simp at *; omega) | (intros; contradiction)))
           )

/-- Where the first one is. -/
def idx (p : Tr → Bool) : List Tr → Nat
  | [] => 0
  | x :: l => bif p x then 0 else idx p l + 1
theorem idx_le (p : Tr → Bool) : ∀ l, idx p l ≤ l.length
  | [] => Nat.le_refl _
  | x :: l => by
    simp only [idx]
    cases p x
    · simp [idx_le p l]
    · simp
theorem idx_take {p : Tr → Bool} : ∀ {l : List Tr} {i : Nat}, (∀ j x, j < i → l[j]? = some x → p x = false) → (∀ x, l[i]? = some x → p x = true) → i ≤ l.length → idx p l = i
  | [], i, _, _, hi => by simp at hi; simp [idx, hi]
  | x :: l, 0, _, h, _ => by simp [idx, h x rfl]
  | x :: l, i + 1, h1, h2, hi => by
    simp only [idx, h1 0 x (by omega) rfl, cond_false]
    rw [idx_take (i := i) (fun j y hj hy => h1 (j + 1) y (by omega) (by simpa using hy)) (fun y hy => h2 y (by simpa using hy)) (by simpa using hi)]
def idxR (p : Tr → Bool) (l : List Tr) : Int := if idx p l < l.length then idx p l else -1

theorem index29 (l : List Tr) (n : Int) : SatP Try.prog 29 [.d (.sl 3 (l.map encT)), .fc 28 [.e [.int .i64 n] 0]] (.d (.int .i64 (idxR (fun t => decide (n < t.f)) l))) := by
  refine s29 (keep := false) rfl ?_
  repeat' (conv => whnf
           first
             | (exact And.intro rfl rfl)
             | (refine And.intro (?_ : _ = Out.ret _) rfl)
             | (intro _)
             | (refine And.intro rfl ?_)
             | (refine apn_own ?_)
             | (refine .inl (And.intro ?_ ?_); focus ((repeat' apply And.intro) <;> first | rfl | omega | (unfold inR; omega) | (simp; done) | (unfold inR; simp at *; omega) | (simp at *; omega) | (intros; contradiction)))
             | (refine And.intro ?_ ?_; focus ((repeat' apply And.intro) <;> first | rfl | omega | (unfold inR; omega) | (simp; done) | (unfold inR; simp at *; omega) | (simp at *; omega) | (intros; contradiction)))
           )
  refine lx_intro ⟨Nat, fun i => i ≤ l.length ∧ ∀ j x, j < i → l[j]? = some x → decide (n < x.f) = false, fun i => [(0, .d (.sl 3 (l.map encT))), (1, .fc 28 [.e [.int .i64 n] 0]), (7, .d (.int .i64 (l.map encT).length)), (8, .d (.int .i64 i))], fun _ => [], fun i => l.length - i, 0,
    ⟨⟨Nat.zero_le _, by simp⟩, ⟨rfl, rfl, rfl, rfl, trivial⟩, trivial, rfl⟩, fun i ⟨hi, he⟩ => ?_⟩
  repeat' (conv => whnf
           first
             | (exact And.intro rfl rfl)
             | (refine And.intro (?_ : _ = Out.ret _) rfl)
             | (intro _)
             | (refine And.intro rfl ?_)
             | (refine apn_own ?_)
             | (refine .inl (And.intro ?_ ?_); focus ((repeat' apply And.intro) <;> first | rfl | omega | (unfold inR; omega) | (simp; done) | (unfold inR; simp at *; omega) | (simp at *; omega) | (intros; contradiction)))
             | (refine And.intro ?_ ?_; focus ((repeat' apply And.intro) <;> first | rfl | omega | (unfold inR; omega) | (simp; done) | (unfold inR; simp at *; omega) | (simp at *; omega) | (intros; contradiction)))
           )
  refine sp_intro (fun hlt => ?_) (fun hge => ?_)
  · have hlt : i < l.length := by simpa using hlt
    obtain ⟨x, hx⟩ : ∃ x, l[i]? = some x := ⟨_, List.getElem?_eq_getElem hlt⟩
    repeat' (conv => whnf
             first
               | (exact And.intro rfl rfl)
               | (refine And.intro (?_ : _ = Out.ret _) rfl)
               | (intro _)
               | (refine And.intro rfl ?_)
               | (refine apn_own ?_)
               | (refine .inl (And.intro ?_ ?_); focus ((repeat' apply And.intro) <;> first | rfl | omega | (unfold inR; omega) | (simp; done) | (unfold inR; simp at *; omega) | (simp at *; omega) | (intros; contradiction)))
               | (refine And.intro ?_ ?_; focus ((repeat' apply And.intro) <;> first | rfl | omega | (unfold inR; omega) | (simp; done) | (unfold inR; simp at *; omega) | (simp at *; omega) | (intros; contradiction)))
             )
    refine ⟨encT x, ⟨by omega, by simp [hx], rfl⟩, ?_⟩
    repeat' (conv => whnf
             first
               | (exact And.intro rfl rfl)
               | (refine And.intro (?_ : _ = Out.ret _) rfl)
               | (intro _)
               | (refine And.intro rfl ?_)
               | (refine ⟨_, more28 x n, ?_⟩)
               | (refine (more28 x n).use ?_)
               | (refine apn_own ?_)
               | (refine .inl (And.intro ?_ ?_); focus ((repeat' apply And.intro) <;> first | rfl | omega | (unfold inR; omega) | (simp; done) | (unfold inR; simp at *; omega) | (simp at *; omega) | (intros; contradiction)))
               | (refine And.intro ?_ ?_; focus ((repeat' apply And.intro) <;> first | rfl | omega | (unfold inR; omega) | (simp; done) | (unfold inR; simp at *; omega) | (simp at *; omega) | (intros; contradiction)))
             )
    refine sp_intro (fun hyes => ?_) (fun hno => ?_)
    · skip
      repeat' (conv => whnf
               first
                 | (exact And.intro rfl rfl)
                 | (refine And.intro (?_ : _ = Out.ret _) rfl)
                 | (intro _)
                 | (refine And.intro rfl ?_)
                 | (refine apn_own ?_)
                 | (refine .inl (And.intro ?_ ?_); focus ((repeat' apply And.intro) <;> first | rfl | omega | (unfold inR; omega) | (simp; done) | (unfold inR; simp at *; omega) | (simp at *; omega) | (intros; contradiction)))
                 | (refine And.intro ?_ ?_; focus ((repeat' apply And.intro) <;> first | rfl | omega | (unfold inR; omega) | (simp; done) | (unfold inR; simp at *; omega) | (simp at *; omega) | (intros; contradiction)))
               )
      refine outs_eq (congrArg (fun x => V.d (.int .i64 x)) ?_)
      have := idx_take (p := fun t => decide (n < t.f)) he (fun y hy => by rw [hx] at hy; cases hy; exact hyes) hi
      simp only [idxR, this, hlt, if_true]
    · skip
      repeat' (conv => whnf
               first
                 | (exact And.intro rfl rfl)
                 | (refine And.intro (?_ : _ = Out.ret _) rfl)
                 | (intro _)
                 | (refine And.intro rfl ?_)
                 | (refine apn_own ?_)
                 | (refine .inl (And.intro ?_ ?_); focus ((repeat' apply And.intro) <;> first | rfl | omega | (unfold inR; omega) | (simp; done) | (unfold inR; simp at *; omega) | (simp at *; omega) | (intros; contradiction)))
                 | (refine And.intro ?_ ?_; focus ((repeat' apply And.intro) <;> first | rfl | omega | (unfold inR; omega) | (simp; done) | (unfold inR; simp at *; omega) | (simp at *; omega) | (intros; contradiction)))
               )
      refine ⟨i + 1, ⟨hlt, fun j y hj hy => ?_⟩, Nat.sub_lt_sub_left hlt (Nat.lt_succ_self i), ⟨rfl, rfl, rfl, rfl, trivial⟩, trivial, rfl⟩
      by_cases hji : j = i
      · subst hji; rw [hx] at hy; cases hy; exact hno
      · exact he j y (by omega) hy
  · have hge : i = l.length := by
      have : ¬ i < l.length := by simpa using hge
      omega
    repeat' (conv => whnf
             first
               | (exact And.intro rfl rfl)
               | (refine And.intro (?_ : _ = Out.ret _) rfl)
               | (intro _)
               | (refine And.intro rfl ?_)
               | (refine apn_own ?_)
               | (refine .inl (And.intro ?_ ?_); focus ((repeat' apply And.intro) <;> first | rfl | omega | (unfold inR; omega) | (simp; done) | (unfold inR; simp at *; omega) | (simp at *; omega) | (intros; contradiction)))
               | (refine And.intro ?_ ?_; focus ((repeat' apply And.intro) <;> first | rfl | omega | (unfold inR; omega) | (simp; done) | (unfold inR; simp at *; omega) | (simp at *; omega) | (intros; contradiction)))
             )
    refine outs_eq (congrArg (fun x => V.d (.int .i64 x)) ?_)
    have := idx_take (p := fun t => decide (n < t.f)) he (fun y hy => by simp [hge] at hy) hi
    simp [idxR, this, hge]
end Go.Proofs.Ytfllfllfeiaoeaa
