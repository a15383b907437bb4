/- Of what is cut twice the shorter counts: CoreCuts in the picture. Conditions: none. -/
import Derived.Test.YtfllfllfeiaoeaaCore7
namespace Go.Proofs.Ytfllfllfeiaoeaa
open Go.Vx

/-- Numbers that calls are done with, and what stands between. -/
def agA (a0 a1 a2 a3 f h t a7 : Int) (a8 : Int) : V := .ag [.d (.int .i64 a0), .d (.int .i64 a1), .d (.int .i64 a2), .d (.int .i64 a3), .d (.int .i64 f), .d (.int .i64 h), .d (.int .i64 t), .d (.int .i64 a7), .d (.int .u8 a8)]

theorem cuts_eq {α : Type} (l : List α) (a b : Int) : cutn (cutn l a) b = cutn l (min a b) := by
  unfold cutn
  rw [List.take_take, List.length_take]
  congr 1
  omega
theorem cutC_cutC (c : Co) (a b d e f g : Int) : cutC (cutC c a b d) e f g = cutC c (min a e) (min b f) (min d g) := by
  simp only [cutC, cuts_eq]
theorem cutn_all {α : Type} (l : List α) (n : Int) (h : (l.length : Int) ≤ n) : cutn l n = l := by
  unfold cutn
  exact List.take_of_length_le (by omega)
theorem cutn_none {α : Type} (l : List α) : cutn l (-1) = [] := by
  unfold cutn
  have : (min (max (-1 : Int) 0) (l.length : Int)).toNat = 0 := by omega
  rw [this]; rfl

theorem cuts4 (c : Co) (a0 a1 a2 a3 f h t a7 a8 b0 b1 b2 b3 f' h' t' b7 b8 : Int) (hf : (c.fr.length : Int) ≤ 1099511627776) (hs : (c.st.length : Int) ≤ 1099511627776) (ht : (c.tr.length : Int) ≤ 1099511627776) :
    SatP Try.prog 4 [agC c, agA a0 a1 a2 a3 f h t a7 a8, agA b0 b1 b2 b3 f' h' t' b7 b8] (.d (.bool true)) := by
  refine s4 (keep := false) rfl ?_
  have e1 : same (cutC (cutC c f h t) f' h' t') (cutC c (min f f') (min h h') (min t t')) = true := by rw [cutC_cutC]; exact same_refl _
  have e2 : same (cutC c 1099511627776 1099511627776 1099511627776) c = true := by
    have : cutC c 1099511627776 1099511627776 1099511627776 = c := by simp only [cutC, cutn_all _ _ hf, cutn_all _ _ hs, cutn_all _ _ ht]
    rw [this]; exact same_refl _
  have e3 : same (cutC c (-1) (-1) (-1)) x0 = true := by
    have : cutC c (-1) (-1) (-1) = x0 := by simp only [cutC, cutn_none, x0]
    rw [this]; exact same_refl _
  have s1 := same8 (cutC (cutC c f h t) f' h' t') (cutC c (min f f') (min h h') (min t t'))
  have s2 := same8 (cutC c 1099511627776 1099511627776 1099511627776) c
  have s3 := same8 (cutC c (-1) (-1) (-1)) x0
  rw [e1] at s1
  rw [e2] at s2
  rw [e3] at s3
  repeat' (conv => whnf
           first
             | (exact And.intro rfl rfl)
             | (refine And.intro (?_ : _ = Out.ret _) rfl)
             | (intro _)
             | (refine And.intro rfl ?_)
             | (refine ⟨_, examples6, ?_⟩)
             | (refine (examples6).use ?_)
             | (refine ⟨_, cut9 c f h t, ?_⟩)
             | (refine (cut9 c f h t).use ?_)
             | (refine ⟨_, cut9 (cutC c f h t) f' h' t', ?_⟩)
             | (refine (cut9 (cutC c f h t) f' h' t').use ?_)
             | (refine ⟨_, cut9 c (min f f') (min h h') (min t t'), ?_⟩)
             | (refine (cut9 c (min f f') (min h h') (min t t')).use ?_)
             | (refine ⟨_, cut9 c 1099511627776 1099511627776 1099511627776, ?_⟩)
             | (refine (cut9 c 1099511627776 1099511627776 1099511627776).use ?_)
             | (refine ⟨_, cut9 c (-1) (-1) (-1), ?_⟩)
             | (refine (cut9 c (-1) (-1) (-1)).use ?_)
             | (refine ⟨_, s1, ?_⟩)
             | (refine (s1).use ?_)
             | (refine ⟨_, s2, ?_⟩)
             | (refine (s2).use ?_)
             | (refine ⟨_, s3, ?_⟩)
             | (refine (s3).use ?_)
             | (refine apn_own ?_)
             | (refine .inl (And.intro ?_ ?_); focus ((repeat' apply And.intro) <;> first | rfl | omega | (unfold inR; omega) | (simp; done) | (unfold inR; simp at *; omega) | (simp at *; omega) | (intros; contradiction)))
             | (refine And.intro ?_ ?_; focus ((repeat' apply And.intro) <;> first | rfl | omega | (unfold inR; omega) | (simp; done) | (unfold inR; simp at *; omega) | (simp at *; omega) | (intros; contradiction)))
           )
end Go.Proofs.Ytfllfllfeiaoeaa
