/- The chapter's examples, in the picture. Conditions: none. -/
import Derived.Test.YtfllfllfeiaoeaaCore6
namespace Go.Proofs.Ytfllfllfeiaoeaa
open Go.Vx

def x0 : Co := ⟨[], [], []⟩
def x1 : Co := pushC x0 (num 1)
def x2 : Co := enterC x1 2 1 [num 5] 3
def x3 : Co := pushC (pushC x2 (num 7)) (num 8)
def x4 : Co := ⟨x3.fr, x3.st, [⟨1, 2, 9⟩]⟩

theorem examples6 : SatP Try.prog 6 [] (.d (.bool true)) := by
  refine s6 (keep := false) rfl ?_
  repeat' (conv => whnf
           first
             | (exact And.intro rfl rfl)
             | (refine And.intro (?_ : _ = Out.ret _) rfl)
             | (intro _)
             | (refine And.intro rfl ?_)
             | (refine ⟨_, number12 _, ?_⟩)
             | (refine (number12 _).use ?_)
             | (refine ⟨_, push11 x0 (num 1) (by decide), ?_⟩)
             | (refine (push11 x0 (num 1) (by decide)).use ?_)
             | (refine ⟨_, enter7 x1 2 1 [num 5] 3 (by decide) (by decide), ?_⟩)
             | (refine (enter7 x1 2 1 [num 5] 3 (by decide) (by decide)).use ?_)
             | (refine ⟨_, push11 x2 (num 7) (by decide), ?_⟩)
             | (refine (push11 x2 (num 7) (by decide)).use ?_)
             | (refine ⟨_, push11 (pushC x2 (num 7)) (num 8) (by decide), ?_⟩)
             | (refine (push11 (pushC x2 (num 7)) (num 8) (by decide)).use ?_)
             | (refine ⟨_, pop10 x3 2 (by decide), ?_⟩)
             | (refine (pop10 x3 2 (by decide)).use ?_)
             | (refine ⟨_, pop10 x3 3 (by decide), ?_⟩)
             | (refine (pop10 x3 3 (by decide)).use ?_)
             | (refine ⟨_, ret14 x3 (by decide) (by decide) (by decide), ?_⟩)
             | (refine (ret14 x3 (by decide) (by decide) (by decide)).use ?_)
             | (refine ⟨_, throw13 x4 (-4) 0 (by decide) (by decide), ?_⟩)
             | (refine (throw13 x4 (-4) 0 (by decide) (by decide)).use ?_)
             | (refine ⟨_, throw13 x4 (-4) 1 (by decide) (by decide), ?_⟩)
             | (refine (throw13 x4 (-4) 1 (by decide) (by decide)).use ?_)
             | (refine ⟨_, same8 (popC x3 2) x2, ?_⟩)
             | (refine (same8 (popC x3 2) x2).use ?_)
             | (refine ⟨_, same8 x2 x4, ?_⟩)
             | (refine (same8 x2 x4).use ?_)
             | (refine apn_own ?_)
             | (refine .inl (And.intro ?_ ?_); focus ((repeat' apply And.intro) <;> first | rfl | omega | (unfold inR; omega) | (simp; done) | (unfold inR; simp at *; omega) | (simp at *; omega) | (intros; contradiction)))
             | (refine And.intro ?_ ?_; focus ((repeat' apply And.intro) <;> first | rfl | omega | (unfold inR; omega) | (simp; done) | (unfold inR; simp at *; omega) | (simp at *; omega) | (intros; contradiction)))
             | (refine ⟨_, ⟨by decide, rfl, rfl⟩, ?_⟩)
           )
end Go.Proofs.Ytfllfllfeiaoeaa
