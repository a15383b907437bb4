/- CoreFull in the picture. Conditions: none. -/
import Derived.Test.YtfllfllfeiaoeaaCore8
namespace Go.Proofs.Ytfllfllfeiaoeaa
open Go.Vx

theorem full3 (n : Int) (l : List Va) (h1 : 0 ≤ n) : SatP Try.prog 3 [.d (.int .u8 n), .d (.sl 5 (l.map encV))] (.d (.bool true)) := by
  refine s3 (keep := false) rfl ?_
  repeat' (conv => whnf
           first
             | (exact And.intro rfl rfl)
             | (refine And.intro (?_ : _ = Out.ret _) rfl)
             | (intro _)
             | (refine And.intro rfl ?_)
             | (refine ⟨_, examples6, ?_⟩)
             | (refine (examples6).use ?_)
             | (refine apn_own ?_)
             | (refine .inl (And.intro ?_ ?_); focus ((repeat' apply And.intro) <;> first | rfl | omega | (unfold inR; omega) | (simp; done) | (unfold inR; simp at *; omega) | (simp at *; omega) | (intros; contradiction)))
             | (refine And.intro ?_ ?_; focus ((repeat' apply And.intro) <;> first | rfl | omega | (unfold inR; omega) | (simp; done) | (unfold inR; simp at *; omega) | (simp at *; omega) | (intros; contradiction)))
           )
  conv => whnf
  have hm : 0 ≤ n.tmod 24 ∧ n.tmod 24 < 24 := by
    rw [Int.tmod_eq_emod_of_nonneg h1]; omega
  refine .inl ⟨by unfold inR; omega, ?_⟩
  repeat' (conv => whnf
           first
             | (exact And.intro rfl rfl)
             | (refine And.intro (?_ : _ = Out.ret _) rfl)
             | (intro _)
             | (refine And.intro rfl ?_)
             | (refine apn_own ?_)
             | (refine .inl (And.intro ?_ ?_); focus ((repeat' apply And.intro) <;> first | rfl | omega | (unfold inR; omega) | (simp; done) | (unfold inR; simp at *; omega) | (simp at *; omega) | (intros; contradiction)))
             | (refine And.intro ?_ ?_; focus ((repeat' apply And.intro) <;> first | rfl | omega | (unfold inR; omega) | (simp; done) | (unfold inR; simp at *; omega) | (simp at *; omega) | (intros; contradiction)))
           )
  refine loop_use [8, 9, 10, 23, 24, 25, 26, 27, 28, 29, 30, 31, 32, 33, 34, 35, 36, 37, 38, 39, 40, 41, 42, 43, 44, 45, 46, 47, 48] (fun p : Nat × Co => p.1 ≤ (n.tmod 24).toNat ∧ p.2.fr.length = min p.1 16) (fun p => [(8, .d (.int .i64 p.1))]) (fun p => [.cells [.d (.sl 5 (p.2.fr.map encF)), .d (.sl 5 (p.2.st.map encV)), .d (.sl 3 (p.2.tr.map encT))]]) (fun p => (n.tmod 24).toNat - p.1) (0, ⟨[], l.take (min (l.length : Int) 8).toNat, []⟩) ⟨Nat.zero_le _, rfl⟩ ?_ ?_ ?_ (fun ⟨i, c⟩ ⟨hi, hc⟩ => ?_)
  · exact (by repeat' (first | exact trivial | exact rfl | exact Or.inl rfl | refine And.intro ?_ ?_ | refine Or.inr ?_))
  · refine ⟨.inr ⟨rfl, ?_, rfl, trivial⟩, trivial⟩
    simp [List.map_take]
    rfl
  · exact rfl
  have hi : i ≤ (n.tmod 24).toNat := hi
  have hc : c.fr.length = min i 16 := hc
  have hen := enter7 c i 0 [] 0 (by omega) (by decide)
  have s1 := same8 c c
  rw [same_refl] at s1
  repeat' (conv => whnf
           first
             | (exact And.intro rfl rfl)
             | (refine And.intro (?_ : _ = Out.ret _) rfl)
             | (intro _)
             | (refine And.intro rfl ?_)
             | (refine apn_own ?_)
             | (refine .inl (And.intro ?_ ?_); focus ((repeat' apply And.intro) <;> first | rfl | omega | (unfold inR; omega) | (simp; done) | (unfold inR; simp at *; omega) | (simp at *; omega) | (intros; contradiction)))
             | (refine And.intro ?_ ?_; focus ((repeat' apply And.intro) <;> first | rfl | omega | (unfold inR; omega) | (simp; done) | (unfold inR; simp at *; omega) | (simp at *; omega) | (intros; contradiction)))
           )
  refine sp_intro (fun hlt => ?_) (fun hge => ?_)
  · have hlt : i < (n.tmod 24).toNat := by simp at hlt; omega
    cases ho : enterOk c with
    | true =>
      have hr : enterR c i 0 [] 0 = .tu [agC (enterC c i 0 [] 0), .d (.bool true)] := by simp only [enterR, ho, cond_true]
      rw [hr] at hen
      have hl16 : c.fr.length < 16 := by simpa [enterOk] using ho
      repeat' (conv => whnf
               first
                 | (exact And.intro rfl rfl)
                 | (refine And.intro (?_ : _ = Out.ret _) rfl)
                 | (intro _)
                 | (refine And.intro rfl ?_)
                 | (refine ⟨_, hen, ?_⟩)
                 | (refine (hen).use ?_)
                 | (refine apn_own ?_)
                 | (refine .inl (And.intro ?_ ?_); focus ((repeat' apply And.intro) <;> first | rfl | omega | (unfold inR; omega) | (simp; done) | (unfold inR; simp at *; omega) | (simp at *; omega) | (intros; contradiction)))
                 | (refine And.intro ?_ ?_; focus ((repeat' apply And.intro) <;> first | rfl | omega | (unfold inR; omega) | (simp; done) | (unfold inR; simp at *; omega) | (simp at *; omega) | (intros; contradiction)))
               )
      refine sp_intro (fun hb => absurd hb (by simp; omega)) (fun hb => ?_)
      repeat' (conv => whnf
               first
                 | (exact And.intro rfl rfl)
                 | (refine And.intro (?_ : _ = Out.ret _) rfl)
                 | (intro _)
                 | (refine And.intro rfl ?_)
                 | (refine apn_own ?_)
                 | (refine .inl (And.intro ?_ ?_); focus ((repeat' apply And.intro) <;> first | rfl | omega | (unfold inR; omega) | (simp; done) | (unfold inR; simp at *; omega) | (simp at *; omega) | (intros; contradiction)))
                 | (refine And.intro ?_ ?_; focus ((repeat' apply And.intro) <;> first | rfl | omega | (unfold inR; omega) | (simp; done) | (unfold inR; simp at *; omega) | (simp at *; omega) | (intros; contradiction)))
               )
      refine ⟨(i + 1, enterC c i 0 [] 0), ⟨hlt, ?_⟩, Nat.sub_lt_sub_left hlt (Nat.lt_succ_self i), (by repeat' (first | exact trivial | exact rfl | exact Or.inl rfl | refine And.intro ?_ ?_ | refine Or.inr ?_)), ⟨.inl rfl, trivial⟩, rfl⟩
      simp [enterC]
      omega
    | false =>
      have hr : enterR c i 0 [] 0 = .tu [agC c, .d (.bool false)] := by simp only [enterR, ho, cond_false]
      rw [hr] at hen
      have hl16 : 16 ≤ c.fr.length := by simpa [enterOk] using ho
      repeat' (conv => whnf
               first
                 | (exact And.intro rfl rfl)
                 | (refine And.intro (?_ : _ = Out.ret _) rfl)
                 | (intro _)
                 | (refine And.intro rfl ?_)
                 | (refine ⟨_, hen, ?_⟩)
                 | (refine (hen).use ?_)
                 | (refine apn_own ?_)
                 | (refine .inl (And.intro ?_ ?_); focus ((repeat' apply And.intro) <;> first | rfl | omega | (unfold inR; omega) | (simp; done) | (unfold inR; simp at *; omega) | (simp at *; omega) | (intros; contradiction)))
                 | (refine And.intro ?_ ?_; focus ((repeat' apply And.intro) <;> first | rfl | omega | (unfold inR; omega) | (simp; done) | (unfold inR; simp at *; omega) | (simp at *; omega) | (intros; contradiction)))
               )
      refine sp_intro (fun hb => absurd hb (by simp; omega)) (fun hb => ?_)
      repeat' (conv => whnf
               first
                 | (exact And.intro rfl rfl)
                 | (refine And.intro (?_ : _ = Out.ret _) rfl)
                 | (intro _)
                 | (refine And.intro rfl ?_)
                 | (refine ⟨_, s1, ?_⟩)
                 | (refine (s1).use ?_)
                 | (refine apn_own ?_)
                 | (refine .inl (And.intro ?_ ?_); focus ((repeat' apply And.intro) <;> first | rfl | omega | (unfold inR; omega) | (simp; done) | (unfold inR; simp at *; omega) | (simp at *; omega) | (intros; contradiction)))
                 | (refine And.intro ?_ ?_; focus ((repeat' apply And.intro) <;> first | rfl | omega | (unfold inR; omega) | (simp; done) | (unfold inR; simp at *; omega) | (simp at *; omega) | (intros; contradiction)))
               )
      refine ⟨(i + 1, c), ⟨hlt, ?_⟩, Nat.sub_lt_sub_left hlt (Nat.lt_succ_self i), (by repeat' (first | exact trivial | exact rfl | exact Or.inl rfl | refine And.intro ?_ ?_ | refine Or.inr ?_)), ⟨.inl rfl, trivial⟩, rfl⟩
      show c.fr.length = min (i + 1) 16
      omega
  · have hge : i = (n.tmod 24).toNat := by simp at hge; omega
    repeat' (conv => whnf
             first
               | (exact And.intro rfl rfl)
               | (refine And.intro (?_ : _ = Out.ret _) rfl)
               | (intro _)
               | (refine And.intro rfl ?_)
               | (refine apn_own ?_)
               | (refine .inl (And.intro ?_ ?_); focus ((repeat' apply And.intro) <;> first | rfl | omega | (unfold inR; omega) | (simp; done) | (unfold inR; simp at *; omega) | (simp at *; omega) | (intros; contradiction)))
               | (refine And.intro ?_ ?_; focus ((repeat' apply And.intro) <;> first | rfl | omega | (unfold inR; omega) | (simp; done) | (unfold inR; simp at *; omega) | (simp at *; omega) | (intros; contradiction)))
             )
    show Out.ret (V.d (.bool (((c.fr.map encF).length : Int) == min (n.tmod 24) 16))) = _
    have he : (((c.fr.map encF).length : Int) == min (n.tmod 24) 16) = true := by simp; omega
    rw [he]
end Go.Proofs.Ytfllfllfeiaoeaa
