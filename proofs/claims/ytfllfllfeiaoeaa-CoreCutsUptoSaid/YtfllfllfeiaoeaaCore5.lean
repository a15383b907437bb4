/- What is deleted of a list of one's own. Conditions: none. -/
import Derived.Test.YtfllfllfeiaoeaaCore4
namespace Go.Proofs.Ytfllfllfeiaoeaa
open Go.Vx

def keep (n : Int) (l : List Tr) : List Tr := l.filter fun t => !(decide (n < t.f))
theorem keep_all {n : Int} : ∀ {l : List Tr}, idx (fun t => decide (n < t.f)) l = l.length → keep n l = l
  | [], _ => rfl
  | x :: l, h => by
    simp only [idx] at h
    cases hx : decide (n < x.f) with
    | true => rw [hx] at h; simp at h
    | false =>
      rw [hx] at h
      simp only [cond_false, List.length_cons, Nat.add_right_cancel_iff] at h
      have := keep_all h
      simp only [keep] at this ⊢
      rw [List.filter_cons_of_pos (by simp [hx]), this]
theorem keep_take {n : Int} : ∀ {l : List Tr}, keep n (l.take (idx (fun t => decide (n < t.f)) l)) = l.take (idx (fun t => decide (n < t.f)) l)
  | [] => rfl
  | x :: l => by
    simp only [idx]
    cases hx : decide (n < x.f) with
    | true => rfl
    | false =>
      simp only [cond_false, List.take_succ_cons]
      have := keep_take (n := n) (l := l)
      simp only [keep] at this ⊢
      rw [List.filter_cons_of_pos (by simp [hx]), this]
theorem idx_at {n : Int} : ∀ {l : List Tr} {x : Tr}, l[idx (fun t => decide (n < t.f)) l]? = some x → decide (n < x.f) = true
  | [], _, h => by simp at h
  | y :: l, x, h => by
    simp only [idx] at h
    cases hy : decide (n < y.f) with
    | true => rw [hy] at h; simp at h; subst h; exact hy
    | false => rw [hy] at h; exact idx_at (by simpa using h)
theorem keep_succ {n : Int} {l : List Tr} {j : Nat} {x : Tr} (h : l[j]? = some x) : keep n (l.take (j + 1)) = keep n (l.take j) ++ (bif decide (n < x.f) then [] else [x]) := by
  rw [List.take_add_one, h]
  simp only [keep, List.filter_append, Option.toList]
  cases hx : decide (n < x.f) <;> simp [hx]

theorem delete26 {K : Out → H → Prop} (l : List Tr) (n : Int) (hl : l.length < 1000000000) (hk : K (.ret (.d (.sl 3 ((keep n l).map encT)))) [.no, .cells [.d (.int .i64 n)]]) : Sat Try.prog 26 [.os 0, .fc 28 [.p 1 0]] [.rows 3 (l.map encT), .cells [.d (.int .i64 n)]] K := by
  refine s26 (keep := false) rfl ?_
  have hle := idx_le (fun t => decide (n < t.f)) l
  have hst := fun x => idx_at (n := n) (l := l) (x := x)
  repeat' (conv => whnf
           first
             | (exact And.intro rfl rfl)
             | (refine And.intro (?_ : _ = Out.ret _) rfl)
             | (intro _)
             | (refine And.intro rfl ?_)
             | (refine apn_own ?_)
             | (refine .inl (And.intro ?_ ?_); focus ((repeat' apply And.intro) <;> first | rfl | omega | (unfold inR; omega) | (simp; done) | (unfold inR; simp at *; omega) | (simp at *; omega) | (intros; contradiction)))
             | (refine And.intro ?_ ?_; focus ((repeat' apply And.intro) <;> first | rfl | omega | (unfold inR; omega) | (simp; done) | (unfold inR; simp at *; omega) | (simp at *; omega) | (intros; contradiction)))
           )
  refine .inl ⟨_, index29 l n, rfl, ?_⟩
  repeat' (conv => whnf
           first
             | (exact And.intro rfl rfl)
             | (refine And.intro (?_ : _ = Out.ret _) rfl)
             | (intro _)
             | (refine And.intro rfl ?_)
             | (refine apn_own ?_)
             | (refine .inl (And.intro ?_ ?_); focus ((repeat' apply And.intro) <;> first | rfl | omega | (unfold inR; omega) | (simp; done) | (unfold inR; simp at *; omega) | (simp at *; omega) | (intros; contradiction)))
             | (refine And.intro ?_ ?_; focus ((repeat' apply And.intro) <;> first | rfl | omega | (unfold inR; omega) | (simp; done) | (unfold inR; simp at *; omega) | (simp at *; omega) | (intros; contradiction)))
           )
  refine sp_intro (fun hno => ?_) (fun hyes => ?_)
  · have hall : keep n l = l := by
      refine keep_all ?_
      by_cases h : idx (fun t => decide (n < t.f)) l < l.length
      · simp [idxR, h] at hno
      · omega
    repeat' (conv => whnf
             first
               | (exact And.intro rfl rfl)
               | (refine And.intro (?_ : _ = Out.ret _) rfl)
               | (intro _)
               | (refine And.intro rfl ?_)
               | (refine apn_own ?_)
               | (refine .inl (And.intro ?_ ?_); focus ((repeat' apply And.intro) <;> first | rfl | omega | (unfold inR; omega) | (simp; done) | (unfold inR; simp at *; omega) | (simp at *; omega) | (intros; contradiction)))
               | (refine And.intro ?_ ?_; focus ((repeat' apply And.intro) <;> first | rfl | omega | (unfold inR; omega) | (simp; done) | (unfold inR; simp at *; omega) | (simp at *; omega) | (intros; contradiction)))
             )
    rw [hall] at hk
    exact hk
  · have hlt : idx (fun t => decide (n < t.f)) l < l.length := by
      by_cases h : idx (fun t => decide (n < t.f)) l < l.length
      · exact h
      · simp [idxR, h] at hyes
    have hix : idxR (fun t => decide (n < t.f)) l = (idx (fun t => decide (n < t.f)) l : Nat) := by simp [idxR, hlt]
    rw [hix]
    generalize hi0 : idx (fun t => decide (n < t.f)) l = i0 at *
    repeat' (conv => whnf
             first
               | (exact And.intro rfl rfl)
               | (refine And.intro (?_ : _ = Out.ret _) rfl)
               | (intro _)
               | (refine And.intro rfl ?_)
               | (refine apn_own ?_)
               | (refine .inl (And.intro ?_ ?_); focus ((repeat' apply And.intro) <;> first | rfl | omega | (unfold inR; omega) | (simp; done) | (unfold inR; simp at *; omega) | (simp at *; omega) | (intros; contradiction)))
               | (refine And.intro ?_ ?_; focus ((repeat' apply And.intro) <;> first | rfl | omega | (unfold inR; omega) | (simp; done) | (unfold inR; simp at *; omega) | (simp at *; omega) | (intros; contradiction)))
             )
    have hkt := keep_take (n := n) (l := l)
    rw [hi0] at hkt
    obtain ⟨x0, hx0⟩ : ∃ x, l[i0]? = some x := ⟨_, List.getElem?_eq_getElem hlt⟩
    refine lx_intro ⟨Nat × Nat × List Tr, fun (j, i, m) => m.length = l.length ∧ i < j ∧ j ≤ l.length ∧ m.take i = keep n (l.take j) ∧ m.drop j = l.drop j,
      fun (j, i, _) => [(0, .os 0), (1, .fc 28 [.p 1 0]), (5, .d (.int .i64 i)), (6, .d (.int .i64 j))], fun (_, _, m) => [.rows 3 (m.map encT), .cells [.d (.int .i64 n)]], fun (j, _, _) => l.length - j, (i0 + 1, i0, l),
      ⟨⟨rfl, by omega, hlt, by rw [keep_succ hx0, hkt, hst x0 hx0]; simp, rfl⟩, ⟨rfl, rfl, rfl, rfl, trivial⟩, ⟨rfl, .inl rfl, trivial⟩, rfl⟩, fun (j, i, m) ⟨h1, h2, h3, h4, h5⟩ => ?_⟩
    repeat' (conv => whnf
             first
               | (exact And.intro rfl rfl)
               | (refine And.intro (?_ : _ = Out.ret _) rfl)
               | (intro _)
               | (refine And.intro rfl ?_)
               | (refine apn_own ?_)
               | (refine .inl (And.intro ?_ ?_); focus ((repeat' apply And.intro) <;> first | rfl | omega | (unfold inR; omega) | (simp; done) | (unfold inR; simp at *; omega) | (simp at *; omega) | (intros; contradiction)))
               | (refine And.intro ?_ ?_; focus ((repeat' apply And.intro) <;> first | rfl | omega | (unfold inR; omega) | (simp; done) | (unfold inR; simp at *; omega) | (simp at *; omega) | (intros; contradiction)))
             )
    refine sp_intro (fun hlt => ?_) (fun hge => ?_)
    · have hlt : j < m.length := by simpa using hlt
      obtain ⟨x, hx⟩ : ∃ x, l[j]? = some x := ⟨_, List.getElem?_eq_getElem (by omega)⟩
      have hmx : m[j]? = some x := by
        have := congrArg (fun l => l[0]?) h5
        simpa [List.getElem?_drop, hx] using this
      obtain ⟨y, hy⟩ : ∃ y, m[i]? = some y := ⟨_, List.getElem?_eq_getElem (by omega)⟩
      repeat' (conv => whnf
               first
                 | (exact And.intro rfl rfl)
                 | (refine And.intro (?_ : _ = Out.ret _) rfl)
                 | (intro _)
                 | (refine And.intro rfl ?_)
                 | (refine apn_own ?_)
                 | (refine .inl (And.intro ?_ ?_); focus ((repeat' apply And.intro) <;> first | rfl | omega | (unfold inR; omega) | (simp; done) | (unfold inR; simp at *; omega) | (simp at *; omega) | (intros; contradiction)))
                 | (refine And.intro ?_ ?_; focus ((repeat' apply And.intro) <;> first | rfl | omega | (unfold inR; omega) | (simp; done) | (unfold inR; simp at *; omega) | (simp at *; omega) | (intros; contradiction)))
               )
      refine ⟨encT x, by simp [hmx], ?_⟩
      repeat' (conv => whnf
               first
                 | (exact And.intro rfl rfl)
                 | (refine And.intro (?_ : _ = Out.ret _) rfl)
                 | (intro _)
                 | (refine And.intro rfl ?_)
                 | (refine apn_own ?_)
                 | (refine .inl (And.intro ?_ ?_); focus ((repeat' apply And.intro) <;> first | rfl | omega | (unfold inR; omega) | (simp; done) | (unfold inR; simp at *; omega) | (simp at *; omega) | (intros; contradiction)))
                 | (refine And.intro ?_ ?_; focus ((repeat' apply And.intro) <;> first | rfl | omega | (unfold inR; omega) | (simp; done) | (unfold inR; simp at *; omega) | (simp at *; omega) | (intros; contradiction)))
               )
      refine .inl ⟨_, more28 x n, rfl, ?_⟩
      repeat' (conv => whnf
               first
                 | (exact And.intro rfl rfl)
                 | (refine And.intro (?_ : _ = Out.ret _) rfl)
                 | (intro _)
                 | (refine And.intro rfl ?_)
                 | (refine apn_own ?_)
                 | (refine .inl (And.intro ?_ ?_); focus ((repeat' apply And.intro) <;> first | rfl | omega | (unfold inR; omega) | (simp; done) | (unfold inR; simp at *; omega) | (simp at *; omega) | (intros; contradiction)))
                 | (refine And.intro ?_ ?_; focus ((repeat' apply And.intro) <;> first | rfl | omega | (unfold inR; omega) | (simp; done) | (unfold inR; simp at *; omega) | (simp at *; omega) | (intros; contradiction)))
               )
      refine sp_intro (fun hyes => ?_) (fun hno => ?_)
      · skip
        repeat' (conv => whnf
                 first
                   | (exact And.intro rfl rfl)
                   | (refine And.intro (?_ : _ = Out.ret _) rfl)
                   | (intro _)
                   | (refine And.intro rfl ?_)
                   | (refine apn_own ?_)
                   | (refine .inl (And.intro ?_ ?_); focus ((repeat' apply And.intro) <;> first | rfl | omega | (unfold inR; omega) | (simp; done) | (unfold inR; simp at *; omega) | (simp at *; omega) | (intros; contradiction)))
                   | (refine And.intro ?_ ?_; focus ((repeat' apply And.intro) <;> first | rfl | omega | (unfold inR; omega) | (simp; done) | (unfold inR; simp at *; omega) | (simp at *; omega) | (intros; contradiction)))
                 )
        refine ⟨encT y, by simp [hy], ⟨rfl, rfl, rfl⟩, ?_⟩
        repeat' (conv => whnf
                 first
                   | (exact And.intro rfl rfl)
                   | (refine And.intro (?_ : _ = Out.ret _) rfl)
                   | (intro _)
                   | (refine And.intro rfl ?_)
                   | (refine apn_own ?_)
                   | (refine .inl (And.intro ?_ ?_); focus ((repeat' apply And.intro) <;> first | rfl | omega | (unfold inR; omega) | (simp; done) | (unfold inR; simp at *; omega) | (simp at *; omega) | (intros; contradiction)))
                   | (refine And.intro ?_ ?_; focus ((repeat' apply And.intro) <;> first | rfl | omega | (unfold inR; omega) | (simp; done) | (unfold inR; simp at *; omega) | (simp at *; omega) | (intros; contradiction)))
                 )
        refine ⟨(j + 1, i + 1, m.set i x), ⟨by simp [h1], by omega, by omega, ?_, ?_⟩, Nat.sub_lt_sub_left (by omega) (Nat.lt_succ_self j), ⟨rfl, rfl, rfl, rfl, trivial⟩, ⟨?_, .inl rfl, trivial⟩, rfl⟩
        · rw [keep_succ hx, nt hyes, ← h4]
          simp only [cond_false]
          rw [List.take_add_one, List.take_set_of_le (Nat.le_refl _), List.getElem?_set_self (by omega)]
          rfl
        · rw [List.drop_set_of_lt (by omega)]
          have := congrArg (List.drop 1) h5
          simpa [List.drop_drop] using this
        · show B.rows 3 ((m.map encT).set i (encT x)) = B.rows 3 ((m.set i x).map encT)
          rw [List.map_set]
      · skip
        repeat' (conv => whnf
                 first
                   | (exact And.intro rfl rfl)
                   | (refine And.intro (?_ : _ = Out.ret _) rfl)
                   | (intro _)
                   | (refine And.intro rfl ?_)
                   | (refine apn_own ?_)
                   | (refine .inl (And.intro ?_ ?_); focus ((repeat' apply And.intro) <;> first | rfl | omega | (unfold inR; omega) | (simp; done) | (unfold inR; simp at *; omega) | (simp at *; omega) | (intros; contradiction)))
                   | (refine And.intro ?_ ?_; focus ((repeat' apply And.intro) <;> first | rfl | omega | (unfold inR; omega) | (simp; done) | (unfold inR; simp at *; omega) | (simp at *; omega) | (intros; contradiction)))
                 )
        refine ⟨(j + 1, i, m), ⟨h1, by omega, by omega, ?_, ?_⟩, Nat.sub_lt_sub_left (by omega) (Nat.lt_succ_self j), ⟨rfl, rfl, rfl, rfl, trivial⟩, ⟨rfl, .inl rfl, trivial⟩, rfl⟩
        · rw [keep_succ hx, nf hno, h4]
          simp
        · have := congrArg (List.drop 1) h5
          simpa [List.drop_drop] using this
    · have hj : j = l.length := by
        have : ¬ j < m.length := by simpa using hge
        omega
      subst hj
      rw [List.take_length] at h4
      repeat' (conv => whnf
               first
                 | (exact And.intro rfl rfl)
                 | (refine And.intro (?_ : _ = Out.ret _) rfl)
                 | (intro _)
                 | (refine And.intro rfl ?_)
                 | (refine apn_own ?_)
                 | (refine .inl (And.intro ?_ ?_); focus ((repeat' apply And.intro) <;> first | rfl | omega | (unfold inR; omega) | (simp; done) | (unfold inR; simp at *; omega) | (simp at *; omega) | (intros; contradiction)))
                 | (refine And.intro ?_ ?_; focus ((repeat' apply And.intro) <;> first | rfl | omega | (unfold inR; omega) | (simp; done) | (unfold inR; simp at *; omega) | (simp at *; omega) | (intros; contradiction)))
               )
      show K (.ret (.d (.sl 3 (List.drop 0 (List.take i (List.take i (m.map encT) ++ List.replicate ((m.map encT).length - i) [.int .i64 0, .int .i64 0, .int .i64 0])))))) [.no, .cells [.d (.int .i64 n)]]
      have e : List.drop 0 (List.take i (List.take i (m.map encT) ++ List.replicate ((m.map encT).length - i) [D.int .i64 0, .int .i64 0, .int .i64 0])) = (keep n l).map encT := by
        rw [List.drop_zero, List.take_append_of_le_length (by simp; omega), List.take_take, Nat.min_self, ← List.map_take, h4]
      rw [e]
      exact hk
end Go.Proofs.Ytfllfllfeiaoeaa
