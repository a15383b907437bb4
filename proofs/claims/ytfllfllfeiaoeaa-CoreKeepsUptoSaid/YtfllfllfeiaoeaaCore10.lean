/- CoreKeeps in the picture. Conditions: what is handed in is not too long. -/
import Derived.Test.YtfllfllfeiaoeaaCore8
namespace Go.Proofs.Ytfllfllfeiaoeaa
open Go.Vx

theorem enter7r (c : Co) (fn vs : Int) (rows : List (List D)) (l : List Va) (ma : Int) (h : rows = l.map encV) (hf : c.fr.length < 1000000000) (ha : l.length < 1000000000) : SatP Try.prog 7 [agC c, .d (.int .i64 fn), .d (.int .i64 vs), .d (.sl 5 rows), .d (.int .u8 ma)] (enterR c fn vs l ma) := by
  subst h
  exact enter7 c fn vs l ma hf ha

def pC (c : Co) (n : Int) : Co := bif popOk c n then popC c n else c
def pL (c : Co) (n : Int) : List Va := bif popOk c n then popL c n else []
theorem popR_eq (c : Co) (n : Int) : popR c n = .tu [agC (pC c n), .d (.sl 5 ((pL c n).map encV)), .d (.bool (popOk c n))] := by
  cases h : popOk c n <;> simp only [popR, pC, pL, h, cond_true, cond_false]
  rfl
theorem pC_len (c : Co) (n : Int) : (pC c n).st.length ≤ c.st.length := by
  cases h : popOk c n <;> simp only [pC, h, cond_true, cond_false, Nat.le_refl]
  simp only [popC, cutn, List.length_take]
  omega
theorem eqVt (v : Va) : (v.k == v.k && (v.n == v.n && (v.nm == v.nm && (v.ls == v.ls && (v.li == v.li && true))))) = true := by simp

theorem throwR_ex (c : Co) (code kp : Int) : ∃ d b, throwR c code kp = .tu [agC d, .d (.bool b)] := by
  cases h1 : decide ((c.tr.length : Int) - 1 < max kp 0) with
  | true => exact ⟨c, false, by simp only [throwR, h1, cond_true]⟩
  | false =>
    cases h2 : c.tr.getLast? with
    | none => exact ⟨c, false, by simp only [throwR, h1, h2, cond_false]⟩
    | some t =>
      cases h3 : tryOk c t with
      | false => exact ⟨c, false, by simp only [throwR, h1, h2, h3, cond_false]⟩
      | true => exact ⟨throwC c t code, true, by simp only [throwR, h1, h2, h3, cond_false, cond_true]⟩
theorem retR_ex (c : Co) : ∃ d v b, retR c = .tu [agC d, agV v, .d (.bool b)] := by
  cases h : retOk c <;> simp only [retR, h, cond_true, cond_false] <;> exact ⟨_, _, _, rfl⟩

set_option maxHeartbeats 4000000 in
set_option maxRecDepth 100000 in
theorem keeps5 (c : Co) (l : List Va) (v : Va) (a0 a1 a2 a3 a4 a5 a6 a7 a8 : Int) (hf : c.fr.length ≤ 1048576) (hs : c.st.length ≤ 1048576) (ht : c.tr.length ≤ 1048576) :
    SatP Try.prog 5 [agC c, agA a0 a1 a2 a3 a4 a5 a6 a7 a8, .d (.sl 5 (l.map encV)), agV v] (.d (.bool true)) := by
  refine s5 (keep := false) rfl ?_
  have hpop := pop10 c a2 (by omega)
  rw [popR_eq] at hpop
  have hpl := pC_len c a2
  have s1 := same8 c c
  rw [same_refl] at s1
  have hc1 : (cutC c a4 a5 a6).st.length ≤ c.st.length := by simp only [cutC, cutn, List.length_take]; omega
  have hrow : ((l.map encV).take (min ((l.map encV).length : Int) 8).toNat).drop (0 : Int).toNat = (l.take (min (l.length : Int) 8).toNat).map encV := by
    simp [List.map_take]
  have hll : (l.take (min (l.length : Int) 8).toNat).length < 1000000000 := by rw [List.length_take]; omega
  have he1 := enter7r c a0 1 _ _ 0 hrow (by omega) hll
  have he2 := enter7r c (a0 + 1) 1 _ _ 0 hrow (by omega) hll
  have he3 := enter7r c (IntKind.i64.wrap (a0 + 1)) 1 _ _ 0 hrow (by omega) hll
  have hth := throw13 c a7 a3 (by omega) (by omega)
  obtain ⟨td, tb, te⟩ := throwR_ex c a7 a3
  rw [te] at hth
  have hre := ret14 c (by omega) (by omega) (by omega)
  obtain ⟨rd, rv, rb, re⟩ := retR_ex c
  rw [re] at hre
  cases ho : enterOk c with
  | true =>
    have hlt : c.fr.length < 16 := by simpa [enterOk] using ho
    have hy : ∀ x, enterR c x 1 (l.take (min (l.length : Int) 8).toNat) 0 = .tu [agC (enterC c x 1 (l.take (min (l.length : Int) 8).toNat) 0), .d (.bool true)] := fun x => by simp only [enterR, ho, cond_true]
    rw [hy] at he1 he2 he3
    repeat' (conv => whnf
             first
               | (exact And.intro rfl rfl)
               | (refine And.intro (?_ : _ = Out.ret _) rfl)
               | (intro _)
               | (refine And.intro rfl ?_)
               | (refine ⟨_, examples6, ?_⟩)
               | (refine (examples6).use ?_)
               | (refine ⟨_, hpop, ?_⟩)
               | (refine (hpop).use ?_)
               | (refine ⟨_, push11 (pC c a2) v (by omega), ?_⟩)
               | (refine (push11 (pC c a2) v (by omega)).use ?_)
               | (refine ⟨_, number12 _, ?_⟩)
               | (refine (number12 _).use ?_)
               | (refine ⟨_, push11 (pC c a2) (num 99) (by omega), ?_⟩)
               | (refine (push11 (pC c a2) (num 99) (by omega)).use ?_)
               | (refine ⟨_, he1, ?_⟩)
               | (refine (he1).use ?_)
               | (refine ⟨_, he2, ?_⟩)
               | (refine (he2).use ?_)
               | (refine ⟨_, he3, ?_⟩)
               | (refine (he3).use ?_)
               | (refine ⟨_, hth, ?_⟩)
               | (refine (hth).use ?_)
               | (refine ⟨_, hre, ?_⟩)
               | (refine (hre).use ?_)
               | (refine ⟨_, cut9 c a4 a5 a6, ?_⟩)
               | (refine (cut9 c a4 a5 a6).use ?_)
               | (refine ⟨_, push11 (cutC c a4 a5 a6) v (by omega), ?_⟩)
               | (refine (push11 (cutC c a4 a5 a6) v (by omega)).use ?_)
               | (refine ⟨_, s1, ?_⟩)
               | (refine (s1).use ?_)
               | (refine apn_own ?_)
               | (refine .inl (And.intro ?_ ?_); focus ((repeat' apply And.intro) <;> first | rfl | omega | (unfold inR; omega) | (simp; done) | (unfold inR; simp at *; omega) | (simp at *; omega) | (intros; contradiction)))
               | (refine And.intro ?_ ?_; focus ((repeat' apply And.intro) <;> first | rfl | omega | (unfold inR; omega) | (simp; done) | (unfold inR; simp at *; omega) | (simp at *; omega) | (intros; contradiction)))
             )
    conv => whnf
    refine .inr ?_
    repeat' (conv => whnf
             first
               | (exact And.intro rfl rfl)
               | (refine And.intro (?_ : _ = Out.ret _) rfl)
               | (intro _)
               | (refine And.intro rfl ?_)
               | (refine ⟨_, he3, ?_⟩)
               | (refine (he3).use ?_)
               | (refine ⟨_, hth, ?_⟩)
               | (refine (hth).use ?_)
               | (refine ⟨_, hre, ?_⟩)
               | (refine (hre).use ?_)
               | (refine ⟨_, cut9 c a4 a5 a6, ?_⟩)
               | (refine (cut9 c a4 a5 a6).use ?_)
               | (refine ⟨_, push11 (cutC c a4 a5 a6) v (by omega), ?_⟩)
               | (refine (push11 (cutC c a4 a5 a6) v (by omega)).use ?_)
               | (refine ⟨_, s1, ?_⟩)
               | (refine (s1).use ?_)
               | (refine apn_own ?_)
               | (refine .inl (And.intro ?_ ?_); focus ((repeat' apply And.intro) <;> first | rfl | omega | (unfold inR; omega) | (simp; done) | (unfold inR; simp at *; omega) | (simp at *; omega) | (intros; contradiction)))
               | (refine And.intro ?_ ?_; focus ((repeat' apply And.intro) <;> first | rfl | omega | (unfold inR; omega) | (simp; done) | (unfold inR; simp at *; omega) | (simp at *; omega) | (intros; contradiction)))
             )
    refine sp_intro (fun hb => absurd hb (by simp; omega)) (fun hb => ?_)
    repeat' (conv => whnf
             first
               | (exact And.intro rfl rfl)
               | (refine And.intro (?_ : _ = Out.ret _) rfl)
               | (intro _)
               | (refine And.intro rfl ?_)
               | (refine apn_own ?_)
               | (refine .inl (And.intro ?_ ?_); focus ((repeat' apply And.intro) <;> first | rfl | omega | (unfold inR; omega) | (simp; done) | (unfold inR; simp at *; omega) | (simp at *; omega) | (intros; contradiction)))
               | (refine And.intro ?_ ?_; focus ((repeat' apply And.intro) <;> first | rfl | omega | (unfold inR; omega) | (simp; done) | (unfold inR; simp at *; omega) | (simp at *; omega) | (intros; contradiction)))
             )
    refine sp_intro (fun hb => absurd hb (by simp [pushC]; omega)) (fun hb => ?_)
    repeat' (conv => whnf
             first
               | (exact And.intro rfl rfl)
               | (refine And.intro (?_ : _ = Out.ret _) rfl)
               | (intro _)
               | (refine And.intro rfl ?_)
               | (refine apn_own ?_)
               | (refine .inl (And.intro ?_ ?_); focus ((repeat' apply And.intro) <;> first | rfl | omega | (unfold inR; omega) | (simp; done) | (unfold inR; simp at *; omega) | (simp at *; omega) | (intros; contradiction)))
               | (refine And.intro ?_ ?_; focus ((repeat' apply And.intro) <;> first | rfl | omega | (unfold inR; omega) | (simp; done) | (unfold inR; simp at *; omega) | (simp at *; omega) | (intros; contradiction)))
             )
    refine sp_intro (fun hb => absurd hb (by simp [pushC]; omega)) (fun hb => ?_)
    repeat' (conv => whnf
             first
               | (exact And.intro rfl rfl)
               | (refine And.intro (?_ : _ = Out.ret _) rfl)
               | (intro _)
               | (refine And.intro rfl ?_)
               | (refine apn_own ?_)
               | (refine .inl (And.intro ?_ ?_); focus ((repeat' apply And.intro) <;> first | rfl | omega | (unfold inR; omega) | (simp; done) | (unfold inR; simp at *; omega) | (simp at *; omega) | (intros; contradiction)))
               | (refine And.intro ?_ ?_; focus ((repeat' apply And.intro) <;> first | rfl | omega | (unfold inR; omega) | (simp; done) | (unfold inR; simp at *; omega) | (simp at *; omega) | (intros; contradiction)))
             )
    refine sp_intro (fun hb => absurd hb (by simp [pushC]; omega)) (fun hb => ?_)
    repeat' (conv => whnf
             first
               | (exact And.intro rfl rfl)
               | (refine And.intro (?_ : _ = Out.ret _) rfl)
               | (intro _)
               | (refine And.intro rfl ?_)
               | (refine apn_own ?_)
               | (refine .inl (And.intro ?_ ?_); focus ((repeat' apply And.intro) <;> first | rfl | omega | (unfold inR; omega) | (simp; done) | (unfold inR; simp at *; omega) | (simp at *; omega) | (intros; contradiction)))
               | (refine And.intro ?_ ?_; focus ((repeat' apply And.intro) <;> first | rfl | omega | (unfold inR; omega) | (simp; done) | (unfold inR; simp at *; omega) | (simp at *; omega) | (intros; contradiction)))
             )
    refine sp_intro (fun hb => absurd hb (by simp [enterC]; omega)) (fun hb => ?_)
    repeat' (conv => whnf
             first
               | (exact And.intro rfl rfl)
               | (refine And.intro (?_ : _ = Out.ret _) rfl)
               | (intro _)
               | (refine And.intro rfl ?_)
               | (refine apn_own ?_)
               | (refine .inl (And.intro ?_ ?_); focus ((repeat' apply And.intro) <;> first | rfl | omega | (unfold inR; omega) | (simp; done) | (unfold inR; simp at *; omega) | (simp at *; omega) | (intros; contradiction)))
               | (refine And.intro ?_ ?_; focus ((repeat' apply And.intro) <;> first | rfl | omega | (unfold inR; omega) | (simp; done) | (unfold inR; simp at *; omega) | (simp at *; omega) | (intros; contradiction)))
             )
    refine sp_intro (fun hb => absurd hb (by simp [enterC]; omega)) (fun hb => ?_)
    repeat' (conv => whnf
             first
               | (exact And.intro rfl rfl)
               | (refine And.intro (?_ : _ = Out.ret _) rfl)
               | (intro _)
               | (refine And.intro rfl ?_)
               | (refine apn_own ?_)
               | (refine .inl (And.intro ?_ ?_); focus ((repeat' apply And.intro) <;> first | rfl | omega | (unfold inR; omega) | (simp; done) | (unfold inR; simp at *; omega) | (simp at *; omega) | (intros; contradiction)))
               | (refine And.intro ?_ ?_; focus ((repeat' apply And.intro) <;> first | rfl | omega | (unfold inR; omega) | (simp; done) | (unfold inR; simp at *; omega) | (simp at *; omega) | (intros; contradiction)))
             )
    have hv1 : ((pushC (pC c a2) v).st.map encV)[((((pushC (pC c a2) v).st.map encV).length : Int) - 1).toNat]? = some (encV v) := by
      simp [pushC]
    refine ⟨encV v, ⟨by simp [pushC], hv1, rfl⟩, ?_⟩
    repeat' (conv => whnf
             first
               | (exact And.intro rfl rfl)
               | (refine And.intro (?_ : _ = Out.ret _) rfl)
               | (intro _)
               | (refine And.intro rfl ?_)
               | (refine apn_own ?_)
               | (refine .inl (And.intro ?_ ?_); focus ((repeat' apply And.intro) <;> first | rfl | omega | (unfold inR; omega) | (simp; done) | (unfold inR; simp at *; omega) | (simp at *; omega) | (intros; contradiction)))
               | (refine And.intro ?_ ?_; focus ((repeat' apply And.intro) <;> first | rfl | omega | (unfold inR; omega) | (simp; done) | (unfold inR; simp at *; omega) | (simp at *; omega) | (intros; contradiction)))
             )
    refine sp_intro (fun hb => ?_) (fun hb => absurd hb (by simp))
    repeat' (conv => whnf
             first
               | (exact And.intro rfl rfl)
               | (refine And.intro (?_ : _ = Out.ret _) rfl)
               | (intro _)
               | (refine And.intro rfl ?_)
               | (refine apn_own ?_)
               | (refine .inl (And.intro ?_ ?_); focus ((repeat' apply And.intro) <;> first | rfl | omega | (unfold inR; omega) | (simp; done) | (unfold inR; simp at *; omega) | (simp at *; omega) | (intros; contradiction)))
               | (refine And.intro ?_ ?_; focus ((repeat' apply And.intro) <;> first | rfl | omega | (unfold inR; omega) | (simp; done) | (unfold inR; simp at *; omega) | (simp at *; omega) | (intros; contradiction)))
             )
    have hv2 : ((pushC (pC c a2) (num 99)).st.map encV)[((((pushC (pC c a2) (num 99)).st.map encV).length : Int) - 1).toNat]? = some (encV (num 99)) := by
      simp [pushC]
    refine ⟨encV (num 99), ⟨by simp [pushC], hv2, rfl⟩, ?_⟩
    repeat' (conv => whnf
             first
               | (exact And.intro rfl rfl)
               | (refine And.intro (?_ : _ = Out.ret _) rfl)
               | (intro _)
               | (refine And.intro rfl ?_)
               | (refine ⟨_, number12 _, ?_⟩)
               | (refine (number12 _).use ?_)
               | (refine apn_own ?_)
               | (refine .inl (And.intro ?_ ?_); focus ((repeat' apply And.intro) <;> first | rfl | omega | (unfold inR; omega) | (simp; done) | (unfold inR; simp at *; omega) | (simp at *; omega) | (intros; contradiction)))
               | (refine And.intro ?_ ?_; focus ((repeat' apply And.intro) <;> first | rfl | omega | (unfold inR; omega) | (simp; done) | (unfold inR; simp at *; omega) | (simp at *; omega) | (intros; contradiction)))
             )
    have hv3 : ((pushC (cutC c a4 a5 a6) v).st.map encV)[((((pushC (cutC c a4 a5 a6) v).st.map encV).length : Int) - 1).toNat]? = some (encV v) := by
      simp [pushC]
    refine ⟨encV v, ⟨by simp [pushC], hv3, rfl⟩, ?_⟩
    repeat' (conv => whnf
             first
               | (exact And.intro rfl rfl)
               | (refine And.intro (?_ : _ = Out.ret _) rfl)
               | (intro _)
               | (refine And.intro rfl ?_)
               | (refine ⟨_, number12 _, ?_⟩)
               | (refine (number12 _).use ?_)
               | (refine apn_own ?_)
               | (refine .inl (And.intro ?_ ?_); focus ((repeat' apply And.intro) <;> first | rfl | omega | (unfold inR; omega) | (simp; done) | (unfold inR; simp at *; omega) | (simp at *; omega) | (intros; contradiction)))
               | (refine And.intro ?_ ?_; focus ((repeat' apply And.intro) <;> first | rfl | omega | (unfold inR; omega) | (simp; done) | (unfold inR; simp at *; omega) | (simp at *; omega) | (intros; contradiction)))
             )
    have hw1 : ((enterC c a0 1 (l.take (min (l.length : Int) 8).toNat) 0).fr.map encF)[((((enterC c a0 1 (l.take (min (l.length : Int) 8).toNat) 0).fr.map encF).length : Int) - 1).toNat]? = some (encF ⟨a0, 0, c.st.length, 0, l.take (min (l.length : Int) 8).toNat ++ zeros 1⟩) := by
      simp [enterC]
      rfl
    refine ⟨_, ⟨by simp [enterC], hw1, rfl⟩, ?_⟩
    repeat' (conv => whnf
             first
               | (exact And.intro rfl rfl)
               | (refine And.intro (?_ : _ = Out.ret _) rfl)
               | (intro _)
               | (refine And.intro rfl ?_)
               | (refine apn_own ?_)
               | (refine .inl (And.intro ?_ ?_); focus ((repeat' apply And.intro) <;> first | rfl | omega | (unfold inR; omega) | (simp; done) | (unfold inR; simp at *; omega) | (simp at *; omega) | (intros; contradiction)))
               | (refine And.intro ?_ ?_; focus ((repeat' apply And.intro) <;> first | rfl | omega | (unfold inR; omega) | (simp; done) | (unfold inR; simp at *; omega) | (simp at *; omega) | (intros; contradiction)))
             )
    refine sp_intro (fun hb => ?_) (fun hb => absurd hb (by simp))
    repeat' (conv => whnf
             first
               | (exact And.intro rfl rfl)
               | (refine And.intro (?_ : _ = Out.ret _) rfl)
               | (intro _)
               | (refine And.intro rfl ?_)
               | (refine apn_own ?_)
               | (refine .inl (And.intro ?_ ?_); focus ((repeat' apply And.intro) <;> first | rfl | omega | (unfold inR; omega) | (simp; done) | (unfold inR; simp at *; omega) | (simp at *; omega) | (intros; contradiction)))
               | (refine And.intro ?_ ?_; focus ((repeat' apply And.intro) <;> first | rfl | omega | (unfold inR; omega) | (simp; done) | (unfold inR; simp at *; omega) | (simp at *; omega) | (intros; contradiction)))
             )
    have hw2 : ((enterC c (IntKind.i64.wrap (a0 + 1)) 1 (l.take (min (l.length : Int) 8).toNat) 0).fr.map encF)[((((enterC c (IntKind.i64.wrap (a0 + 1)) 1 (l.take (min (l.length : Int) 8).toNat) 0).fr.map encF).length : Int) - 1).toNat]? = some (encF ⟨IntKind.i64.wrap (a0 + 1), 0, c.st.length, 0, l.take (min (l.length : Int) 8).toNat ++ zeros 1⟩) := by
      simp [enterC]
      rfl
    refine ⟨_, ⟨by simp [enterC], hw2, rfl⟩, ?_⟩
    repeat' (conv => whnf
             first
               | (exact And.intro rfl rfl)
               | (refine And.intro (?_ : _ = Out.ret _) rfl)
               | (intro _)
               | (refine And.intro rfl ?_)
               | (refine apn_own ?_)
               | (refine .inl (And.intro ?_ ?_); focus ((repeat' apply And.intro) <;> first | rfl | omega | (unfold inR; omega) | (simp; done) | (unfold inR; simp at *; omega) | (simp at *; omega) | (intros; contradiction)))
               | (refine And.intro ?_ ?_; focus ((repeat' apply And.intro) <;> first | rfl | omega | (unfold inR; omega) | (simp; done) | (unfold inR; simp at *; omega) | (simp at *; omega) | (intros; contradiction)))
             )
    conv => whnf
    refine .inr ?_
    repeat' (conv => whnf
             first
               | (exact And.intro rfl rfl)
               | (refine And.intro (?_ : _ = Out.ret _) rfl)
               | (intro _)
               | (refine And.intro rfl ?_)
               | (refine ⟨_, s1, ?_⟩)
               | (refine (s1).use ?_)
               | (refine apn_own ?_)
               | (refine .inl (And.intro ?_ ?_); focus ((repeat' apply And.intro) <;> first | rfl | omega | (unfold inR; omega) | (simp; done) | (unfold inR; simp at *; omega) | (simp at *; omega) | (intros; contradiction)))
               | (refine And.intro ?_ ?_; focus ((repeat' apply And.intro) <;> first | rfl | omega | (unfold inR; omega) | (simp; done) | (unfold inR; simp at *; omega) | (simp at *; omega) | (intros; contradiction)))
             )
    refine sp_intro (fun hb => ?_) (fun hb => absurd hb (by simp))
    repeat' (conv => whnf
             first
               | (exact And.intro rfl rfl)
               | (refine And.intro (?_ : _ = Out.ret _) rfl)
               | (intro _)
               | (refine And.intro rfl ?_)
               | (refine apn_own ?_)
               | (refine .inl (And.intro ?_ ?_); focus ((repeat' apply And.intro) <;> first | rfl | omega | (unfold inR; omega) | (simp; done) | (unfold inR; simp at *; omega) | (simp at *; omega) | (intros; contradiction)))
               | (refine And.intro ?_ ?_; focus ((repeat' apply And.intro) <;> first | rfl | omega | (unfold inR; omega) | (simp; done) | (unfold inR; simp at *; omega) | (simp at *; omega) | (intros; contradiction)))
             )
    show Out.ret (V.d (.bool (IntKind.i64.wrap (a0 + 1) == IntKind.i64.wrap (a0 + 1)))) = _
    rw [beq_self_eq_true]
  | false =>
    have hge : 16 ≤ c.fr.length := by simpa [enterOk] using ho
    have hy : ∀ x, enterR c x 1 (l.take (min (l.length : Int) 8).toNat) 0 = .tu [agC c, .d (.bool false)] := fun x => by simp only [enterR, ho, cond_false]
    rw [hy] at he1 he2 he3
    repeat' (conv => whnf
             first
               | (exact And.intro rfl rfl)
               | (refine And.intro (?_ : _ = Out.ret _) rfl)
               | (intro _)
               | (refine And.intro rfl ?_)
               | (refine ⟨_, examples6, ?_⟩)
               | (refine (examples6).use ?_)
               | (refine ⟨_, hpop, ?_⟩)
               | (refine (hpop).use ?_)
               | (refine ⟨_, push11 (pC c a2) v (by omega), ?_⟩)
               | (refine (push11 (pC c a2) v (by omega)).use ?_)
               | (refine ⟨_, number12 _, ?_⟩)
               | (refine (number12 _).use ?_)
               | (refine ⟨_, push11 (pC c a2) (num 99) (by omega), ?_⟩)
               | (refine (push11 (pC c a2) (num 99) (by omega)).use ?_)
               | (refine ⟨_, he1, ?_⟩)
               | (refine (he1).use ?_)
               | (refine ⟨_, he2, ?_⟩)
               | (refine (he2).use ?_)
               | (refine ⟨_, he3, ?_⟩)
               | (refine (he3).use ?_)
               | (refine ⟨_, hth, ?_⟩)
               | (refine (hth).use ?_)
               | (refine ⟨_, hre, ?_⟩)
               | (refine (hre).use ?_)
               | (refine ⟨_, cut9 c a4 a5 a6, ?_⟩)
               | (refine (cut9 c a4 a5 a6).use ?_)
               | (refine ⟨_, push11 (cutC c a4 a5 a6) v (by omega), ?_⟩)
               | (refine (push11 (cutC c a4 a5 a6) v (by omega)).use ?_)
               | (refine ⟨_, s1, ?_⟩)
               | (refine (s1).use ?_)
               | (refine apn_own ?_)
               | (refine .inl (And.intro ?_ ?_); focus ((repeat' apply And.intro) <;> first | rfl | omega | (unfold inR; omega) | (simp; done) | (unfold inR; simp at *; omega) | (simp at *; omega) | (intros; contradiction)))
               | (refine And.intro ?_ ?_; focus ((repeat' apply And.intro) <;> first | rfl | omega | (unfold inR; omega) | (simp; done) | (unfold inR; simp at *; omega) | (simp at *; omega) | (intros; contradiction)))
             )
    conv => whnf
    refine .inr ?_
    repeat' (conv => whnf
             first
               | (exact And.intro rfl rfl)
               | (refine And.intro (?_ : _ = Out.ret _) rfl)
               | (intro _)
               | (refine And.intro rfl ?_)
               | (refine ⟨_, he3, ?_⟩)
               | (refine (he3).use ?_)
               | (refine ⟨_, hth, ?_⟩)
               | (refine (hth).use ?_)
               | (refine ⟨_, hre, ?_⟩)
               | (refine (hre).use ?_)
               | (refine ⟨_, cut9 c a4 a5 a6, ?_⟩)
               | (refine (cut9 c a4 a5 a6).use ?_)
               | (refine ⟨_, push11 (cutC c a4 a5 a6) v (by omega), ?_⟩)
               | (refine (push11 (cutC c a4 a5 a6) v (by omega)).use ?_)
               | (refine ⟨_, s1, ?_⟩)
               | (refine (s1).use ?_)
               | (refine apn_own ?_)
               | (refine .inl (And.intro ?_ ?_); focus ((repeat' apply And.intro) <;> first | rfl | omega | (unfold inR; omega) | (simp; done) | (unfold inR; simp at *; omega) | (simp at *; omega) | (intros; contradiction)))
               | (refine And.intro ?_ ?_; focus ((repeat' apply And.intro) <;> first | rfl | omega | (unfold inR; omega) | (simp; done) | (unfold inR; simp at *; omega) | (simp at *; omega) | (intros; contradiction)))
             )
    refine sp_intro (fun hb => absurd hb (by simp; omega)) (fun hb => ?_)
    repeat' (conv => whnf
             first
               | (exact And.intro rfl rfl)
               | (refine And.intro (?_ : _ = Out.ret _) rfl)
               | (intro _)
               | (refine And.intro rfl ?_)
               | (refine apn_own ?_)
               | (refine .inl (And.intro ?_ ?_); focus ((repeat' apply And.intro) <;> first | rfl | omega | (unfold inR; omega) | (simp; done) | (unfold inR; simp at *; omega) | (simp at *; omega) | (intros; contradiction)))
               | (refine And.intro ?_ ?_; focus ((repeat' apply And.intro) <;> first | rfl | omega | (unfold inR; omega) | (simp; done) | (unfold inR; simp at *; omega) | (simp at *; omega) | (intros; contradiction)))
             )
    refine sp_intro (fun hb => absurd hb (by simp [pushC]; omega)) (fun hb => ?_)
    repeat' (conv => whnf
             first
               | (exact And.intro rfl rfl)
               | (refine And.intro (?_ : _ = Out.ret _) rfl)
               | (intro _)
               | (refine And.intro rfl ?_)
               | (refine apn_own ?_)
               | (refine .inl (And.intro ?_ ?_); focus ((repeat' apply And.intro) <;> first | rfl | omega | (unfold inR; omega) | (simp; done) | (unfold inR; simp at *; omega) | (simp at *; omega) | (intros; contradiction)))
               | (refine And.intro ?_ ?_; focus ((repeat' apply And.intro) <;> first | rfl | omega | (unfold inR; omega) | (simp; done) | (unfold inR; simp at *; omega) | (simp at *; omega) | (intros; contradiction)))
             )
    refine sp_intro (fun hb => absurd hb (by simp [pushC]; omega)) (fun hb => ?_)
    repeat' (conv => whnf
             first
               | (exact And.intro rfl rfl)
               | (refine And.intro (?_ : _ = Out.ret _) rfl)
               | (intro _)
               | (refine And.intro rfl ?_)
               | (refine apn_own ?_)
               | (refine .inl (And.intro ?_ ?_); focus ((repeat' apply And.intro) <;> first | rfl | omega | (unfold inR; omega) | (simp; done) | (unfold inR; simp at *; omega) | (simp at *; omega) | (intros; contradiction)))
               | (refine And.intro ?_ ?_; focus ((repeat' apply And.intro) <;> first | rfl | omega | (unfold inR; omega) | (simp; done) | (unfold inR; simp at *; omega) | (simp at *; omega) | (intros; contradiction)))
             )
    refine sp_intro (fun hb => absurd hb (by simp [pushC]; omega)) (fun hb => ?_)
    repeat' (conv => whnf
             first
               | (exact And.intro rfl rfl)
               | (refine And.intro (?_ : _ = Out.ret _) rfl)
               | (intro _)
               | (refine And.intro rfl ?_)
               | (refine apn_own ?_)
               | (refine .inl (And.intro ?_ ?_); focus ((repeat' apply And.intro) <;> first | rfl | omega | (unfold inR; omega) | (simp; done) | (unfold inR; simp at *; omega) | (simp at *; omega) | (intros; contradiction)))
               | (refine And.intro ?_ ?_; focus ((repeat' apply And.intro) <;> first | rfl | omega | (unfold inR; omega) | (simp; done) | (unfold inR; simp at *; omega) | (simp at *; omega) | (intros; contradiction)))
             )
    have hv1 : ((pushC (pC c a2) v).st.map encV)[((((pushC (pC c a2) v).st.map encV).length : Int) - 1).toNat]? = some (encV v) := by
      simp [pushC]
    refine ⟨encV v, ⟨by simp [pushC], hv1, rfl⟩, ?_⟩
    repeat' (conv => whnf
             first
               | (exact And.intro rfl rfl)
               | (refine And.intro (?_ : _ = Out.ret _) rfl)
               | (intro _)
               | (refine And.intro rfl ?_)
               | (refine apn_own ?_)
               | (refine .inl (And.intro ?_ ?_); focus ((repeat' apply And.intro) <;> first | rfl | omega | (unfold inR; omega) | (simp; done) | (unfold inR; simp at *; omega) | (simp at *; omega) | (intros; contradiction)))
               | (refine And.intro ?_ ?_; focus ((repeat' apply And.intro) <;> first | rfl | omega | (unfold inR; omega) | (simp; done) | (unfold inR; simp at *; omega) | (simp at *; omega) | (intros; contradiction)))
             )
    refine sp_intro (fun hb => ?_) (fun hb => absurd hb (by simp))
    repeat' (conv => whnf
             first
               | (exact And.intro rfl rfl)
               | (refine And.intro (?_ : _ = Out.ret _) rfl)
               | (intro _)
               | (refine And.intro rfl ?_)
               | (refine apn_own ?_)
               | (refine .inl (And.intro ?_ ?_); focus ((repeat' apply And.intro) <;> first | rfl | omega | (unfold inR; omega) | (simp; done) | (unfold inR; simp at *; omega) | (simp at *; omega) | (intros; contradiction)))
               | (refine And.intro ?_ ?_; focus ((repeat' apply And.intro) <;> first | rfl | omega | (unfold inR; omega) | (simp; done) | (unfold inR; simp at *; omega) | (simp at *; omega) | (intros; contradiction)))
             )
    have hv2 : ((pushC (pC c a2) (num 99)).st.map encV)[((((pushC (pC c a2) (num 99)).st.map encV).length : Int) - 1).toNat]? = some (encV (num 99)) := by
      simp [pushC]
    refine ⟨encV (num 99), ⟨by simp [pushC], hv2, rfl⟩, ?_⟩
    repeat' (conv => whnf
             first
               | (exact And.intro rfl rfl)
               | (refine And.intro (?_ : _ = Out.ret _) rfl)
               | (intro _)
               | (refine And.intro rfl ?_)
               | (refine ⟨_, number12 _, ?_⟩)
               | (refine (number12 _).use ?_)
               | (refine apn_own ?_)
               | (refine .inl (And.intro ?_ ?_); focus ((repeat' apply And.intro) <;> first | rfl | omega | (unfold inR; omega) | (simp; done) | (unfold inR; simp at *; omega) | (simp at *; omega) | (intros; contradiction)))
               | (refine And.intro ?_ ?_; focus ((repeat' apply And.intro) <;> first | rfl | omega | (unfold inR; omega) | (simp; done) | (unfold inR; simp at *; omega) | (simp at *; omega) | (intros; contradiction)))
             )
    have hv3 : ((pushC (cutC c a4 a5 a6) v).st.map encV)[((((pushC (cutC c a4 a5 a6) v).st.map encV).length : Int) - 1).toNat]? = some (encV v) := by
      simp [pushC]
    refine ⟨encV v, ⟨by simp [pushC], hv3, rfl⟩, ?_⟩
    repeat' (conv => whnf
             first
               | (exact And.intro rfl rfl)
               | (refine And.intro (?_ : _ = Out.ret _) rfl)
               | (intro _)
               | (refine And.intro rfl ?_)
               | (refine ⟨_, number12 _, ?_⟩)
               | (refine (number12 _).use ?_)
               | (refine apn_own ?_)
               | (refine .inl (And.intro ?_ ?_); focus ((repeat' apply And.intro) <;> first | rfl | omega | (unfold inR; omega) | (simp; done) | (unfold inR; simp at *; omega) | (simp at *; omega) | (intros; contradiction)))
               | (refine And.intro ?_ ?_; focus ((repeat' apply And.intro) <;> first | rfl | omega | (unfold inR; omega) | (simp; done) | (unfold inR; simp at *; omega) | (simp at *; omega) | (intros; contradiction)))
             )
    repeat' (conv => whnf
             first
               | (exact And.intro rfl rfl)
               | (refine And.intro (?_ : _ = Out.ret _) rfl)
               | (intro _)
               | (refine And.intro rfl ?_)
               | (refine ⟨_, s1, ?_⟩)
               | (refine (s1).use ?_)
               | (refine apn_own ?_)
               | (refine .inl (And.intro ?_ ?_); focus ((repeat' apply And.intro) <;> first | rfl | omega | (unfold inR; omega) | (simp; done) | (unfold inR; simp at *; omega) | (simp at *; omega) | (intros; contradiction)))
               | (refine And.intro ?_ ?_; focus ((repeat' apply And.intro) <;> first | rfl | omega | (unfold inR; omega) | (simp; done) | (unfold inR; simp at *; omega) | (simp at *; omega) | (intros; contradiction)))
             )
    refine sp_intro (fun hb => ?_) (fun hb => absurd hb (by simp))
    repeat' (conv => whnf
             first
               | (exact And.intro rfl rfl)
               | (refine And.intro (?_ : _ = Out.ret _) rfl)
               | (intro _)
               | (refine And.intro rfl ?_)
               | (refine apn_own ?_)
               | (refine .inl (And.intro ?_ ?_); focus ((repeat' apply And.intro) <;> first | rfl | omega | (unfold inR; omega) | (simp; done) | (unfold inR; simp at *; omega) | (simp at *; omega) | (intros; contradiction)))
               | (refine And.intro ?_ ?_; focus ((repeat' apply And.intro) <;> first | rfl | omega | (unfold inR; omega) | (simp; done) | (unfold inR; simp at *; omega) | (simp at *; omega) | (intros; contradiction)))
             )
end Go.Proofs.Ytfllfllfeiaoeaa
