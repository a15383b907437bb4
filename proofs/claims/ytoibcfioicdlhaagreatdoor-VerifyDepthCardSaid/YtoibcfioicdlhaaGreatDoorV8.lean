/- VerifyDepth in the picture: pushes and tries up to the limit. Conditions: bytes are bytes. -/
import Derived.Test.YtoibcfioicdlhaaGreatDoorV7
namespace Go.Proofs.YtoibcfioicdlhaaGreatDoor
open Go.Vx

def dCode (n m : Nat) : List Op := List.replicate m ⟨20, (m : Int) + n⟩ ++ List.replicate n ⟨1, 0⟩ ++ [⟨1, 0⟩, ⟨18, 0⟩]
def dOk (n m : Nat) : Bool := okFn ⟨0, 0, dCode n m⟩ && (match checkV (code1 0 (dCode n m)) 99 [⟨0, 0, dCode n m⟩] 0 with
  | some r => bif decide (16 < m) then (r.2.2 == 8 && decide (r.2.1 < 16)) else bif decide (0 < m) then r.2.2 == 8 else bif decide (31 < n) then (r.2.2 == 8 && r.2.1 == 32) else (r.2.2 == 0 && r.2.1 == 0)
  | none => false)
theorem dOk_all : ((List.range 40).all fun n => (List.range 20).all fun m => dOk n m) = true := by kernel_rfl

theorem dOk_is {n m : Nat} (hn : n < 40) (hm : m < 20) : dOk n m = true :=
  List.all_eq_true.1 (List.all_eq_true.1 dOk_all n (List.mem_range.2 hn)) m (List.mem_range.2 hm)
theorem dCheck {n m : Nat} (hn : n < 40) (hm : m < 20) : ∃ r : Int × Int × Int, SatP Tryz.prog 17 [agI (code1 0 (dCode n m))] (agR3 r) ∧
    ((16 < m → r.2.2 = 8 ∧ r.2.1 < 16) ∧ (0 < m → r.2.2 = 8) ∧ (m = 0 → 31 < n → r.2.2 = 8 ∧ r.2.1 = 32) ∧ (m = 0 → n ≤ 31 → r.2.2 = 0 ∧ r.2.1 = 0)) := by
  have h := dOk_is hn hm
  unfold dOk at h
  rw [Bool.and_eq_true] at h
  obtain ⟨h1, h2⟩ := h
  cases hc : checkV (code1 0 (dCode n m)) 99 [⟨0, 0, dCode n m⟩] 0 with
  | none => rw [hc] at h2; cases h2
  | some r =>
    rw [hc] at h2
    refine ⟨r, check17 _ (okIm1 h1) 99 r hc, ?_⟩
    simp only at h2
    by_cases c1 : 16 < m
    · rw [show decide (16 < m) = true by simpa using c1] at h2
      simp at h2
      refine ⟨fun _ => ⟨h2.1, h2.2⟩, fun _ => h2.1, fun h => by omega, fun h => by omega⟩
    · rw [show decide (16 < m) = false by simpa using c1] at h2
      by_cases c2 : 0 < m
      · rw [show decide (0 < m) = true by simpa using c2] at h2
        simp at h2
        refine ⟨fun h => by omega, fun _ => h2, fun h => by omega, fun h => by omega⟩
      · rw [show decide (0 < m) = false by simpa using c2] at h2
        by_cases c3 : 31 < n
        · rw [show decide (31 < n) = true by simpa using c3] at h2
          simp at h2
          refine ⟨fun h => by omega, fun h => by omega, fun _ _ => h2, fun _ h => by omega⟩
        · rw [show decide (31 < n) = false by simpa using c3] at h2
          simp at h2
          refine ⟨fun h => by omega, fun h => by omega, fun _ h => by omega, fun _ _ => h2⟩

set_option maxRecDepth 100000 in
set_option maxHeartbeats 4000000 in
theorem depth7 (p q : Int) (hp : 0 ≤ p ∧ p ≤ 255) (hq : 0 ≤ q ∧ q ≤ 255) : SatP Tryz.prog 7 [.d (.int .u8 p), .d (.int .u8 q)] (.d (.bool true)) := by
  obtain ⟨n, en, hn⟩ := modN hp 40 (by decide)
  obtain ⟨m, em, hm⟩ := modN hq 20 (by decide)
  obtain ⟨r, hr, g1, g2, g3, g4⟩ := dCheck hn hm
  replace en : p.tmod 40 = (n : Int) := en
  replace em : q.tmod 20 = (m : Int) := em
  refine s7 (keep := false) rfl ?_
  repeat' ((conv => whnf); first | exact And.intro rfl rfl | refine And.intro (?_ : _ = Out.ret _) rfl | intro _ | refine And.intro rfl ?_ | refine ⟨_, examples15, ?_⟩ | refine (examples15).use ?_ | refine (And.intro (by decide) ?_) | refine (.inl ⟨by rw [en]; unfold inR; omega, ?_⟩) | refine (.inl ⟨by rw [em]; unfold inR; omega, ?_⟩) | refine apn_own ?_ | refine fro_nil ?_ | refine cfo_old ?_ | ((first | refine .inl (And.intro ?_ ?_) | refine And.intro ?_ ?_); focus ((repeat' apply And.intro) <;> first | rfl | omega | (unfold inR; omega) | (simp; done) | (unfold inR; simp at *; omega) | (simp at *; omega) | (intros; contradiction))) | fail)
  conv => whnf
  refine loop_use2 [(5, .d (.bool true)), (6, .d (.int .i64 n)), (7, .d (.int .i64 m))] (fun i : Nat => i ≤ m) (fun i => [(8, .os 0), (9, .d (.int .i64 i))]) (fun i => [.rows 2 ((List.replicate i (⟨20, (m : Int) + n⟩ : Op)).map encO)]) (fun i => m - i) 0 (Nat.zero_le _) ?_ ?_ ?_ (fun i hi => ?_)
  · exact ⟨wkb_of rfl, wkb_of rfl, wkb_of rfl, wkb_of (congrArg (fun x => V.d (.int .i64 x)) en), wkb_of (congrArg (fun x => V.d (.int .i64 x)) em), trivial⟩
  · exact ⟨wkB_of rfl, trivial⟩
  · exact (by kernel_rfl)
  have hl : ((List.replicate i (⟨20, (m : Int) + n⟩ : Op)).map encO).length = i := by simp
  repeat' ((conv => whnf); first | exact And.intro rfl rfl | refine And.intro (?_ : _ = Out.ret _) rfl | intro _ | refine And.intro rfl ?_ | refine apn_own ?_ | refine fro_nil ?_ | refine cfo_old ?_ | ((first | refine .inl (And.intro ?_ ?_) | refine And.intro ?_ ?_); focus ((repeat' apply And.intro) <;> first | rfl | omega | (unfold inR; omega) | (simp; done) | (unfold inR; simp at *; omega) | (simp at *; omega) | (intros; contradiction))) | fail)
  refine sp_intro (fun hb => ?_) (fun hb => ?_)
  · have hlt : i < m := by simpa using hb
    have hst := rep_succ i (⟨20, (m : Int) + n⟩ : Op) []
    rw [List.nil_append, List.nil_append] at hst
    repeat' ((conv => whnf); first | exact And.intro rfl rfl | refine And.intro (?_ : _ = Out.ret _) rfl | intro _ | refine And.intro rfl ?_ | refine (.inl ⟨by unfold inR; omega, ?_⟩) | refine (And.intro ⟨rfl, rfl, by rw [hl]; simp; omega, by rw [hl]; simp; omega⟩ ?_) | refine apn_own ?_ | refine fro_nil ?_ | refine cfo_old ?_ | ((first | refine .inl (And.intro ?_ ?_) | refine And.intro ?_ ?_); focus ((repeat' apply And.intro) <;> first | rfl | omega | (unfold inR; omega) | (simp; done) | (unfold inR; simp at *; omega) | (simp at *; omega) | (intros; contradiction))) | fail)
    refine ⟨i + 1, hlt, Nat.sub_lt_sub_left hlt (Nat.lt_succ_self i), (by repeat' (first | exact trivial | exact rfl | exact Or.inl rfl | refine And.intro ?_ ?_ | refine Or.inr ?_)), ⟨wkB_of (congrArg (B.rows 2) hst), trivial⟩, rfl⟩
  · have hge : i = m := by
      have : ¬ i < m := by simpa using hb
      omega
    subst hge
    repeat' ((conv => whnf); first | exact And.intro rfl rfl | refine And.intro (?_ : _ = Out.ret _) rfl | intro _ | refine And.intro rfl ?_ | refine apn_own ?_ | refine fro_nil ?_ | refine cfo_old ?_ | ((first | refine .inl (And.intro ?_ ?_) | refine And.intro ?_ ?_); focus ((repeat' apply And.intro) <;> first | rfl | omega | (unfold inR; omega) | (simp; done) | (unfold inR; simp at *; omega) | (simp at *; omega) | (intros; contradiction))) | fail)
    conv => whnf
    refine loop_use2 [(5, .d (.bool true)), (6, .d (.int .i64 n)), (7, .d (.int .i64 i))] (fun j : Nat => j ≤ n) (fun j => [(8, .os 0), (10, .d (.int .i64 j))]) (fun j => [.rows 2 ((List.replicate i (⟨20, (i : Int) + n⟩ : Op) ++ List.replicate j (⟨1, 0⟩ : Op)).map encO)]) (fun j => n - j) 0 (Nat.zero_le _) ?_ ?_ ?_ (fun j hj => ?_)
    · exact ⟨wkb_of rfl, wkb_of rfl, wkb_of rfl, wkb_of rfl, wkb_of rfl, trivial⟩
    · exact ⟨wkB_of (by simp), trivial⟩
    · exact (by kernel_rfl)
    have hl : ((List.replicate i (⟨20, (i : Int) + n⟩ : Op) ++ List.replicate j (⟨1, 0⟩ : Op)).map encO).length = i + j := by simp
    repeat' ((conv => whnf); first | exact And.intro rfl rfl | refine And.intro (?_ : _ = Out.ret _) rfl | intro _ | refine And.intro rfl ?_ | refine apn_own ?_ | refine fro_nil ?_ | refine cfo_old ?_ | ((first | refine .inl (And.intro ?_ ?_) | refine And.intro ?_ ?_); focus ((repeat' apply And.intro) <;> first | rfl | omega | (unfold inR; omega) | (simp; done) | (unfold inR; simp at *; omega) | (simp at *; omega) | (intros; contradiction))) | fail)
    refine sp_intro (fun hb => ?_) (fun hb => ?_)
    · have hlt : j < n := by simpa using hb
      have hst := rep_succ j (⟨1, 0⟩ : Op) (List.replicate i (⟨20, (i : Int) + n⟩ : Op))
      repeat' ((conv => whnf); first | exact And.intro rfl rfl | refine And.intro (?_ : _ = Out.ret _) rfl | intro _ | refine And.intro rfl ?_ | refine (.inl ⟨by unfold inR; omega, ?_⟩) | refine (And.intro ⟨rfl, rfl, by rw [hl]; simp; omega, by rw [hl]; simp; omega⟩ ?_) | refine apn_own ?_ | refine fro_nil ?_ | refine cfo_old ?_ | ((first | refine .inl (And.intro ?_ ?_) | refine And.intro ?_ ?_); focus ((repeat' apply And.intro) <;> first | rfl | omega | (unfold inR; omega) | (simp; done) | (unfold inR; simp at *; omega) | (simp at *; omega) | (intros; contradiction))) | fail)
      refine ⟨j + 1, hlt, Nat.sub_lt_sub_left hlt (Nat.lt_succ_self j), (by repeat' (first | exact trivial | exact rfl | exact Or.inl rfl | refine And.intro ?_ ?_ | refine Or.inr ?_)), ⟨wkB_of (congrArg (B.rows 2) hst), trivial⟩, rfl⟩
    · have hge : j = n := by
        have : ¬ j < n := by simpa using hb
        omega
      subst hge
      have he : agI (code1 0 (dCode j i)) = .ag [.d (.sl 5 [encV (num 0)]), .d (.sl 3 [[.int .i64 0, .int .i64 0, .sl 2 ((List.replicate i (⟨20, (i : Int) + j⟩ : Op) ++ List.replicate j (⟨1, 0⟩ : Op)).map encO ++ [encO ⟨1, 0⟩, encO ⟨18, 0⟩])]])] := by
        simp [agI, code1, dCode, encFn]
      rw [he] at hr
      obtain ⟨ra, rb, rc⟩ := r
      by_cases c1 : 16 < i
      · obtain ⟨e1, e2⟩ := g1 c1
        replace e1 : rc = 8 := e1
        replace e2 : rb < 16 := e2
        subst e1
        repeat' ((conv => whnf); first | exact And.intro rfl rfl | refine And.intro (?_ : _ = Out.ret _) rfl | intro _ | refine And.intro rfl ?_ | refine (And.intro ⟨rfl, rfl, by rw [hl]; simp; omega, by rw [hl]; simp; omega⟩ ?_) | refine ⟨_, hr, ?_⟩ | refine (hr).use ?_ | refine apn_own ?_ | refine fro_nil ?_ | refine cfo_old ?_ | ((first | refine .inl (And.intro ?_ ?_) | refine And.intro ?_ ?_); focus ((repeat' apply And.intro) <;> first | rfl | omega | (unfold inR; omega) | (simp; done) | (unfold inR; simp at *; omega) | (simp at *; omega) | (intros; contradiction))) | refine sp_t (by first | (simp; done) | (simp; omega) | (simp at *; omega) | (exact beq_eq_false_iff_ne.2 (by (try dsimp only); omega)) | (exact beq_iff_eq.2 (by (try dsimp only); omega))) ?_ | refine sp_f (by first | (simp; done) | (simp; omega) | (simp at *; omega) | (exact beq_eq_false_iff_ne.2 (by (try dsimp only); omega)) | (exact beq_iff_eq.2 (by (try dsimp only); omega))) ?_ | fail)
        exact outs_eq (congrArg (fun b => V.d (.bool b)) (decide_eq_true e2))
      · by_cases c2 : 0 < i
        · have e1 : rc = 8 := g2 c2
          subst e1
          repeat' ((conv => whnf); first | exact And.intro rfl rfl | refine And.intro (?_ : _ = Out.ret _) rfl | intro _ | refine And.intro rfl ?_ | refine (And.intro ⟨rfl, rfl, by rw [hl]; simp; omega, by rw [hl]; simp; omega⟩ ?_) | refine ⟨_, hr, ?_⟩ | refine (hr).use ?_ | refine apn_own ?_ | refine fro_nil ?_ | refine cfo_old ?_ | ((first | refine .inl (And.intro ?_ ?_) | refine And.intro ?_ ?_); focus ((repeat' apply And.intro) <;> first | rfl | omega | (unfold inR; omega) | (simp; done) | (unfold inR; simp at *; omega) | (simp at *; omega) | (intros; contradiction))) | refine sp_t (by first | (simp; done) | (simp; omega) | (simp at *; omega) | (exact beq_eq_false_iff_ne.2 (by (try dsimp only); omega)) | (exact beq_iff_eq.2 (by (try dsimp only); omega))) ?_ | refine sp_f (by first | (simp; done) | (simp; omega) | (simp at *; omega) | (exact beq_eq_false_iff_ne.2 (by (try dsimp only); omega)) | (exact beq_iff_eq.2 (by (try dsimp only); omega))) ?_ | fail)
        · have c0 : i = 0 := by omega
          by_cases c3 : 31 < j
          · obtain ⟨e1, e2⟩ := g3 c0 c3
            replace e1 : rc = 8 := e1
            replace e2 : rb = 32 := e2
            subst e1
            subst e2
            repeat' ((conv => whnf); first | exact And.intro rfl rfl | refine And.intro (?_ : _ = Out.ret _) rfl | intro _ | refine And.intro rfl ?_ | refine (And.intro ⟨rfl, rfl, by rw [hl]; simp; omega, by rw [hl]; simp; omega⟩ ?_) | refine ⟨_, hr, ?_⟩ | refine (hr).use ?_ | refine apn_own ?_ | refine fro_nil ?_ | refine cfo_old ?_ | ((first | refine .inl (And.intro ?_ ?_) | refine And.intro ?_ ?_); focus ((repeat' apply And.intro) <;> first | rfl | omega | (unfold inR; omega) | (simp; done) | (unfold inR; simp at *; omega) | (simp at *; omega) | (intros; contradiction))) | refine sp_t (by first | (simp; done) | (simp; omega) | (simp at *; omega) | (exact beq_eq_false_iff_ne.2 (by (try dsimp only); omega)) | (exact beq_iff_eq.2 (by (try dsimp only); omega))) ?_ | refine sp_f (by first | (simp; done) | (simp; omega) | (simp at *; omega) | (exact beq_eq_false_iff_ne.2 (by (try dsimp only); omega)) | (exact beq_iff_eq.2 (by (try dsimp only); omega))) ?_ | fail)
          · obtain ⟨e1, e2⟩ := g4 c0 (by omega)
            replace e1 : rc = 0 := e1
            replace e2 : rb = 0 := e2
            subst e1
            subst e2
            repeat' ((conv => whnf); first | exact And.intro rfl rfl | refine And.intro (?_ : _ = Out.ret _) rfl | intro _ | refine And.intro rfl ?_ | refine (And.intro ⟨rfl, rfl, by rw [hl]; simp; omega, by rw [hl]; simp; omega⟩ ?_) | refine ⟨_, hr, ?_⟩ | refine (hr).use ?_ | refine apn_own ?_ | refine fro_nil ?_ | refine cfo_old ?_ | ((first | refine .inl (And.intro ?_ ?_) | refine And.intro ?_ ?_); focus ((repeat' apply And.intro) <;> first | rfl | omega | (unfold inR; omega) | (simp; done) | (unfold inR; simp at *; omega) | (simp at *; omega) | (intros; contradiction))) | refine sp_t (by first | (simp; done) | (simp; omega) | (simp at *; omega) | (exact beq_eq_false_iff_ne.2 (by (try dsimp only); omega)) | (exact beq_iff_eq.2 (by (try dsimp only); omega))) ?_ | refine sp_f (by first | (simp; done) | (simp; omega) | (simp at *; omega) | (exact beq_eq_false_iff_ne.2 (by (try dsimp only); omega)) | (exact beq_iff_eq.2 (by (try dsimp only); omega))) ?_ | fail)
end Go.Proofs.YtoibcfioicdlhaaGreatDoor
