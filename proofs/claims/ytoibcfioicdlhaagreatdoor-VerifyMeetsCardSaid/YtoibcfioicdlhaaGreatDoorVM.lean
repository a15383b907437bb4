/- VerifyMeets in the picture: two ways that meet. Conditions: bytes are bytes. -/
import Derived.Test.YtoibcfioicdlhaaGreatDoorV7
namespace Go.Proofs.YtoibcfioicdlhaaGreatDoor
open Go.Vx

def mTail (tr : Bool) : List Op := bif tr then [⟨21, 0⟩, ⟨1, 0⟩, ⟨18, 0⟩] else [⟨47, 0⟩, ⟨4, 0⟩, ⟨1, 0⟩, ⟨18, 0⟩]
def mCode (n m : Nat) (tr : Bool) : List Op := [⟨1, 0⟩, ⟨16, (n : Int) + 3⟩] ++ List.replicate n ⟨1, 0⟩ ++ ⟨15, (n : Int) + 3 + m + bif tr then 1 else 2⟩ :: (List.replicate m ⟨1, 0⟩ ++ mTail tr)
def mWant (n m : Nat) (tr : Bool) : Int := bif tr then 11 else bif Nat.beq n m then 0 else 8
def mOk (n m : Nat) (tr : Bool) : Bool := okFn ⟨0, 0, mCode n m tr⟩ && (match checkV (code1 0 (mCode n m tr)) 99 [⟨0, 0, mCode n m tr⟩] 0 with
  | some r => r.2.2 == mWant n m tr
  | none => false)
theorem mOk_all : ((List.range 12).all fun n => (List.range 12).all fun m => mOk n m false && mOk n m true) = true := by kernel_rfl
theorem mOk_is {n m : Nat} (hn : n < 12) (hm : m < 12) (tr : Bool) : mOk n m tr = true := by
  have h := List.all_eq_true.1 (List.all_eq_true.1 mOk_all n (List.mem_range.2 hn)) m (List.mem_range.2 hm)
  rw [Bool.and_eq_true] at h
  cases tr with
  | false => exact h.1
  | true => exact h.2
theorem mCheck {n m : Nat} (hn : n < 12) (hm : m < 12) (tr : Bool) : ∃ a b : Int, SatP Tryz.prog 17 [agI (code1 0 (mCode n m tr))] (agR3 (a, b, mWant n m tr)) := by
  have h := mOk_is hn hm tr
  unfold mOk at h
  rw [Bool.and_eq_true] at h
  obtain ⟨h1, h2⟩ := h
  cases hc : checkV (code1 0 (mCode n m tr)) 99 [⟨0, 0, mCode n m tr⟩] 0 with
  | none => rw [hc] at h2; cases h2
  | some r =>
    rw [hc] at h2
    obtain ⟨a, b, c⟩ := r
    refine ⟨a, b, ?_⟩
    obtain rfl : c = mWant n m tr := by simpa using h2
    exact check17 _ (okIm1 h1) 99 _ hc

def mA (n m : Nat) : List Op := ⟨1, 0⟩ :: ⟨16, (n : Int) + 3⟩ :: (List.replicate n ⟨1, 0⟩ ++ [⟨15, 4 + (n : Int) + m⟩])
def mB (n : Nat) : List Op := ⟨1, 0⟩ :: ⟨16, (n : Int) + 3⟩ :: List.replicate n ⟨1, 0⟩
theorem mHead {n m : Nat} {X : List (List D)} (h : X = (([⟨1, 0⟩, ⟨16, 3 + (n : Int)⟩] : List Op) ++ List.replicate n (⟨1, 0⟩ : Op)).map encO ++ [encO ⟨15, 4 + (n : Int) + m⟩]) : X.length = n + 3 ∧ X.set 1 (encO ⟨16, (X.length : Int)⟩) = (mA n m).map encO := by
  have hl : X.length = n + 3 := by rw [h]; simp
  refine ⟨hl, ?_⟩
  rw [hl, h]
  simp [mA]
theorem mLen (n m : Nat) : (mA n m).length = n + 3 := by simp [mA]
theorem mSplit {n m : Nat} (r : List (List D)) : (mA n m).map encO ++ r = (mB n).map encO ++ (encO ⟨15, 4 + (n : Int) + m⟩ :: r) := by simp [mA, mB]
theorem mSet {n m : Nat} {k : Int} (r : List (List D)) : ((mA n m).map encO ++ r).set (n + 2) (encO ⟨15, k⟩) = (mB n).map encO ++ (encO ⟨15, k⟩ :: r) := by
  rw [mSplit, List.set_append_right _ _ (by simp [mB])]
  simp [mB]
theorem mGet {n m : Nat} (r : List (List D)) : ((mA n m).map encO ++ r)[n + 2]? = some (encO ⟨15, 4 + (n : Int) + m⟩) := by
  rw [mSplit, List.getElem?_append_right (by simp [mB])]
  simp [mB]
/-- Behind the second loop: where one tries. -/
theorem mTry {n m : Nat} {Y : List (List D)} (h : Y = (mA n m ++ List.replicate m (⟨1, 0⟩ : Op)).map encO ++ [encO ⟨20, 0⟩]) :
    Y.length = n + m + 4 ∧ Y[((Y.length : Int) - 1).toNat]? = some (encO ⟨20, 0⟩) ∧ Y.set ((Y.length : Int) - 1).toNat (encO ⟨21, 0⟩) = (mA n m).map encO ++ (List.replicate m (⟨1, 0⟩ : Op) ++ [(⟨21, 0⟩ : Op)]).map encO := by
  have hl : Y.length = n + m + 4 := by rw [h]; simp [mLen]; omega
  have hi : ((Y.length : Int) - 1).toNat = n + m + 3 := by rw [hl]; omega
  have hx : ((mA n m ++ List.replicate m (⟨1, 0⟩ : Op)).map encO).length = n + m + 3 := by simp [mLen]; omega
  refine ⟨hl, ?_, ?_⟩
  · rw [hi, h, List.getElem?_append_right (by omega), hx]
    simp
  · rw [hi, h, List.set_append_right _ _ (by omega), hx]
    simp
theorem mPut {n m : Nat} {r : List Op} {Z : List (List D)} (h : Z = (mA n m).map encO ++ r.map encO) : Z.length = n + 3 + r.length ∧ Z[(2 + (n : Int)).toNat]? = some (encO ⟨15, 4 + (n : Int) + m⟩) ∧ Z.set (2 + (n : Int)).toNat (encO ⟨15, (Z.length : Int)⟩) = (mB n ++ ⟨15, (Z.length : Int)⟩ :: r).map encO := by
  have hi : (2 + (n : Int)).toNat = n + 2 := by omega
  refine ⟨by rw [h]; simp [mLen], ?_, ?_⟩
  · rw [hi, h, mGet]
  · generalize (Z.length : Int) = k
    rw [hi, h, mSet]
    simp
theorem mCode_is {n m : Nat} {tr : Bool} {r : List Op} {k : Int} (hr : List.replicate m ⟨1, 0⟩ ++ mTail tr = r ++ [⟨1, 0⟩, ⟨18, 0⟩]) (hk : k = (n : Int) + 3 + m + bif tr then 1 else 2) : mCode n m tr = mB n ++ ⟨15, k⟩ :: r ++ [⟨1, 0⟩, ⟨18, 0⟩] := by
  subst hk
  unfold mCode mB
  rw [hr]
  simp
theorem mEnd {n m : Nat} {tr : Bool} {r : List Op} {Z : List (List D)} (hs : Z.set (2 + (n : Int)).toNat (encO ⟨15, (Z.length : Int)⟩) = (mB n ++ ⟨15, (Z.length : Int)⟩ :: r).map encO) (hr : List.replicate m ⟨1, 0⟩ ++ mTail tr = r ++ [⟨1, 0⟩, ⟨18, 0⟩])
    (hk : (Z.length : Int) = (n : Int) + 3 + m + bif tr then 1 else 2) : agI (code1 0 (mCode n m tr)) = .ag [.d (.sl 5 [encV (num 0)]), .d (.sl 3 [[.int .i64 0, .int .i64 0, .sl 2 (Z.set (2 + (n : Int)).toNat (encO ⟨15, (Z.length : Int)⟩) ++ [encO ⟨1, 0⟩, encO ⟨18, 0⟩])]])] := by
  rw [hs, mCode_is hr hk]
  simp [agI, code1, encFn]

set_option maxRecDepth 100000 in
set_option maxHeartbeats 4000000 in
theorem meets8 (p q : Int) (tr : Bool) (hp : 0 ≤ p ∧ p ≤ 255) (hq : 0 ≤ q ∧ q ≤ 255) : SatP Tryz.prog 8 [.d (.int .u8 p), .d (.int .u8 q), .d (.bool tr)] (.d (.bool true)) := by
  obtain ⟨n, en, hn⟩ := modN hp 12 (by decide)
  obtain ⟨m, em, hm⟩ := modN hq 12 (by decide)
  obtain ⟨ra, rb, hr⟩ := mCheck hn hm tr
  replace en : p.tmod 12 = (n : Int) := en
  replace em : q.tmod 12 = (m : Int) := em
  refine s8 (keep := false) rfl ?_
  repeat' ((conv => whnf); first | exact And.intro rfl rfl | refine And.intro (?_ : _ = Out.ret _) rfl | intro _ | refine And.intro rfl ?_ | refine (bsn_own ?_) | refine ⟨_, examples15, ?_⟩ | refine (examples15).use ?_ | refine (And.intro (by decide) ?_) | refine (.inl ⟨by rw [en]; unfold inR; omega, ?_⟩) | refine (.inl ⟨by rw [em]; unfold inR; omega, ?_⟩) | refine apn_own ?_ | refine bsn_data ?_ | refine fro_nil ?_ | refine cfo_old ?_ | ((first | refine .inl (And.intro ?_ ?_) | refine And.intro ?_ ?_); focus ((repeat' apply And.intro) <;> first | rfl | omega | (unfold inR; omega) | (simp; done) | (unfold inR; simp at *; omega) | (simp at *; omega) | (intros; contradiction))) | fail)
  conv => whnf
  rw [en, em]
  refine loop_use2 [(2, .d (.bool tr)), (7, .d (.bool true)), (8, .d (.int .i64 n)), (9, .d (.int .i64 m))] (fun i : Nat => i ≤ n) (fun i => [(10, .os 0), (11, .d (.int .i64 i))]) (fun i => [.rows 2 ((([⟨1, 0⟩, ⟨16, 3 + (n : Int)⟩] : List Op) ++ List.replicate i (⟨1, 0⟩ : Op)).map encO)]) (fun i => n - i) 0 (Nat.zero_le _) ?_ ?_ ?_ (fun i hi => ?_)
  · exact ⟨wkb_of rfl, wkb_of rfl, wkb_of rfl, wkb_of rfl, wkb_of rfl, wkb_of rfl, trivial⟩
  · exact ⟨wkB_of rfl, trivial⟩
  · exact (by kernel_rfl)
  have hl : ((([⟨1, 0⟩, ⟨16, 3 + (n : Int)⟩] : List Op) ++ List.replicate i (⟨1, 0⟩ : Op)).map encO).length = 2 + i := by simp; omega
  repeat' ((conv => whnf); first | exact And.intro rfl rfl | refine And.intro (?_ : _ = Out.ret _) rfl | intro _ | refine And.intro rfl ?_ | refine apn_own ?_ | refine bsn_data ?_ | refine fro_nil ?_ | refine cfo_old ?_ | ((first | refine .inl (And.intro ?_ ?_) | refine And.intro ?_ ?_); focus ((repeat' apply And.intro) <;> first | rfl | omega | (unfold inR; omega) | (simp; done) | (unfold inR; simp at *; omega) | (simp at *; omega) | (intros; contradiction))) | fail)
  refine sp_intro (fun hb => ?_) (fun hb => ?_)
  · have hlt : i < n := by simpa using hb
    have hst := rep_succ i (⟨1, 0⟩ : Op) ([⟨1, 0⟩, ⟨16, 3 + (n : Int)⟩] : List Op)
    repeat' ((conv => whnf); first | exact And.intro rfl rfl | refine And.intro (?_ : _ = Out.ret _) rfl | intro _ | refine And.intro rfl ?_ | refine (.inl ⟨by unfold inR; omega, ?_⟩) | refine (And.intro ⟨rfl, rfl, by rw [hl]; simp; omega, by rw [hl]; simp; omega⟩ ?_) | refine apn_own ?_ | refine bsn_data ?_ | refine fro_nil ?_ | refine cfo_old ?_ | ((first | refine .inl (And.intro ?_ ?_) | refine And.intro ?_ ?_); focus ((repeat' apply And.intro) <;> first | rfl | omega | (unfold inR; omega) | (simp; done) | (unfold inR; simp at *; omega) | (simp at *; omega) | (intros; contradiction))) | fail)
    refine ⟨i + 1, hlt, Nat.sub_lt_sub_left hlt (Nat.lt_succ_self i), (by repeat' (first | exact trivial | exact rfl | exact Or.inl rfl | refine And.intro ?_ ?_ | refine Or.inr ?_)), ⟨wkB_of (congrArg (B.rows 2) hst), trivial⟩, rfl⟩
  · have hge : i = n := by
      have : ¬ i < n := by simpa using hb
      omega
    subst hge
    obtain ⟨hl1, hs1⟩ := mHead (n := i) (m := m) rfl
    repeat' ((conv => whnf); first | exact And.intro rfl rfl | refine And.intro (?_ : _ = Out.ret _) rfl | intro _ | refine And.intro rfl ?_ | refine (.inl ⟨by unfold inR; omega, ?_⟩) | refine (And.intro ⟨rfl, rfl, by rw [hl]; simp; omega, by rw [hl]; simp; omega⟩ ?_) | refine (And.intro ⟨by decide, by rw [hl1]; omega, rfl⟩ ?_) | refine ⟨_, rfl, ⟨rfl, rfl, rfl⟩, ?_⟩ | refine apn_own ?_ | refine bsn_data ?_ | refine fro_nil ?_ | refine cfo_old ?_ | ((first | refine .inl (And.intro ?_ ?_) | refine And.intro ?_ ?_); focus ((repeat' apply And.intro) <;> first | rfl | omega | (unfold inR; omega) | (simp; done) | (unfold inR; simp at *; omega) | (simp at *; omega) | (intros; contradiction))) | fail)
    conv => whnf
    refine loop_use2 [(2, .d (.bool tr)), (7, .d (.bool true)), (8, .d (.int .i64 i)), (9, .d (.int .i64 m))] (fun j : Nat => j ≤ m) (fun j => [(10, .os 0), (12, .d (.int .i64 j))]) (fun j => [.rows 2 ((mA i m ++ List.replicate j (⟨1, 0⟩ : Op)).map encO)]) (fun j => m - j) 0 (Nat.zero_le _) ?_ ?_ ?_ (fun j hj => ?_)
    · exact ⟨wkb_of rfl, wkb_of rfl, wkb_of rfl, wkb_of rfl, wkb_of rfl, wkb_of rfl, trivial⟩
    · exact ⟨wkB_of (congrArg (B.rows 2) (hs1.trans (by simp))), trivial⟩
    · exact (by kernel_rfl)
    have hl2 : ((mA i m ++ List.replicate j (⟨1, 0⟩ : Op)).map encO).length = i + 3 + j := by simp [mLen]
    repeat' ((conv => whnf); first | exact And.intro rfl rfl | refine And.intro (?_ : _ = Out.ret _) rfl | intro _ | refine And.intro rfl ?_ | refine apn_own ?_ | refine bsn_data ?_ | refine fro_nil ?_ | refine cfo_old ?_ | ((first | refine .inl (And.intro ?_ ?_) | refine And.intro ?_ ?_); focus ((repeat' apply And.intro) <;> first | rfl | omega | (unfold inR; omega) | (simp; done) | (unfold inR; simp at *; omega) | (simp at *; omega) | (intros; contradiction))) | fail)
    refine sp_intro (fun hb => ?_) (fun hb => ?_)
    · have hlt : j < m := by simpa using hb
      have hst := rep_succ j (⟨1, 0⟩ : Op) (mA i m)
      repeat' ((conv => whnf); first | exact And.intro rfl rfl | refine And.intro (?_ : _ = Out.ret _) rfl | intro _ | refine And.intro rfl ?_ | refine (.inl ⟨by unfold inR; omega, ?_⟩) | refine (And.intro ⟨rfl, rfl, by rw [hl2]; simp; omega, by rw [hl2]; simp; omega⟩ ?_) | refine apn_own ?_ | refine bsn_data ?_ | refine fro_nil ?_ | refine cfo_old ?_ | ((first | refine .inl (And.intro ?_ ?_) | refine And.intro ?_ ?_); focus ((repeat' apply And.intro) <;> first | rfl | omega | (unfold inR; omega) | (simp; done) | (unfold inR; simp at *; omega) | (simp at *; omega) | (intros; contradiction))) | fail)
      refine ⟨j + 1, hlt, Nat.sub_lt_sub_left hlt (Nat.lt_succ_self j), (by repeat' (first | exact trivial | exact rfl | exact Or.inl rfl | refine And.intro ?_ ?_ | refine Or.inr ?_)), ⟨wkB_of (congrArg (B.rows 2) hst), trivial⟩, rfl⟩
    · have hge : j = m := by
        have : ¬ j < m := by simpa using hb
        omega
      subst hge
      cases tr with
      | true =>
        obtain ⟨hl3, hg3, hs3⟩ := mTry (n := i) (m := j) rfl
        repeat' ((conv => whnf); first | exact And.intro rfl rfl | refine And.intro (?_ : _ = Out.ret _) rfl | intro _ | refine And.intro rfl ?_ | refine (.inl ⟨by rw [hl3]; unfold inR; omega, ?_⟩) | refine (And.intro ⟨rfl, rfl, by rw [hl2]; simp; omega, by rw [hl2]; simp; omega⟩ ?_) | refine (And.intro ⟨by rw [hl3]; omega, by omega, rfl⟩ ?_) | refine ⟨_, hg3, ⟨rfl, rfl, rfl⟩, ?_⟩ | refine apn_own ?_ | refine bsn_data ?_ | refine fro_nil ?_ | refine cfo_old ?_ | ((first | refine .inl (And.intro ?_ ?_) | refine And.intro ?_ ?_); focus ((repeat' apply And.intro) <;> first | rfl | omega | (unfold inR; omega) | (simp; done) | (unfold inR; simp at *; omega) | (simp at *; omega) | (intros; contradiction))) | fail)
        obtain ⟨hl4, hg4, hs4⟩ := mPut hs3
        rw [mEnd hs4 (tr := true) (by simp [mTail]) (by rw [hl4]; simp; omega)] at hr
        repeat' ((conv => whnf); first | exact And.intro rfl rfl | refine And.intro (?_ : _ = Out.ret _) rfl | intro _ | refine And.intro rfl ?_ | refine (And.intro ⟨by omega, by rw [hl4]; simp; omega, rfl⟩ ?_) | refine ⟨_, hg4, ⟨rfl, rfl, rfl⟩, ?_⟩ | refine (And.intro ⟨rfl, rfl, by rw [List.length_set, hl4]; simp; omega, by rw [List.length_set, hl4]; simp; omega⟩ ?_) | refine ⟨_, hr, ?_⟩ | refine (hr).use ?_ | refine apn_own ?_ | refine bsn_data ?_ | refine fro_nil ?_ | refine cfo_old ?_ | ((first | refine .inl (And.intro ?_ ?_) | refine And.intro ?_ ?_); focus ((repeat' apply And.intro) <;> first | rfl | omega | (unfold inR; omega) | (simp; done) | (unfold inR; simp at *; omega) | (simp at *; omega) | (intros; contradiction))) | refine sp_t (by first | (simp; done) | (simp; omega) | (simp at *; omega) | (exact beq_eq_false_iff_ne.2 (by (try dsimp only); omega)) | (exact beq_iff_eq.2 (by (try dsimp only); omega))) ?_ | refine sp_f (by first | (simp; done) | (simp; omega) | (simp at *; omega) | (exact beq_eq_false_iff_ne.2 (by (try dsimp only); omega)) | (exact beq_iff_eq.2 (by (try dsimp only); omega))) ?_ | fail)
      | false =>
        have hl3 : ((mA i j ++ List.replicate j (⟨1, 0⟩ : Op)).map encO ++ [encO ⟨47, 0⟩]).length = i + 4 + j := by rw [List.length_append, hl2]; simp; omega
        obtain ⟨hl4, hg4, hs4⟩ := mPut (n := i) (m := j) (r := List.replicate j (⟨1, 0⟩ : Op) ++ [(⟨47, 0⟩ : Op), ⟨4, 0⟩]) (Z := (mA i j ++ List.replicate j (⟨1, 0⟩ : Op)).map encO ++ [encO ⟨47, 0⟩] ++ [encO ⟨4, 0⟩]) (by simp)
        rw [mEnd hs4 (tr := false) (by simp [mTail]) (by rw [hl4]; simp; omega)] at hr
        have hw : mWant i j false = if i = j then 0 else 8 := by
          unfold mWant
          cases hb : Nat.beq i j with
          | true => rw [if_pos (Nat.eq_of_beq_eq_true hb)]; rfl
          | false => rw [if_neg (Nat.ne_of_beq_eq_false hb)]; rfl
        rw [hw] at hr
        by_cases hij : i = j
        · rw [if_pos hij] at hr
          repeat' ((conv => whnf); first | exact And.intro rfl rfl | refine And.intro (?_ : _ = Out.ret _) rfl | intro _ | refine And.intro rfl ?_ | refine (And.intro ⟨rfl, rfl, by rw [hl2]; simp; omega, by rw [hl2]; simp; omega⟩ ?_) | refine (And.intro ⟨rfl, rfl, by rw [hl3]; simp; omega, by rw [hl3]; simp; omega⟩ ?_) | refine (And.intro ⟨by omega, by rw [hl4]; simp; omega, rfl⟩ ?_) | refine ⟨_, hg4, ⟨rfl, rfl, rfl⟩, ?_⟩ | refine (And.intro ⟨rfl, rfl, by rw [List.length_set, hl4]; simp; omega, by rw [List.length_set, hl4]; simp; omega⟩ ?_) | refine ⟨_, hr, ?_⟩ | refine (hr).use ?_ | refine apn_own ?_ | refine bsn_data ?_ | refine fro_nil ?_ | refine cfo_old ?_ | ((first | refine .inl (And.intro ?_ ?_) | refine And.intro ?_ ?_); focus ((repeat' apply And.intro) <;> first | rfl | omega | (unfold inR; omega) | (simp; done) | (unfold inR; simp at *; omega) | (simp at *; omega) | (intros; contradiction))) | refine sp_t (by first | (simp; done) | (simp; omega) | (simp at *; omega) | (exact beq_eq_false_iff_ne.2 (by (try dsimp only); omega)) | (exact beq_iff_eq.2 (by (try dsimp only); omega))) ?_ | refine sp_f (by first | (simp; done) | (simp; omega) | (simp at *; omega) | (exact beq_eq_false_iff_ne.2 (by (try dsimp only); omega)) | (exact beq_iff_eq.2 (by (try dsimp only); omega))) ?_ | fail)
        · rw [if_neg hij] at hr
          repeat' ((conv => whnf); first | exact And.intro rfl rfl | refine And.intro (?_ : _ = Out.ret _) rfl | intro _ | refine And.intro rfl ?_ | refine (And.intro ⟨rfl, rfl, by rw [hl2]; simp; omega, by rw [hl2]; simp; omega⟩ ?_) | refine (And.intro ⟨rfl, rfl, by rw [hl3]; simp; omega, by rw [hl3]; simp; omega⟩ ?_) | refine (And.intro ⟨by omega, by rw [hl4]; simp; omega, rfl⟩ ?_) | refine ⟨_, hg4, ⟨rfl, rfl, rfl⟩, ?_⟩ | refine (And.intro ⟨rfl, rfl, by rw [List.length_set, hl4]; simp; omega, by rw [List.length_set, hl4]; simp; omega⟩ ?_) | refine ⟨_, hr, ?_⟩ | refine (hr).use ?_ | refine apn_own ?_ | refine bsn_data ?_ | refine fro_nil ?_ | refine cfo_old ?_ | ((first | refine .inl (And.intro ?_ ?_) | refine And.intro ?_ ?_); focus ((repeat' apply And.intro) <;> first | rfl | omega | (unfold inR; omega) | (simp; done) | (unfold inR; simp at *; omega) | (simp at *; omega) | (intros; contradiction))) | refine sp_t (by first | (simp; done) | (simp; omega) | (simp at *; omega) | (exact beq_eq_false_iff_ne.2 (by (try dsimp only); omega)) | (exact beq_iff_eq.2 (by (try dsimp only); omega))) ?_ | refine sp_f (by first | (simp; done) | (simp; omega) | (simp at *; omega) | (exact beq_eq_false_iff_ne.2 (by (try dsimp only); omega)) | (exact beq_iff_eq.2 (by (try dsimp only); omega))) ?_ | fail)
end Go.Proofs.YtoibcfioicdlhaaGreatDoor
