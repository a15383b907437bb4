/- VerifyWrong in the picture: an operand that points nowhere. Conditions: numbers are in range. -/
import Derived.Test.YtoibcfioicdlhaaGreatDoorV7
namespace Go.Proofs.YtoibcfioicdlhaaGreatDoor
open Go.Vx

def wFn (c a : Int) (d : Bool) : Fn := ⟨2, 1, [⟨1, 0⟩, ⟨bif d then 18 else 5, 0⟩, ⟨c, a⟩, ⟨1, 0⟩, ⟨1, 0⟩, ⟨18, 0⟩]⟩
def wFn2 : Fn := ⟨1, 0, [⟨1, 0⟩, ⟨18, 0⟩]⟩
def wIm (c a : Int) (d : Bool) : Im := ⟨[num 0], [wFn c a d, wFn2]⟩
def wTest (c a : Int) (d : Bool) : Bool := (okFn (wFn c a d) && okFn wFn2) && match checkV (wIm c a d) 99 (wIm c a d).fs 0 with
  | some r => !d || (r.1 == 0 && (r.2.1 == 0 && r.2.2 == 0))
  | none => false
theorem okIm2 {f g : Fn} (h : okFn f = true) (h' : okFn g = true) : OkIm ⟨[num 0], [f, g]⟩ :=
  ⟨by simp, fun v hv => by
    obtain rfl : v = num 0 := by simpa using hv
    exact ⟨.inl rfl, right78I 0⟩, by simp, by simp, fun k hk => by
    obtain rfl | rfl : k = f ∨ k = g := by simpa using hk
    · exact h
    · exact h'⟩
theorem wOk {c a : Int} {d : Bool} (h : wTest c a d = true) : ∃ x y z : Int, SatP Tryz.prog 17 [agI (wIm c a d)] (agR3 (x, y, z)) ∧ (d = true → x = 0 ∧ y = 0 ∧ z = 0) := by
  unfold wTest at h
  rw [Bool.and_eq_true, Bool.and_eq_true] at h
  obtain ⟨⟨h1, h2⟩, h3⟩ := h
  cases hc : checkV (wIm c a d) 99 (wIm c a d).fs 0 with
  | none => rw [hc] at h3; cases h3
  | some r =>
    rw [hc] at h3
    obtain ⟨x, y, z⟩ := r
    exact ⟨x, y, z, check17 _ (okIm2 h1 h2) 99 _ hc, fun hd => by subst hd; simpa using h3⟩
theorem ops3 {im : Im} {fn : Fn} {o1 o2 o3 : Op} {r : List Op} {e : Int} (e1 : opErr im fn o1 = none) (e2 : opErr im fn o2 = none) (e3 : opErr im fn o3 = some e) : opsErr im fn (o1 :: o2 :: o3 :: r) 0 = some (2, e) := by
  simp [opsErr, e1, e2, e3]
theorem wBad {c a e : Int} {d : Bool} (h : rightB ⟨c, a⟩ = true) (he : e ≠ 0) (h3 : opErr (wIm c a d) (wFn c a d) ⟨c, a⟩ = some e) : SatP Tryz.prog 17 [agI (wIm c a d)] (agR3 (0, 2, e)) := by
  have h1 : okFn (wFn c a d) = true := by
    have h5 : rightB ⟨bif d then 18 else 5, 0⟩ = true := by cases d <;> kernel_rfl
    have h6 : rightB ⟨1, 0⟩ = true := by kernel_rfl
    have h7 : rightB ⟨18, 0⟩ = true := by kernel_rfl
    simp [okFn, wFn, h, h5, h6, h7]
  refine check17 _ (okIm2 h1 (by kernel_rfl)) 99 _ ?_
  have e1 : opErr (wIm c a d) (wFn c a d) ⟨1, 0⟩ = none := by kernel_rfl
  have e2 : opErr (wIm c a d) (wFn c a d) ⟨bif d then 18 else 5, 0⟩ = none := by cases d <;> kernel_rfl
  have ht : traceV (wIm c a d) (wFn c a d) 99 = some (.error (2, e)) := by
    unfold traceV
    rw [show opsErr (wIm c a d) (wFn c a d) (wFn c a d).code 0 = some (2, e) from ops3 e1 e2 h3]
  have hb : (e != 0) = true := by simpa using he
  show checkV (wIm c a d) 99 (wFn c a d :: [wFn2]) 0 = _
  simp only [checkV, ht, hb, cond_true]

theorem wAll0 : (([0]).all fun a : Int => wTest 1 a false && wTest 1 a true) = true := by kernel_rfl
theorem wIn0 {a : Int} (h : 0 ≤ a) (hk : a < 1) (d : Bool) : wTest 1 a d = true := by
  have hm : a ∈ ([0] : List Int) := by simp; omega
  have h := List.all_eq_true.1 wAll0 a hm
  rw [Bool.and_eq_true] at h
  cases d with
  | false => exact h.1
  | true => exact h.2
theorem wErr0 {a : Int} (h : 0 ≤ a ∧ a ≤ 65535) (hk : ¬ a < 1) (d : Bool) : SatP Tryz.prog 17 [agI (wIm 1 a d)] (agR3 (0, 2, 5)) := by
  refine wBad ?_ (by decide) ?_
  · rw [show rightB ⟨1, a⟩ = (decide (0 ≤ a) && decide (a ≤ 65535)) by kernel_rfl]
    simp [h.1, h.2]
  · rw [show opErr (wIm 1 a d) (wFn 1 a d) ⟨1, a⟩ = bif decide (a < 1) then none else some 5 by kernel_rfl, decide_eq_false hk]
    rfl
theorem wAll1 : (([0, 1, 2]).all fun a : Int => wTest 2 a false && wTest 2 a true) = true := by kernel_rfl
theorem wIn1 {a : Int} (h : 0 ≤ a) (hk : a < 3) (d : Bool) : wTest 2 a d = true := by
  have hm : a ∈ ([0, 1, 2] : List Int) := by simp; omega
  have h := List.all_eq_true.1 wAll1 a hm
  rw [Bool.and_eq_true] at h
  cases d with
  | false => exact h.1
  | true => exact h.2
theorem wErr1 {a : Int} (h : 0 ≤ a ∧ a ≤ 65535) (hk : ¬ a < 3) (d : Bool) : SatP Tryz.prog 17 [agI (wIm 2 a d)] (agR3 (0, 2, 1)) := by
  refine wBad ?_ (by decide) ?_
  · rw [show rightB ⟨2, a⟩ = (decide (0 ≤ a) && decide (a ≤ 65535)) by kernel_rfl]
    simp [h.1, h.2]
  · rw [show opErr (wIm 2 a d) (wFn 2 a d) ⟨2, a⟩ = bif decide (a < 3) then none else some 1 by kernel_rfl, decide_eq_false hk]
    rfl
theorem wAll2 : (([0, 1, 2]).all fun a : Int => wTest 3 a false && wTest 3 a true) = true := by kernel_rfl
theorem wIn2 {a : Int} (h : 0 ≤ a) (hk : a < 3) (d : Bool) : wTest 3 a d = true := by
  have hm : a ∈ ([0, 1, 2] : List Int) := by simp; omega
  have h := List.all_eq_true.1 wAll2 a hm
  rw [Bool.and_eq_true] at h
  cases d with
  | false => exact h.1
  | true => exact h.2
theorem wErr2 {a : Int} (h : 0 ≤ a ∧ a ≤ 65535) (hk : ¬ a < 3) (d : Bool) : SatP Tryz.prog 17 [agI (wIm 3 a d)] (agR3 (0, 2, 1)) := by
  refine wBad ?_ (by decide) ?_
  · rw [show rightB ⟨3, a⟩ = (decide (0 ≤ a) && decide (a ≤ 65535)) by kernel_rfl]
    simp [h.1, h.2]
  · rw [show opErr (wIm 3 a d) (wFn 3 a d) ⟨3, a⟩ = bif decide (a < 3) then none else some 1 by kernel_rfl, decide_eq_false hk]
    rfl
theorem wAll3 : (([0, 1, 2, 3, 4, 5]).all fun a : Int => wTest 15 a false && wTest 15 a true) = true := by kernel_rfl
theorem wIn3 {a : Int} (h : 0 ≤ a) (hk : a < 6) (d : Bool) : wTest 15 a d = true := by
  have hm : a ∈ ([0, 1, 2, 3, 4, 5] : List Int) := by simp; omega
  have h := List.all_eq_true.1 wAll3 a hm
  rw [Bool.and_eq_true] at h
  cases d with
  | false => exact h.1
  | true => exact h.2
theorem wErr3 {a : Int} (h : 0 ≤ a ∧ a ≤ 65535) (hk : ¬ a < 6) (d : Bool) : SatP Tryz.prog 17 [agI (wIm 15 a d)] (agR3 (0, 2, 7)) := by
  refine wBad ?_ (by decide) ?_
  · rw [show rightB ⟨15, a⟩ = (decide (0 ≤ a) && decide (a ≤ 65535)) by kernel_rfl]
    simp [h.1, h.2]
  · rw [show opErr (wIm 15 a d) (wFn 15 a d) ⟨15, a⟩ = bif decide (a < 6) then none else some 7 by kernel_rfl, decide_eq_false hk]
    rfl
theorem wAll4 : (([0, 1, 2, 3, 4, 5]).all fun a : Int => wTest 20 a false && wTest 20 a true) = true := by kernel_rfl
theorem wIn4 {a : Int} (h : 0 ≤ a) (hk : a < 6) (d : Bool) : wTest 20 a d = true := by
  have hm : a ∈ ([0, 1, 2, 3, 4, 5] : List Int) := by simp; omega
  have h := List.all_eq_true.1 wAll4 a hm
  rw [Bool.and_eq_true] at h
  cases d with
  | false => exact h.1
  | true => exact h.2
theorem wErr4 {a : Int} (h : 0 ≤ a ∧ a ≤ 65535) (hk : ¬ a < 6) (d : Bool) : SatP Tryz.prog 17 [agI (wIm 20 a d)] (agR3 (0, 2, 7)) := by
  refine wBad ?_ (by decide) ?_
  · rw [show rightB ⟨20, a⟩ = (decide (0 ≤ a) && decide (a ≤ 65535)) by kernel_rfl]
    simp [h.1, h.2]
  · rw [show opErr (wIm 20 a d) (wFn 20 a d) ⟨20, a⟩ = bif decide (a < 6) then none else some 7 by kernel_rfl, decide_eq_false hk]
    rfl
theorem wAll5 : (([1]).all fun a : Int => wTest 38 a false && wTest 38 a true) = true := by kernel_rfl
theorem wIn5 {a : Int} (_h : 0 ≤ a) (hk : a = 1) (d : Bool) : wTest 38 a d = true := by
  have hm : a ∈ ([1] : List Int) := by simp; omega
  have h := List.all_eq_true.1 wAll5 a hm
  rw [Bool.and_eq_true] at h
  cases d with
  | false => exact h.1
  | true => exact h.2
theorem wErr5 {a : Int} (h : 0 ≤ a ∧ a ≤ 65535) (hk : ¬ a = 1) (d : Bool) : SatP Tryz.prog 17 [agI (wIm 38 a d)] (agR3 (0, 2, 6)) := by
  refine wBad ?_ (by decide) ?_
  · rw [show rightB ⟨38, a⟩ = (decide (0 ≤ a) && decide (a ≤ 65535)) by kernel_rfl]
    simp [h.1, h.2]
  · by_cases h2 : a < 2
    · obtain rfl : a = 0 := by omega
      cases d <;> kernel_rfl
    · rw [show opErr (wIm 38 a d) (wFn 38 a d) ⟨38, a⟩ = opErrA (wIm 38 a d) (wFn 38 a d) ⟨38, a⟩ 4 by kernel_rfl]
      simp [opErrA, wIm, h2]
theorem wAll6 : (([1]).all fun a : Int => wTest 45 a false && wTest 45 a true) = true := by kernel_rfl
theorem wIn6 {a : Int} (_h : 0 ≤ a) (hk : a = 1) (d : Bool) : wTest 45 a d = true := by
  have hm : a ∈ ([1] : List Int) := by simp; omega
  have h := List.all_eq_true.1 wAll6 a hm
  rw [Bool.and_eq_true] at h
  cases d with
  | false => exact h.1
  | true => exact h.2
theorem wErr6 {a : Int} (h : 0 ≤ a ∧ a ≤ 65535) (hk : ¬ a = 1) (d : Bool) : SatP Tryz.prog 17 [agI (wIm 45 a d)] (agR3 (0, 2, 6)) := by
  refine wBad ?_ (by decide) ?_
  · rw [show rightB ⟨45, a⟩ = (decide (0 ≤ a) && decide (a ≤ 65535)) by kernel_rfl]
    simp [h.1, h.2]
  · by_cases h2 : a < 2
    · obtain rfl : a = 0 := by omega
      cases d <;> kernel_rfl
    · rw [show opErr (wIm 45 a d) (wFn 45 a d) ⟨45, a⟩ = opErrA (wIm 45 a d) (wFn 45 a d) ⟨45, a⟩ 4 by kernel_rfl]
      simp [opErrA, wIm, h2]
theorem wAll7 : (([0, 1]).all fun a : Int => wTest 17 a false && wTest 17 a true) = true := by kernel_rfl
theorem wIn7 {a : Int} (h : 0 ≤ a) (hk : a < 2) (d : Bool) : wTest 17 a d = true := by
  have hm : a ∈ ([0, 1] : List Int) := by simp; omega
  have h := List.all_eq_true.1 wAll7 a hm
  rw [Bool.and_eq_true] at h
  cases d with
  | false => exact h.1
  | true => exact h.2
theorem wErr7 {a : Int} (h : 0 ≤ a ∧ a ≤ 65535) (hk : ¬ a < 2) (d : Bool) : SatP Tryz.prog 17 [agI (wIm 17 a d)] (agR3 (0, 2, 6)) := by
  refine wBad ?_ (by decide) ?_
  · rw [show rightB ⟨17, a⟩ = (decide (0 ≤ a) && decide (a ≤ 65535)) by kernel_rfl]
    simp [h.1, h.2]
  · rw [show opErr (wIm 17 a d) (wFn 17 a d) ⟨17, a⟩ = bif decide (a < 2) then none else some 6 by kernel_rfl, decide_eq_false hk]
    rfl
theorem wAll8 : (((List.range 64).map Int.ofNat).all fun a : Int => wTest 44 a false && wTest 44 a true) = true := by kernel_rfl
theorem wIn8 {a : Int} (h : 0 ≤ a) (hk : a < 64) (d : Bool) : wTest 44 a d = true := by
  have hm : a ∈ (List.range 64).map Int.ofNat := List.mem_map.2 ⟨a.toNat, List.mem_range.2 (by omega), Int.toNat_of_nonneg h⟩
  have h := List.all_eq_true.1 wAll8 a hm
  rw [Bool.and_eq_true] at h
  cases d with
  | false => exact h.1
  | true => exact h.2
theorem wErr8 {a : Int} (h : 0 ≤ a ∧ a ≤ 65535) (hk : ¬ a < 64) (d : Bool) : SatP Tryz.prog 17 [agI (wIm 44 a d)] (agR3 (0, 2, 1)) := by
  refine wBad ?_ (by decide) ?_
  · rw [show rightB ⟨44, a⟩ = (decide (0 ≤ a) && decide (a ≤ 65535)) by kernel_rfl]
    simp [h.1, h.2]
  · rw [show opErr (wIm 44 a d) (wFn 44 a d) ⟨44, a⟩ = bif decide (a ≤ 63) then none else some 1 by kernel_rfl, decide_eq_false (by omega)]
    rfl

set_option maxRecDepth 100000 in
set_option maxHeartbeats 4000000 in
theorem wrong6_0 (p a : Int) (d : Bool) (en : p.tmod 9 = 0) (ha : 0 ≤ a ∧ a ≤ 65535) : SatP Tryz.prog 6 [.d (.int .u8 p), .d (.int .u16 a), .d (.bool d)] (.d (.bool true)) := by
  by_cases hk : a < 1
  · obtain ⟨x, y, z, hr, hd⟩ := wOk (wIn0 ha.1 hk d)
    cases d with
    | true =>
      obtain ⟨rfl, rfl, rfl⟩ := hd rfl
      refine s6 (keep := false) rfl ?_
      repeat' ((conv => whnf); first | exact And.intro rfl rfl | refine And.intro (?_ : _ = Out.ret _) rfl | intro _ | refine And.intro rfl ?_ | refine ⟨_, examples15, ?_⟩ | refine (examples15).use ?_ | refine (And.intro (by decide) ?_) | refine (.inl ⟨by rw [en]; unfold inR; omega, ?_⟩) | refine (.inl ⟨by unfold inR; omega, ?_⟩) | refine ⟨_, hr, ?_⟩ | refine (hr).use ?_ | refine apn_own ?_ | refine bsn_data ?_ | refine fro_nil ?_ | refine cfo_old ?_ | ((first | refine .inl (And.intro ?_ ?_) | refine And.intro ?_ ?_); focus ((repeat' apply And.intro) <;> first | rfl | omega | (unfold inR; omega) | (simp; done) | (unfold inR; simp at *; omega) | (simp at *; omega) | (intros; contradiction))) | refine sp_t (by first | (simp; done) | (simp; omega) | (simp at *; omega) | (exact beq_eq_false_iff_ne.2 (by (try dsimp only); omega)) | (exact beq_iff_eq.2 (by (try dsimp only); omega))) ?_ | refine sp_f (by first | (simp; done) | (simp; omega) | (simp at *; omega) | (exact beq_eq_false_iff_ne.2 (by (try dsimp only); omega)) | (exact beq_iff_eq.2 (by (try dsimp only); omega))) ?_ | fail)
    | false =>
      refine s6 (keep := false) rfl ?_
      repeat' ((conv => whnf); first | exact And.intro rfl rfl | refine And.intro (?_ : _ = Out.ret _) rfl | intro _ | refine And.intro rfl ?_ | refine ⟨_, examples15, ?_⟩ | refine (examples15).use ?_ | refine (And.intro (by decide) ?_) | refine (.inl ⟨by rw [en]; unfold inR; omega, ?_⟩) | refine (.inl ⟨by unfold inR; omega, ?_⟩) | refine ⟨_, hr, ?_⟩ | refine (hr).use ?_ | refine apn_own ?_ | refine bsn_data ?_ | refine fro_nil ?_ | refine cfo_old ?_ | ((first | refine .inl (And.intro ?_ ?_) | refine And.intro ?_ ?_); focus ((repeat' apply And.intro) <;> first | rfl | omega | (unfold inR; omega) | (simp; done) | (unfold inR; simp at *; omega) | (simp at *; omega) | (intros; contradiction))) | refine sp_t (by first | (simp; done) | (simp; omega) | (simp at *; omega) | (exact beq_eq_false_iff_ne.2 (by (try dsimp only); omega)) | (exact beq_iff_eq.2 (by (try dsimp only); omega))) ?_ | refine sp_f (by first | (simp; done) | (simp; omega) | (simp at *; omega) | (exact beq_eq_false_iff_ne.2 (by (try dsimp only); omega)) | (exact beq_iff_eq.2 (by (try dsimp only); omega))) ?_ | fail)
  · have hr := wErr0 ha hk d
    cases d with
    | true =>
      refine s6 (keep := false) rfl ?_
      repeat' ((conv => whnf); first | exact And.intro rfl rfl | refine And.intro (?_ : _ = Out.ret _) rfl | intro _ | refine And.intro rfl ?_ | refine ⟨_, examples15, ?_⟩ | refine (examples15).use ?_ | refine (And.intro (by decide) ?_) | refine (.inl ⟨by rw [en]; unfold inR; omega, ?_⟩) | refine (.inl ⟨by unfold inR; omega, ?_⟩) | refine ⟨_, hr, ?_⟩ | refine (hr).use ?_ | refine apn_own ?_ | refine bsn_data ?_ | refine fro_nil ?_ | refine cfo_old ?_ | ((first | refine .inl (And.intro ?_ ?_) | refine And.intro ?_ ?_); focus ((repeat' apply And.intro) <;> first | rfl | omega | (unfold inR; omega) | (simp; done) | (unfold inR; simp at *; omega) | (simp at *; omega) | (intros; contradiction))) | refine sp_t (by first | (simp; done) | (simp; omega) | (simp at *; omega) | (exact beq_eq_false_iff_ne.2 (by (try dsimp only); omega)) | (exact beq_iff_eq.2 (by (try dsimp only); omega))) ?_ | refine sp_f (by first | (simp; done) | (simp; omega) | (simp at *; omega) | (exact beq_eq_false_iff_ne.2 (by (try dsimp only); omega)) | (exact beq_iff_eq.2 (by (try dsimp only); omega))) ?_ | fail)
    | false =>
      refine s6 (keep := false) rfl ?_
      repeat' ((conv => whnf); first | exact And.intro rfl rfl | refine And.intro (?_ : _ = Out.ret _) rfl | intro _ | refine And.intro rfl ?_ | refine ⟨_, examples15, ?_⟩ | refine (examples15).use ?_ | refine (And.intro (by decide) ?_) | refine (.inl ⟨by rw [en]; unfold inR; omega, ?_⟩) | refine (.inl ⟨by unfold inR; omega, ?_⟩) | refine ⟨_, hr, ?_⟩ | refine (hr).use ?_ | refine apn_own ?_ | refine bsn_data ?_ | refine fro_nil ?_ | refine cfo_old ?_ | ((first | refine .inl (And.intro ?_ ?_) | refine And.intro ?_ ?_); focus ((repeat' apply And.intro) <;> first | rfl | omega | (unfold inR; omega) | (simp; done) | (unfold inR; simp at *; omega) | (simp at *; omega) | (intros; contradiction))) | refine sp_t (by first | (simp; done) | (simp; omega) | (simp at *; omega) | (exact beq_eq_false_iff_ne.2 (by (try dsimp only); omega)) | (exact beq_iff_eq.2 (by (try dsimp only); omega))) ?_ | refine sp_f (by first | (simp; done) | (simp; omega) | (simp at *; omega) | (exact beq_eq_false_iff_ne.2 (by (try dsimp only); omega)) | (exact beq_iff_eq.2 (by (try dsimp only); omega))) ?_ | fail)

set_option maxRecDepth 100000 in
set_option maxHeartbeats 4000000 in
theorem wrong6_1 (p a : Int) (d : Bool) (en : p.tmod 9 = 1) (ha : 0 ≤ a ∧ a ≤ 65535) : SatP Tryz.prog 6 [.d (.int .u8 p), .d (.int .u16 a), .d (.bool d)] (.d (.bool true)) := by
  by_cases hk : a < 3
  · obtain ⟨x, y, z, hr, hd⟩ := wOk (wIn1 ha.1 hk d)
    cases d with
    | true =>
      obtain ⟨rfl, rfl, rfl⟩ := hd rfl
      refine s6 (keep := false) rfl ?_
      repeat' ((conv => whnf); first | exact And.intro rfl rfl | refine And.intro (?_ : _ = Out.ret _) rfl | intro _ | refine And.intro rfl ?_ | refine ⟨_, examples15, ?_⟩ | refine (examples15).use ?_ | refine (And.intro (by decide) ?_) | refine (.inl ⟨by rw [en]; unfold inR; omega, ?_⟩) | refine (.inl ⟨by unfold inR; omega, ?_⟩) | refine ⟨_, hr, ?_⟩ | refine (hr).use ?_ | refine apn_own ?_ | refine bsn_data ?_ | refine fro_nil ?_ | refine cfo_old ?_ | ((first | refine .inl (And.intro ?_ ?_) | refine And.intro ?_ ?_); focus ((repeat' apply And.intro) <;> first | rfl | omega | (unfold inR; omega) | (simp; done) | (unfold inR; simp at *; omega) | (simp at *; omega) | (intros; contradiction))) | refine sp_t (by first | (simp; done) | (simp; omega) | (simp at *; omega) | (exact beq_eq_false_iff_ne.2 (by (try dsimp only); omega)) | (exact beq_iff_eq.2 (by (try dsimp only); omega))) ?_ | refine sp_f (by first | (simp; done) | (simp; omega) | (simp at *; omega) | (exact beq_eq_false_iff_ne.2 (by (try dsimp only); omega)) | (exact beq_iff_eq.2 (by (try dsimp only); omega))) ?_ | fail)
    | false =>
      refine s6 (keep := false) rfl ?_
      repeat' ((conv => whnf); first | exact And.intro rfl rfl | refine And.intro (?_ : _ = Out.ret _) rfl | intro _ | refine And.intro rfl ?_ | refine ⟨_, examples15, ?_⟩ | refine (examples15).use ?_ | refine (And.intro (by decide) ?_) | refine (.inl ⟨by rw [en]; unfold inR; omega, ?_⟩) | refine (.inl ⟨by unfold inR; omega, ?_⟩) | refine ⟨_, hr, ?_⟩ | refine (hr).use ?_ | refine apn_own ?_ | refine bsn_data ?_ | refine fro_nil ?_ | refine cfo_old ?_ | ((first | refine .inl (And.intro ?_ ?_) | refine And.intro ?_ ?_); focus ((repeat' apply And.intro) <;> first | rfl | omega | (unfold inR; omega) | (simp; done) | (unfold inR; simp at *; omega) | (simp at *; omega) | (intros; contradiction))) | refine sp_t (by first | (simp; done) | (simp; omega) | (simp at *; omega) | (exact beq_eq_false_iff_ne.2 (by (try dsimp only); omega)) | (exact beq_iff_eq.2 (by (try dsimp only); omega))) ?_ | refine sp_f (by first | (simp; done) | (simp; omega) | (simp at *; omega) | (exact beq_eq_false_iff_ne.2 (by (try dsimp only); omega)) | (exact beq_iff_eq.2 (by (try dsimp only); omega))) ?_ | fail)
  · have hr := wErr1 ha hk d
    cases d with
    | true =>
      refine s6 (keep := false) rfl ?_
      repeat' ((conv => whnf); first | exact And.intro rfl rfl | refine And.intro (?_ : _ = Out.ret _) rfl | intro _ | refine And.intro rfl ?_ | refine ⟨_, examples15, ?_⟩ | refine (examples15).use ?_ | refine (And.intro (by decide) ?_) | refine (.inl ⟨by rw [en]; unfold inR; omega, ?_⟩) | refine (.inl ⟨by unfold inR; omega, ?_⟩) | refine ⟨_, hr, ?_⟩ | refine (hr).use ?_ | refine apn_own ?_ | refine bsn_data ?_ | refine fro_nil ?_ | refine cfo_old ?_ | ((first | refine .inl (And.intro ?_ ?_) | refine And.intro ?_ ?_); focus ((repeat' apply And.intro) <;> first | rfl | omega | (unfold inR; omega) | (simp; done) | (unfold inR; simp at *; omega) | (simp at *; omega) | (intros; contradiction))) | refine sp_t (by first | (simp; done) | (simp; omega) | (simp at *; omega) | (exact beq_eq_false_iff_ne.2 (by (try dsimp only); omega)) | (exact beq_iff_eq.2 (by (try dsimp only); omega))) ?_ | refine sp_f (by first | (simp; done) | (simp; omega) | (simp at *; omega) | (exact beq_eq_false_iff_ne.2 (by (try dsimp only); omega)) | (exact beq_iff_eq.2 (by (try dsimp only); omega))) ?_ | fail)
    | false =>
      refine s6 (keep := false) rfl ?_
      repeat' ((conv => whnf); first | exact And.intro rfl rfl | refine And.intro (?_ : _ = Out.ret _) rfl | intro _ | refine And.intro rfl ?_ | refine ⟨_, examples15, ?_⟩ | refine (examples15).use ?_ | refine (And.intro (by decide) ?_) | refine (.inl ⟨by rw [en]; unfold inR; omega, ?_⟩) | refine (.inl ⟨by unfold inR; omega, ?_⟩) | refine ⟨_, hr, ?_⟩ | refine (hr).use ?_ | refine apn_own ?_ | refine bsn_data ?_ | refine fro_nil ?_ | refine cfo_old ?_ | ((first | refine .inl (And.intro ?_ ?_) | refine And.intro ?_ ?_); focus ((repeat' apply And.intro) <;> first | rfl | omega | (unfold inR; omega) | (simp; done) | (unfold inR; simp at *; omega) | (simp at *; omega) | (intros; contradiction))) | refine sp_t (by first | (simp; done) | (simp; omega) | (simp at *; omega) | (exact beq_eq_false_iff_ne.2 (by (try dsimp only); omega)) | (exact beq_iff_eq.2 (by (try dsimp only); omega))) ?_ | refine sp_f (by first | (simp; done) | (simp; omega) | (simp at *; omega) | (exact beq_eq_false_iff_ne.2 (by (try dsimp only); omega)) | (exact beq_iff_eq.2 (by (try dsimp only); omega))) ?_ | fail)

set_option maxRecDepth 100000 in
set_option maxHeartbeats 4000000 in
theorem wrong6_2 (p a : Int) (d : Bool) (en : p.tmod 9 = 2) (ha : 0 ≤ a ∧ a ≤ 65535) : SatP Tryz.prog 6 [.d (.int .u8 p), .d (.int .u16 a), .d (.bool d)] (.d (.bool true)) := by
  by_cases hk : a < 3
  · obtain ⟨x, y, z, hr, hd⟩ := wOk (wIn2 ha.1 hk d)
    cases d with
    | true =>
      obtain ⟨rfl, rfl, rfl⟩ := hd rfl
      refine s6 (keep := false) rfl ?_
      repeat' ((conv => whnf); first | exact And.intro rfl rfl | refine And.intro (?_ : _ = Out.ret _) rfl | intro _ | refine And.intro rfl ?_ | refine ⟨_, examples15, ?_⟩ | refine (examples15).use ?_ | refine (And.intro (by decide) ?_) | refine (.inl ⟨by rw [en]; unfold inR; omega, ?_⟩) | refine (.inl ⟨by unfold inR; omega, ?_⟩) | refine ⟨_, hr, ?_⟩ | refine (hr).use ?_ | refine apn_own ?_ | refine bsn_data ?_ | refine fro_nil ?_ | refine cfo_old ?_ | ((first | refine .inl (And.intro ?_ ?_) | refine And.intro ?_ ?_); focus ((repeat' apply And.intro) <;> first | rfl | omega | (unfold inR; omega) | (simp; done) | (unfold inR; simp at *; omega) | (simp at *; omega) | (intros; contradiction))) | refine sp_t (by first | (simp; done) | (simp; omega) | (simp at *; omega) | (exact beq_eq_false_iff_ne.2 (by (try dsimp only); omega)) | (exact beq_iff_eq.2 (by (try dsimp only); omega))) ?_ | refine sp_f (by first | (simp; done) | (simp; omega) | (simp at *; omega) | (exact beq_eq_false_iff_ne.2 (by (try dsimp only); omega)) | (exact beq_iff_eq.2 (by (try dsimp only); omega))) ?_ | fail)
    | false =>
      refine s6 (keep := false) rfl ?_
      repeat' ((conv => whnf); first | exact And.intro rfl rfl | refine And.intro (?_ : _ = Out.ret _) rfl | intro _ | refine And.intro rfl ?_ | refine ⟨_, examples15, ?_⟩ | refine (examples15).use ?_ | refine (And.intro (by decide) ?_) | refine (.inl ⟨by rw [en]; unfold inR; omega, ?_⟩) | refine (.inl ⟨by unfold inR; omega, ?_⟩) | refine ⟨_, hr, ?_⟩ | refine (hr).use ?_ | refine apn_own ?_ | refine bsn_data ?_ | refine fro_nil ?_ | refine cfo_old ?_ | ((first | refine .inl (And.intro ?_ ?_) | refine And.intro ?_ ?_); focus ((repeat' apply And.intro) <;> first | rfl | omega | (unfold inR; omega) | (simp; done) | (unfold inR; simp at *; omega) | (simp at *; omega) | (intros; contradiction))) | refine sp_t (by first | (simp; done) | (simp; omega) | (simp at *; omega) | (exact beq_eq_false_iff_ne.2 (by (try dsimp only); omega)) | (exact beq_iff_eq.2 (by (try dsimp only); omega))) ?_ | refine sp_f (by first | (simp; done) | (simp; omega) | (simp at *; omega) | (exact beq_eq_false_iff_ne.2 (by (try dsimp only); omega)) | (exact beq_iff_eq.2 (by (try dsimp only); omega))) ?_ | fail)
  · have hr := wErr2 ha hk d
    cases d with
    | true =>
      refine s6 (keep := false) rfl ?_
      repeat' ((conv => whnf); first | exact And.intro rfl rfl | refine And.intro (?_ : _ = Out.ret _) rfl | intro _ | refine And.intro rfl ?_ | refine ⟨_, examples15, ?_⟩ | refine (examples15).use ?_ | refine (And.intro (by decide) ?_) | refine (.inl ⟨by rw [en]; unfold inR; omega, ?_⟩) | refine (.inl ⟨by unfold inR; omega, ?_⟩) | refine ⟨_, hr, ?_⟩ | refine (hr).use ?_ | refine apn_own ?_ | refine bsn_data ?_ | refine fro_nil ?_ | refine cfo_old ?_ | ((first | refine .inl (And.intro ?_ ?_) | refine And.intro ?_ ?_); focus ((repeat' apply And.intro) <;> first | rfl | omega | (unfold inR; omega) | (simp; done) | (unfold inR; simp at *; omega) | (simp at *; omega) | (intros; contradiction))) | refine sp_t (by first | (simp; done) | (simp; omega) | (simp at *; omega) | (exact beq_eq_false_iff_ne.2 (by (try dsimp only); omega)) | (exact beq_iff_eq.2 (by (try dsimp only); omega))) ?_ | refine sp_f (by first | (simp; done) | (simp; omega) | (simp at *; omega) | (exact beq_eq_false_iff_ne.2 (by (try dsimp only); omega)) | (exact beq_iff_eq.2 (by (try dsimp only); omega))) ?_ | fail)
    | false =>
      refine s6 (keep := false) rfl ?_
      repeat' ((conv => whnf); first | exact And.intro rfl rfl | refine And.intro (?_ : _ = Out.ret _) rfl | intro _ | refine And.intro rfl ?_ | refine ⟨_, examples15, ?_⟩ | refine (examples15).use ?_ | refine (And.intro (by decide) ?_) | refine (.inl ⟨by rw [en]; unfold inR; omega, ?_⟩) | refine (.inl ⟨by unfold inR; omega, ?_⟩) | refine ⟨_, hr, ?_⟩ | refine (hr).use ?_ | refine apn_own ?_ | refine bsn_data ?_ | refine fro_nil ?_ | refine cfo_old ?_ | ((first | refine .inl (And.intro ?_ ?_) | refine And.intro ?_ ?_); focus ((repeat' apply And.intro) <;> first | rfl | omega | (unfold inR; omega) | (simp; done) | (unfold inR; simp at *; omega) | (simp at *; omega) | (intros; contradiction))) | refine sp_t (by first | (simp; done) | (simp; omega) | (simp at *; omega) | (exact beq_eq_false_iff_ne.2 (by (try dsimp only); omega)) | (exact beq_iff_eq.2 (by (try dsimp only); omega))) ?_ | refine sp_f (by first | (simp; done) | (simp; omega) | (simp at *; omega) | (exact beq_eq_false_iff_ne.2 (by (try dsimp only); omega)) | (exact beq_iff_eq.2 (by (try dsimp only); omega))) ?_ | fail)

set_option maxRecDepth 100000 in
set_option maxHeartbeats 4000000 in
theorem wrong6_3 (p a : Int) (d : Bool) (en : p.tmod 9 = 3) (ha : 0 ≤ a ∧ a ≤ 65535) : SatP Tryz.prog 6 [.d (.int .u8 p), .d (.int .u16 a), .d (.bool d)] (.d (.bool true)) := by
  by_cases hk : a < 6
  · obtain ⟨x, y, z, hr, hd⟩ := wOk (wIn3 ha.1 hk d)
    cases d with
    | true =>
      obtain ⟨rfl, rfl, rfl⟩ := hd rfl
      refine s6 (keep := false) rfl ?_
      repeat' ((conv => whnf); first | exact And.intro rfl rfl | refine And.intro (?_ : _ = Out.ret _) rfl | intro _ | refine And.intro rfl ?_ | refine ⟨_, examples15, ?_⟩ | refine (examples15).use ?_ | refine (And.intro (by decide) ?_) | refine (.inl ⟨by rw [en]; unfold inR; omega, ?_⟩) | refine (.inl ⟨by unfold inR; omega, ?_⟩) | refine ⟨_, hr, ?_⟩ | refine (hr).use ?_ | refine apn_own ?_ | refine bsn_data ?_ | refine fro_nil ?_ | refine cfo_old ?_ | ((first | refine .inl (And.intro ?_ ?_) | refine And.intro ?_ ?_); focus ((repeat' apply And.intro) <;> first | rfl | omega | (unfold inR; omega) | (simp; done) | (unfold inR; simp at *; omega) | (simp at *; omega) | (intros; contradiction))) | refine sp_t (by first | (simp; done) | (simp; omega) | (simp at *; omega) | (exact beq_eq_false_iff_ne.2 (by (try dsimp only); omega)) | (exact beq_iff_eq.2 (by (try dsimp only); omega))) ?_ | refine sp_f (by first | (simp; done) | (simp; omega) | (simp at *; omega) | (exact beq_eq_false_iff_ne.2 (by (try dsimp only); omega)) | (exact beq_iff_eq.2 (by (try dsimp only); omega))) ?_ | fail)
    | false =>
      refine s6 (keep := false) rfl ?_
      repeat' ((conv => whnf); first | exact And.intro rfl rfl | refine And.intro (?_ : _ = Out.ret _) rfl | intro _ | refine And.intro rfl ?_ | refine ⟨_, examples15, ?_⟩ | refine (examples15).use ?_ | refine (And.intro (by decide) ?_) | refine (.inl ⟨by rw [en]; unfold inR; omega, ?_⟩) | refine (.inl ⟨by unfold inR; omega, ?_⟩) | refine ⟨_, hr, ?_⟩ | refine (hr).use ?_ | refine apn_own ?_ | refine bsn_data ?_ | refine fro_nil ?_ | refine cfo_old ?_ | ((first | refine .inl (And.intro ?_ ?_) | refine And.intro ?_ ?_); focus ((repeat' apply And.intro) <;> first | rfl | omega | (unfold inR; omega) | (simp; done) | (unfold inR; simp at *; omega) | (simp at *; omega) | (intros; contradiction))) | refine sp_t (by first | (simp; done) | (simp; omega) | (simp at *; omega) | (exact beq_eq_false_iff_ne.2 (by (try dsimp only); omega)) | (exact beq_iff_eq.2 (by (try dsimp only); omega))) ?_ | refine sp_f (by first | (simp; done) | (simp; omega) | (simp at *; omega) | (exact beq_eq_false_iff_ne.2 (by (try dsimp only); omega)) | (exact beq_iff_eq.2 (by (try dsimp only); omega))) ?_ | fail)
  · have hr := wErr3 ha hk d
    cases d with
    | true =>
      refine s6 (keep := false) rfl ?_
      repeat' ((conv => whnf); first | exact And.intro rfl rfl | refine And.intro (?_ : _ = Out.ret _) rfl | intro _ | refine And.intro rfl ?_ | refine ⟨_, examples15, ?_⟩ | refine (examples15).use ?_ | refine (And.intro (by decide) ?_) | refine (.inl ⟨by rw [en]; unfold inR; omega, ?_⟩) | refine (.inl ⟨by unfold inR; omega, ?_⟩) | refine ⟨_, hr, ?_⟩ | refine (hr).use ?_ | refine apn_own ?_ | refine bsn_data ?_ | refine fro_nil ?_ | refine cfo_old ?_ | ((first | refine .inl (And.intro ?_ ?_) | refine And.intro ?_ ?_); focus ((repeat' apply And.intro) <;> first | rfl | omega | (unfold inR; omega) | (simp; done) | (unfold inR; simp at *; omega) | (simp at *; omega) | (intros; contradiction))) | refine sp_t (by first | (simp; done) | (simp; omega) | (simp at *; omega) | (exact beq_eq_false_iff_ne.2 (by (try dsimp only); omega)) | (exact beq_iff_eq.2 (by (try dsimp only); omega))) ?_ | refine sp_f (by first | (simp; done) | (simp; omega) | (simp at *; omega) | (exact beq_eq_false_iff_ne.2 (by (try dsimp only); omega)) | (exact beq_iff_eq.2 (by (try dsimp only); omega))) ?_ | fail)
    | false =>
      refine s6 (keep := false) rfl ?_
      repeat' ((conv => whnf); first | exact And.intro rfl rfl | refine And.intro (?_ : _ = Out.ret _) rfl | intro _ | refine And.intro rfl ?_ | refine ⟨_, examples15, ?_⟩ | refine (examples15).use ?_ | refine (And.intro (by decide) ?_) | refine (.inl ⟨by rw [en]; unfold inR; omega, ?_⟩) | refine (.inl ⟨by unfold inR; omega, ?_⟩) | refine ⟨_, hr, ?_⟩ | refine (hr).use ?_ | refine apn_own ?_ | refine bsn_data ?_ | refine fro_nil ?_ | refine cfo_old ?_ | ((first | refine .inl (And.intro ?_ ?_) | refine And.intro ?_ ?_); focus ((repeat' apply And.intro) <;> first | rfl | omega | (unfold inR; omega) | (simp; done) | (unfold inR; simp at *; omega) | (simp at *; omega) | (intros; contradiction))) | refine sp_t (by first | (simp; done) | (simp; omega) | (simp at *; omega) | (exact beq_eq_false_iff_ne.2 (by (try dsimp only); omega)) | (exact beq_iff_eq.2 (by (try dsimp only); omega))) ?_ | refine sp_f (by first | (simp; done) | (simp; omega) | (simp at *; omega) | (exact beq_eq_false_iff_ne.2 (by (try dsimp only); omega)) | (exact beq_iff_eq.2 (by (try dsimp only); omega))) ?_ | fail)

set_option maxRecDepth 100000 in
set_option maxHeartbeats 4000000 in
theorem wrong6_4 (p a : Int) (d : Bool) (en : p.tmod 9 = 4) (ha : 0 ≤ a ∧ a ≤ 65535) : SatP Tryz.prog 6 [.d (.int .u8 p), .d (.int .u16 a), .d (.bool d)] (.d (.bool true)) := by
  by_cases hk : a < 6
  · obtain ⟨x, y, z, hr, hd⟩ := wOk (wIn4 ha.1 hk d)
    cases d with
    | true =>
      obtain ⟨rfl, rfl, rfl⟩ := hd rfl
      refine s6 (keep := false) rfl ?_
      repeat' ((conv => whnf); first | exact And.intro rfl rfl | refine And.intro (?_ : _ = Out.ret _) rfl | intro _ | refine And.intro rfl ?_ | refine ⟨_, examples15, ?_⟩ | refine (examples15).use ?_ | refine (And.intro (by decide) ?_) | refine (.inl ⟨by rw [en]; unfold inR; omega, ?_⟩) | refine (.inl ⟨by unfold inR; omega, ?_⟩) | refine ⟨_, hr, ?_⟩ | refine (hr).use ?_ | refine apn_own ?_ | refine bsn_data ?_ | refine fro_nil ?_ | refine cfo_old ?_ | ((first | refine .inl (And.intro ?_ ?_) | refine And.intro ?_ ?_); focus ((repeat' apply And.intro) <;> first | rfl | omega | (unfold inR; omega) | (simp; done) | (unfold inR; simp at *; omega) | (simp at *; omega) | (intros; contradiction))) | refine sp_t (by first | (simp; done) | (simp; omega) | (simp at *; omega) | (exact beq_eq_false_iff_ne.2 (by (try dsimp only); omega)) | (exact beq_iff_eq.2 (by (try dsimp only); omega))) ?_ | refine sp_f (by first | (simp; done) | (simp; omega) | (simp at *; omega) | (exact beq_eq_false_iff_ne.2 (by (try dsimp only); omega)) | (exact beq_iff_eq.2 (by (try dsimp only); omega))) ?_ | fail)
    | false =>
      refine s6 (keep := false) rfl ?_
      repeat' ((conv => whnf); first | exact And.intro rfl rfl | refine And.intro (?_ : _ = Out.ret _) rfl | intro _ | refine And.intro rfl ?_ | refine ⟨_, examples15, ?_⟩ | refine (examples15).use ?_ | refine (And.intro (by decide) ?_) | refine (.inl ⟨by rw [en]; unfold inR; omega, ?_⟩) | refine (.inl ⟨by unfold inR; omega, ?_⟩) | refine ⟨_, hr, ?_⟩ | refine (hr).use ?_ | refine apn_own ?_ | refine bsn_data ?_ | refine fro_nil ?_ | refine cfo_old ?_ | ((first | refine .inl (And.intro ?_ ?_) | refine And.intro ?_ ?_); focus ((repeat' apply And.intro) <;> first | rfl | omega | (unfold inR; omega) | (simp; done) | (unfold inR; simp at *; omega) | (simp at *; omega) | (intros; contradiction))) | refine sp_t (by first | (simp; done) | (simp; omega) | (simp at *; omega) | (exact beq_eq_false_iff_ne.2 (by (try dsimp only); omega)) | (exact beq_iff_eq.2 (by (try dsimp only); omega))) ?_ | refine sp_f (by first | (simp; done) | (simp; omega) | (simp at *; omega) | (exact beq_eq_false_iff_ne.2 (by (try dsimp only); omega)) | (exact beq_iff_eq.2 (by (try dsimp only); omega))) ?_ | fail)
  · have hr := wErr4 ha hk d
    cases d with
    | true =>
      refine s6 (keep := false) rfl ?_
      repeat' ((conv => whnf); first | exact And.intro rfl rfl | refine And.intro (?_ : _ = Out.ret _) rfl | intro _ | refine And.intro rfl ?_ | refine ⟨_, examples15, ?_⟩ | refine (examples15).use ?_ | refine (And.intro (by decide) ?_) | refine (.inl ⟨by rw [en]; unfold inR; omega, ?_⟩) | refine (.inl ⟨by unfold inR; omega, ?_⟩) | refine ⟨_, hr, ?_⟩ | refine (hr).use ?_ | refine apn_own ?_ | refine bsn_data ?_ | refine fro_nil ?_ | refine cfo_old ?_ | ((first | refine .inl (And.intro ?_ ?_) | refine And.intro ?_ ?_); focus ((repeat' apply And.intro) <;> first | rfl | omega | (unfold inR; omega) | (simp; done) | (unfold inR; simp at *; omega) | (simp at *; omega) | (intros; contradiction))) | refine sp_t (by first | (simp; done) | (simp; omega) | (simp at *; omega) | (exact beq_eq_false_iff_ne.2 (by (try dsimp only); omega)) | (exact beq_iff_eq.2 (by (try dsimp only); omega))) ?_ | refine sp_f (by first | (simp; done) | (simp; omega) | (simp at *; omega) | (exact beq_eq_false_iff_ne.2 (by (try dsimp only); omega)) | (exact beq_iff_eq.2 (by (try dsimp only); omega))) ?_ | fail)
    | false =>
      refine s6 (keep := false) rfl ?_
      repeat' ((conv => whnf); first | exact And.intro rfl rfl | refine And.intro (?_ : _ = Out.ret _) rfl | intro _ | refine And.intro rfl ?_ | refine ⟨_, examples15, ?_⟩ | refine (examples15).use ?_ | refine (And.intro (by decide) ?_) | refine (.inl ⟨by rw [en]; unfold inR; omega, ?_⟩) | refine (.inl ⟨by unfold inR; omega, ?_⟩) | refine ⟨_, hr, ?_⟩ | refine (hr).use ?_ | refine apn_own ?_ | refine bsn_data ?_ | refine fro_nil ?_ | refine cfo_old ?_ | ((first | refine .inl (And.intro ?_ ?_) | refine And.intro ?_ ?_); focus ((repeat' apply And.intro) <;> first | rfl | omega | (unfold inR; omega) | (simp; done) | (unfold inR; simp at *; omega) | (simp at *; omega) | (intros; contradiction))) | refine sp_t (by first | (simp; done) | (simp; omega) | (simp at *; omega) | (exact beq_eq_false_iff_ne.2 (by (try dsimp only); omega)) | (exact beq_iff_eq.2 (by (try dsimp only); omega))) ?_ | refine sp_f (by first | (simp; done) | (simp; omega) | (simp at *; omega) | (exact beq_eq_false_iff_ne.2 (by (try dsimp only); omega)) | (exact beq_iff_eq.2 (by (try dsimp only); omega))) ?_ | fail)

set_option maxRecDepth 100000 in
set_option maxHeartbeats 4000000 in
theorem wrong6_5 (p a : Int) (d : Bool) (en : p.tmod 9 = 5) (ha : 0 ≤ a ∧ a ≤ 65535) : SatP Tryz.prog 6 [.d (.int .u8 p), .d (.int .u16 a), .d (.bool d)] (.d (.bool true)) := by
  by_cases hk : a = 1
  · obtain ⟨x, y, z, hr, hd⟩ := wOk (wIn5 ha.1 hk d)
    cases d with
    | true =>
      obtain ⟨rfl, rfl, rfl⟩ := hd rfl
      refine s6 (keep := false) rfl ?_
      repeat' ((conv => whnf); first | exact And.intro rfl rfl | refine And.intro (?_ : _ = Out.ret _) rfl | intro _ | refine And.intro rfl ?_ | refine ⟨_, examples15, ?_⟩ | refine (examples15).use ?_ | refine (And.intro (by decide) ?_) | refine (.inl ⟨by rw [en]; unfold inR; omega, ?_⟩) | refine (.inl ⟨by unfold inR; omega, ?_⟩) | refine ⟨_, hr, ?_⟩ | refine (hr).use ?_ | refine apn_own ?_ | refine bsn_data ?_ | refine fro_nil ?_ | refine cfo_old ?_ | ((first | refine .inl (And.intro ?_ ?_) | refine And.intro ?_ ?_); focus ((repeat' apply And.intro) <;> first | rfl | omega | (unfold inR; omega) | (simp; done) | (unfold inR; simp at *; omega) | (simp at *; omega) | (intros; contradiction))) | refine sp_t (by first | (simp; done) | (simp; omega) | (simp at *; omega) | (exact beq_eq_false_iff_ne.2 (by (try dsimp only); omega)) | (exact beq_iff_eq.2 (by (try dsimp only); omega))) ?_ | refine sp_f (by first | (simp; done) | (simp; omega) | (simp at *; omega) | (exact beq_eq_false_iff_ne.2 (by (try dsimp only); omega)) | (exact beq_iff_eq.2 (by (try dsimp only); omega))) ?_ | fail)
    | false =>
      refine s6 (keep := false) rfl ?_
      repeat' ((conv => whnf); first | exact And.intro rfl rfl | refine And.intro (?_ : _ = Out.ret _) rfl | intro _ | refine And.intro rfl ?_ | refine ⟨_, examples15, ?_⟩ | refine (examples15).use ?_ | refine (And.intro (by decide) ?_) | refine (.inl ⟨by rw [en]; unfold inR; omega, ?_⟩) | refine (.inl ⟨by unfold inR; omega, ?_⟩) | refine ⟨_, hr, ?_⟩ | refine (hr).use ?_ | refine apn_own ?_ | refine bsn_data ?_ | refine fro_nil ?_ | refine cfo_old ?_ | ((first | refine .inl (And.intro ?_ ?_) | refine And.intro ?_ ?_); focus ((repeat' apply And.intro) <;> first | rfl | omega | (unfold inR; omega) | (simp; done) | (unfold inR; simp at *; omega) | (simp at *; omega) | (intros; contradiction))) | refine sp_t (by first | (simp; done) | (simp; omega) | (simp at *; omega) | (exact beq_eq_false_iff_ne.2 (by (try dsimp only); omega)) | (exact beq_iff_eq.2 (by (try dsimp only); omega))) ?_ | refine sp_f (by first | (simp; done) | (simp; omega) | (simp at *; omega) | (exact beq_eq_false_iff_ne.2 (by (try dsimp only); omega)) | (exact beq_iff_eq.2 (by (try dsimp only); omega))) ?_ | fail)
  · have hr := wErr5 ha hk d
    cases d with
    | true =>
      refine s6 (keep := false) rfl ?_
      repeat' ((conv => whnf); first | exact And.intro rfl rfl | refine And.intro (?_ : _ = Out.ret _) rfl | intro _ | refine And.intro rfl ?_ | refine ⟨_, examples15, ?_⟩ | refine (examples15).use ?_ | refine (And.intro (by decide) ?_) | refine (.inl ⟨by rw [en]; unfold inR; omega, ?_⟩) | refine (.inl ⟨by unfold inR; omega, ?_⟩) | refine ⟨_, hr, ?_⟩ | refine (hr).use ?_ | refine apn_own ?_ | refine bsn_data ?_ | refine fro_nil ?_ | refine cfo_old ?_ | ((first | refine .inl (And.intro ?_ ?_) | refine And.intro ?_ ?_); focus ((repeat' apply And.intro) <;> first | rfl | omega | (unfold inR; omega) | (simp; done) | (unfold inR; simp at *; omega) | (simp at *; omega) | (intros; contradiction))) | refine sp_t (by first | (simp; done) | (simp; omega) | (simp at *; omega) | (exact beq_eq_false_iff_ne.2 (by (try dsimp only); omega)) | (exact beq_iff_eq.2 (by (try dsimp only); omega))) ?_ | refine sp_f (by first | (simp; done) | (simp; omega) | (simp at *; omega) | (exact beq_eq_false_iff_ne.2 (by (try dsimp only); omega)) | (exact beq_iff_eq.2 (by (try dsimp only); omega))) ?_ | fail)
    | false =>
      refine s6 (keep := false) rfl ?_
      repeat' ((conv => whnf); first | exact And.intro rfl rfl | refine And.intro (?_ : _ = Out.ret _) rfl | intro _ | refine And.intro rfl ?_ | refine ⟨_, examples15, ?_⟩ | refine (examples15).use ?_ | refine (And.intro (by decide) ?_) | refine (.inl ⟨by rw [en]; unfold inR; omega, ?_⟩) | refine (.inl ⟨by unfold inR; omega, ?_⟩) | refine ⟨_, hr, ?_⟩ | refine (hr).use ?_ | refine apn_own ?_ | refine bsn_data ?_ | refine fro_nil ?_ | refine cfo_old ?_ | ((first | refine .inl (And.intro ?_ ?_) | refine And.intro ?_ ?_); focus ((repeat' apply And.intro) <;> first | rfl | omega | (unfold inR; omega) | (simp; done) | (unfold inR; simp at *; omega) | (simp at *; omega) | (intros; contradiction))) | refine sp_t (by first | (simp; done) | (simp; omega) | (simp at *; omega) | (exact beq_eq_false_iff_ne.2 (by (try dsimp only); omega)) | (exact beq_iff_eq.2 (by (try dsimp only); omega))) ?_ | refine sp_f (by first | (simp; done) | (simp; omega) | (simp at *; omega) | (exact beq_eq_false_iff_ne.2 (by (try dsimp only); omega)) | (exact beq_iff_eq.2 (by (try dsimp only); omega))) ?_ | fail)

set_option maxRecDepth 100000 in
set_option maxHeartbeats 4000000 in
theorem wrong6_6 (p a : Int) (d : Bool) (en : p.tmod 9 = 6) (ha : 0 ≤ a ∧ a ≤ 65535) : SatP Tryz.prog 6 [.d (.int .u8 p), .d (.int .u16 a), .d (.bool d)] (.d (.bool true)) := by
  by_cases hk : a = 1
  · obtain ⟨x, y, z, hr, hd⟩ := wOk (wIn6 ha.1 hk d)
    cases d with
    | true =>
      obtain ⟨rfl, rfl, rfl⟩ := hd rfl
      refine s6 (keep := false) rfl ?_
      repeat' ((conv => whnf); first | exact And.intro rfl rfl | refine And.intro (?_ : _ = Out.ret _) rfl | intro _ | refine And.intro rfl ?_ | refine ⟨_, examples15, ?_⟩ | refine (examples15).use ?_ | refine (And.intro (by decide) ?_) | refine (.inl ⟨by rw [en]; unfold inR; omega, ?_⟩) | refine (.inl ⟨by unfold inR; omega, ?_⟩) | refine ⟨_, hr, ?_⟩ | refine (hr).use ?_ | refine apn_own ?_ | refine bsn_data ?_ | refine fro_nil ?_ | refine cfo_old ?_ | ((first | refine .inl (And.intro ?_ ?_) | refine And.intro ?_ ?_); focus ((repeat' apply And.intro) <;> first | rfl | omega | (unfold inR; omega) | (simp; done) | (unfold inR; simp at *; omega) | (simp at *; omega) | (intros; contradiction))) | refine sp_t (by first | (simp; done) | (simp; omega) | (simp at *; omega) | (exact beq_eq_false_iff_ne.2 (by (try dsimp only); omega)) | (exact beq_iff_eq.2 (by (try dsimp only); omega))) ?_ | refine sp_f (by first | (simp; done) | (simp; omega) | (simp at *; omega) | (exact beq_eq_false_iff_ne.2 (by (try dsimp only); omega)) | (exact beq_iff_eq.2 (by (try dsimp only); omega))) ?_ | fail)
    | false =>
      refine s6 (keep := false) rfl ?_
      repeat' ((conv => whnf); first | exact And.intro rfl rfl | refine And.intro (?_ : _ = Out.ret _) rfl | intro _ | refine And.intro rfl ?_ | refine ⟨_, examples15, ?_⟩ | refine (examples15).use ?_ | refine (And.intro (by decide) ?_) | refine (.inl ⟨by rw [en]; unfold inR; omega, ?_⟩) | refine (.inl ⟨by unfold inR; omega, ?_⟩) | refine ⟨_, hr, ?_⟩ | refine (hr).use ?_ | refine apn_own ?_ | refine bsn_data ?_ | refine fro_nil ?_ | refine cfo_old ?_ | ((first | refine .inl (And.intro ?_ ?_) | refine And.intro ?_ ?_); focus ((repeat' apply And.intro) <;> first | rfl | omega | (unfold inR; omega) | (simp; done) | (unfold inR; simp at *; omega) | (simp at *; omega) | (intros; contradiction))) | refine sp_t (by first | (simp; done) | (simp; omega) | (simp at *; omega) | (exact beq_eq_false_iff_ne.2 (by (try dsimp only); omega)) | (exact beq_iff_eq.2 (by (try dsimp only); omega))) ?_ | refine sp_f (by first | (simp; done) | (simp; omega) | (simp at *; omega) | (exact beq_eq_false_iff_ne.2 (by (try dsimp only); omega)) | (exact beq_iff_eq.2 (by (try dsimp only); omega))) ?_ | fail)
  · have hr := wErr6 ha hk d
    cases d with
    | true =>
      refine s6 (keep := false) rfl ?_
      repeat' ((conv => whnf); first | exact And.intro rfl rfl | refine And.intro (?_ : _ = Out.ret _) rfl | intro _ | refine And.intro rfl ?_ | refine ⟨_, examples15, ?_⟩ | refine (examples15).use ?_ | refine (And.intro (by decide) ?_) | refine (.inl ⟨by rw [en]; unfold inR; omega, ?_⟩) | refine (.inl ⟨by unfold inR; omega, ?_⟩) | refine ⟨_, hr, ?_⟩ | refine (hr).use ?_ | refine apn_own ?_ | refine bsn_data ?_ | refine fro_nil ?_ | refine cfo_old ?_ | ((first | refine .inl (And.intro ?_ ?_) | refine And.intro ?_ ?_); focus ((repeat' apply And.intro) <;> first | rfl | omega | (unfold inR; omega) | (simp; done) | (unfold inR; simp at *; omega) | (simp at *; omega) | (intros; contradiction))) | refine sp_t (by first | (simp; done) | (simp; omega) | (simp at *; omega) | (exact beq_eq_false_iff_ne.2 (by (try dsimp only); omega)) | (exact beq_iff_eq.2 (by (try dsimp only); omega))) ?_ | refine sp_f (by first | (simp; done) | (simp; omega) | (simp at *; omega) | (exact beq_eq_false_iff_ne.2 (by (try dsimp only); omega)) | (exact beq_iff_eq.2 (by (try dsimp only); omega))) ?_ | fail)
    | false =>
      refine s6 (keep := false) rfl ?_
      repeat' ((conv => whnf); first | exact And.intro rfl rfl | refine And.intro (?_ : _ = Out.ret _) rfl | intro _ | refine And.intro rfl ?_ | refine ⟨_, examples15, ?_⟩ | refine (examples15).use ?_ | refine (And.intro (by decide) ?_) | refine (.inl ⟨by rw [en]; unfold inR; omega, ?_⟩) | refine (.inl ⟨by unfold inR; omega, ?_⟩) | refine ⟨_, hr, ?_⟩ | refine (hr).use ?_ | refine apn_own ?_ | refine bsn_data ?_ | refine fro_nil ?_ | refine cfo_old ?_ | ((first | refine .inl (And.intro ?_ ?_) | refine And.intro ?_ ?_); focus ((repeat' apply And.intro) <;> first | rfl | omega | (unfold inR; omega) | (simp; done) | (unfold inR; simp at *; omega) | (simp at *; omega) | (intros; contradiction))) | refine sp_t (by first | (simp; done) | (simp; omega) | (simp at *; omega) | (exact beq_eq_false_iff_ne.2 (by (try dsimp only); omega)) | (exact beq_iff_eq.2 (by (try dsimp only); omega))) ?_ | refine sp_f (by first | (simp; done) | (simp; omega) | (simp at *; omega) | (exact beq_eq_false_iff_ne.2 (by (try dsimp only); omega)) | (exact beq_iff_eq.2 (by (try dsimp only); omega))) ?_ | fail)

set_option maxRecDepth 100000 in
set_option maxHeartbeats 4000000 in
theorem wrong6_7 (p a : Int) (d : Bool) (en : p.tmod 9 = 7) (ha : 0 ≤ a ∧ a ≤ 65535) : SatP Tryz.prog 6 [.d (.int .u8 p), .d (.int .u16 a), .d (.bool d)] (.d (.bool true)) := by
  by_cases hk : a < 2
  · obtain ⟨x, y, z, hr, hd⟩ := wOk (wIn7 ha.1 hk d)
    cases d with
    | true =>
      obtain ⟨rfl, rfl, rfl⟩ := hd rfl
      refine s6 (keep := false) rfl ?_
      repeat' ((conv => whnf); first | exact And.intro rfl rfl | refine And.intro (?_ : _ = Out.ret _) rfl | intro _ | refine And.intro rfl ?_ | refine ⟨_, examples15, ?_⟩ | refine (examples15).use ?_ | refine (And.intro (by decide) ?_) | refine (.inl ⟨by rw [en]; unfold inR; omega, ?_⟩) | refine (.inl ⟨by unfold inR; omega, ?_⟩) | refine ⟨_, hr, ?_⟩ | refine (hr).use ?_ | refine apn_own ?_ | refine bsn_data ?_ | refine fro_nil ?_ | refine cfo_old ?_ | ((first | refine .inl (And.intro ?_ ?_) | refine And.intro ?_ ?_); focus ((repeat' apply And.intro) <;> first | rfl | omega | (unfold inR; omega) | (simp; done) | (unfold inR; simp at *; omega) | (simp at *; omega) | (intros; contradiction))) | refine sp_t (by first | (simp; done) | (simp; omega) | (simp at *; omega) | (exact beq_eq_false_iff_ne.2 (by (try dsimp only); omega)) | (exact beq_iff_eq.2 (by (try dsimp only); omega))) ?_ | refine sp_f (by first | (simp; done) | (simp; omega) | (simp at *; omega) | (exact beq_eq_false_iff_ne.2 (by (try dsimp only); omega)) | (exact beq_iff_eq.2 (by (try dsimp only); omega))) ?_ | fail)
    | false =>
      refine s6 (keep := false) rfl ?_
      repeat' ((conv => whnf); first | exact And.intro rfl rfl | refine And.intro (?_ : _ = Out.ret _) rfl | intro _ | refine And.intro rfl ?_ | refine ⟨_, examples15, ?_⟩ | refine (examples15).use ?_ | refine (And.intro (by decide) ?_) | refine (.inl ⟨by rw [en]; unfold inR; omega, ?_⟩) | refine (.inl ⟨by unfold inR; omega, ?_⟩) | refine ⟨_, hr, ?_⟩ | refine (hr).use ?_ | refine apn_own ?_ | refine bsn_data ?_ | refine fro_nil ?_ | refine cfo_old ?_ | ((first | refine .inl (And.intro ?_ ?_) | refine And.intro ?_ ?_); focus ((repeat' apply And.intro) <;> first | rfl | omega | (unfold inR; omega) | (simp; done) | (unfold inR; simp at *; omega) | (simp at *; omega) | (intros; contradiction))) | refine sp_t (by first | (simp; done) | (simp; omega) | (simp at *; omega) | (exact beq_eq_false_iff_ne.2 (by (try dsimp only); omega)) | (exact beq_iff_eq.2 (by (try dsimp only); omega))) ?_ | refine sp_f (by first | (simp; done) | (simp; omega) | (simp at *; omega) | (exact beq_eq_false_iff_ne.2 (by (try dsimp only); omega)) | (exact beq_iff_eq.2 (by (try dsimp only); omega))) ?_ | fail)
  · have hr := wErr7 ha hk d
    cases d with
    | true =>
      refine s6 (keep := false) rfl ?_
      repeat' ((conv => whnf); first | exact And.intro rfl rfl | refine And.intro (?_ : _ = Out.ret _) rfl | intro _ | refine And.intro rfl ?_ | refine ⟨_, examples15, ?_⟩ | refine (examples15).use ?_ | refine (And.intro (by decide) ?_) | refine (.inl ⟨by rw [en]; unfold inR; omega, ?_⟩) | refine (.inl ⟨by unfold inR; omega, ?_⟩) | refine ⟨_, hr, ?_⟩ | refine (hr).use ?_ | refine apn_own ?_ | refine bsn_data ?_ | refine fro_nil ?_ | refine cfo_old ?_ | ((first | refine .inl (And.intro ?_ ?_) | refine And.intro ?_ ?_); focus ((repeat' apply And.intro) <;> first | rfl | omega | (unfold inR; omega) | (simp; done) | (unfold inR; simp at *; omega) | (simp at *; omega) | (intros; contradiction))) | refine sp_t (by first | (simp; done) | (simp; omega) | (simp at *; omega) | (exact beq_eq_false_iff_ne.2 (by (try dsimp only); omega)) | (exact beq_iff_eq.2 (by (try dsimp only); omega))) ?_ | refine sp_f (by first | (simp; done) | (simp; omega) | (simp at *; omega) | (exact beq_eq_false_iff_ne.2 (by (try dsimp only); omega)) | (exact beq_iff_eq.2 (by (try dsimp only); omega))) ?_ | fail)
    | false =>
      refine s6 (keep := false) rfl ?_
      repeat' ((conv => whnf); first | exact And.intro rfl rfl | refine And.intro (?_ : _ = Out.ret _) rfl | intro _ | refine And.intro rfl ?_ | refine ⟨_, examples15, ?_⟩ | refine (examples15).use ?_ | refine (And.intro (by decide) ?_) | refine (.inl ⟨by rw [en]; unfold inR; omega, ?_⟩) | refine (.inl ⟨by unfold inR; omega, ?_⟩) | refine ⟨_, hr, ?_⟩ | refine (hr).use ?_ | refine apn_own ?_ | refine bsn_data ?_ | refine fro_nil ?_ | refine cfo_old ?_ | ((first | refine .inl (And.intro ?_ ?_) | refine And.intro ?_ ?_); focus ((repeat' apply And.intro) <;> first | rfl | omega | (unfold inR; omega) | (simp; done) | (unfold inR; simp at *; omega) | (simp at *; omega) | (intros; contradiction))) | refine sp_t (by first | (simp; done) | (simp; omega) | (simp at *; omega) | (exact beq_eq_false_iff_ne.2 (by (try dsimp only); omega)) | (exact beq_iff_eq.2 (by (try dsimp only); omega))) ?_ | refine sp_f (by first | (simp; done) | (simp; omega) | (simp at *; omega) | (exact beq_eq_false_iff_ne.2 (by (try dsimp only); omega)) | (exact beq_iff_eq.2 (by (try dsimp only); omega))) ?_ | fail)

set_option maxRecDepth 100000 in
set_option maxHeartbeats 4000000 in
theorem wrong6_8 (p a : Int) (d : Bool) (en : p.tmod 9 = 8) (ha : 0 ≤ a ∧ a ≤ 65535) : SatP Tryz.prog 6 [.d (.int .u8 p), .d (.int .u16 a), .d (.bool d)] (.d (.bool true)) := by
  by_cases hk : a < 64
  · obtain ⟨x, y, z, hr, hd⟩ := wOk (wIn8 ha.1 hk d)
    cases d with
    | true =>
      obtain ⟨rfl, rfl, rfl⟩ := hd rfl
      refine s6 (keep := false) rfl ?_
      repeat' ((conv => whnf); first | exact And.intro rfl rfl | refine And.intro (?_ : _ = Out.ret _) rfl | intro _ | refine And.intro rfl ?_ | refine ⟨_, examples15, ?_⟩ | refine (examples15).use ?_ | refine (And.intro (by decide) ?_) | refine (.inl ⟨by rw [en]; unfold inR; omega, ?_⟩) | refine (.inl ⟨by unfold inR; omega, ?_⟩) | refine ⟨_, hr, ?_⟩ | refine (hr).use ?_ | refine apn_own ?_ | refine bsn_data ?_ | refine fro_nil ?_ | refine cfo_old ?_ | ((first | refine .inl (And.intro ?_ ?_) | refine And.intro ?_ ?_); focus ((repeat' apply And.intro) <;> first | rfl | omega | (unfold inR; omega) | (simp; done) | (unfold inR; simp at *; omega) | (simp at *; omega) | (intros; contradiction))) | refine sp_t (by first | (simp; done) | (simp; omega) | (simp at *; omega) | (exact beq_eq_false_iff_ne.2 (by (try dsimp only); omega)) | (exact beq_iff_eq.2 (by (try dsimp only); omega))) ?_ | refine sp_f (by first | (simp; done) | (simp; omega) | (simp at *; omega) | (exact beq_eq_false_iff_ne.2 (by (try dsimp only); omega)) | (exact beq_iff_eq.2 (by (try dsimp only); omega))) ?_ | fail)
    | false =>
      refine s6 (keep := false) rfl ?_
      repeat' ((conv => whnf); first | exact And.intro rfl rfl | refine And.intro (?_ : _ = Out.ret _) rfl | intro _ | refine And.intro rfl ?_ | refine ⟨_, examples15, ?_⟩ | refine (examples15).use ?_ | refine (And.intro (by decide) ?_) | refine (.inl ⟨by rw [en]; unfold inR; omega, ?_⟩) | refine (.inl ⟨by unfold inR; omega, ?_⟩) | refine ⟨_, hr, ?_⟩ | refine (hr).use ?_ | refine apn_own ?_ | refine bsn_data ?_ | refine fro_nil ?_ | refine cfo_old ?_ | ((first | refine .inl (And.intro ?_ ?_) | refine And.intro ?_ ?_); focus ((repeat' apply And.intro) <;> first | rfl | omega | (unfold inR; omega) | (simp; done) | (unfold inR; simp at *; omega) | (simp at *; omega) | (intros; contradiction))) | refine sp_t (by first | (simp; done) | (simp; omega) | (simp at *; omega) | (exact beq_eq_false_iff_ne.2 (by (try dsimp only); omega)) | (exact beq_iff_eq.2 (by (try dsimp only); omega))) ?_ | refine sp_f (by first | (simp; done) | (simp; omega) | (simp at *; omega) | (exact beq_eq_false_iff_ne.2 (by (try dsimp only); omega)) | (exact beq_iff_eq.2 (by (try dsimp only); omega))) ?_ | fail)
  · have hr := wErr8 ha hk d
    cases d with
    | true =>
      refine s6 (keep := false) rfl ?_
      repeat' ((conv => whnf); first | exact And.intro rfl rfl | refine And.intro (?_ : _ = Out.ret _) rfl | intro _ | refine And.intro rfl ?_ | refine ⟨_, examples15, ?_⟩ | refine (examples15).use ?_ | refine (And.intro (by decide) ?_) | refine (.inl ⟨by rw [en]; unfold inR; omega, ?_⟩) | refine (.inl ⟨by unfold inR; omega, ?_⟩) | refine ⟨_, hr, ?_⟩ | refine (hr).use ?_ | refine apn_own ?_ | refine bsn_data ?_ | refine fro_nil ?_ | refine cfo_old ?_ | ((first | refine .inl (And.intro ?_ ?_) | refine And.intro ?_ ?_); focus ((repeat' apply And.intro) <;> first | rfl | omega | (unfold inR; omega) | (simp; done) | (unfold inR; simp at *; omega) | (simp at *; omega) | (intros; contradiction))) | refine sp_t (by first | (simp; done) | (simp; omega) | (simp at *; omega) | (exact beq_eq_false_iff_ne.2 (by (try dsimp only); omega)) | (exact beq_iff_eq.2 (by (try dsimp only); omega))) ?_ | refine sp_f (by first | (simp; done) | (simp; omega) | (simp at *; omega) | (exact beq_eq_false_iff_ne.2 (by (try dsimp only); omega)) | (exact beq_iff_eq.2 (by (try dsimp only); omega))) ?_ | fail)
    | false =>
      refine s6 (keep := false) rfl ?_
      repeat' ((conv => whnf); first | exact And.intro rfl rfl | refine And.intro (?_ : _ = Out.ret _) rfl | intro _ | refine And.intro rfl ?_ | refine ⟨_, examples15, ?_⟩ | refine (examples15).use ?_ | refine (And.intro (by decide) ?_) | refine (.inl ⟨by rw [en]; unfold inR; omega, ?_⟩) | refine (.inl ⟨by unfold inR; omega, ?_⟩) | refine ⟨_, hr, ?_⟩ | refine (hr).use ?_ | refine apn_own ?_ | refine bsn_data ?_ | refine fro_nil ?_ | refine cfo_old ?_ | ((first | refine .inl (And.intro ?_ ?_) | refine And.intro ?_ ?_); focus ((repeat' apply And.intro) <;> first | rfl | omega | (unfold inR; omega) | (simp; done) | (unfold inR; simp at *; omega) | (simp at *; omega) | (intros; contradiction))) | refine sp_t (by first | (simp; done) | (simp; omega) | (simp at *; omega) | (exact beq_eq_false_iff_ne.2 (by (try dsimp only); omega)) | (exact beq_iff_eq.2 (by (try dsimp only); omega))) ?_ | refine sp_f (by first | (simp; done) | (simp; omega) | (simp at *; omega) | (exact beq_eq_false_iff_ne.2 (by (try dsimp only); omega)) | (exact beq_iff_eq.2 (by (try dsimp only); omega))) ?_ | fail)

theorem wrong6 (p a : Int) (d : Bool) (hp : 0 ≤ p ∧ p ≤ 255) (ha : 0 ≤ a ∧ a ≤ 65535) : SatP Tryz.prog 6 [.d (.int .u8 p), .d (.int .u16 a), .d (.bool d)] (.d (.bool true)) := by
  obtain ⟨n, en, hn⟩ := modN hp 9 (by decide)
  replace en : p.tmod 9 = (n : Int) := en
  match n, hn, en with
  | 0, _, en => exact wrong6_0 p a d en ha
  | 1, _, en => exact wrong6_1 p a d en ha
  | 2, _, en => exact wrong6_2 p a d en ha
  | 3, _, en => exact wrong6_3 p a d en ha
  | 4, _, en => exact wrong6_4 p a d en ha
  | 5, _, en => exact wrong6_5 p a d en ha
  | 6, _, en => exact wrong6_6 p a d en ha
  | 7, _, en => exact wrong6_7 p a d en ha
  | 8, _, en => exact wrong6_8 p a d en ha
end Go.Proofs.YtoibcfioicdlhaaGreatDoor
