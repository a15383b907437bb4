/- The chapter's own examples, in the picture. Conditions: none. -/
import Derived.Test.YtoibcfioicdlhaaGreatDoorV6
namespace Go.Proofs.YtoibcfioicdlhaaGreatDoor
open Go.Vx

theorem okIm1 {f : Fn} (h : okFn f = true) : OkIm ⟨[num 0], [f]⟩ :=
  ⟨by simp, fun v hv => by
    obtain rfl : v = num 0 := by simpa using hv
    exact ⟨.inl rfl, right78I 0⟩, by simp, by simp, fun g hg => by
    obtain rfl : g = f := by simpa using hg
    exact h⟩
def code1 (n : Int) (l : List Op) : Im := ⟨[num 0], [⟨n, 0, l⟩]⟩
theorem code29 (n : Int) (l : List Op) : SatP Tryz.prog 29 [.d (.int .i64 n), .d (.sl 2 (l.map encO))] (agI (code1 n l)) := by
  refine s29 (keep := false) rfl ?_
  repeat' ((conv => whnf); first | exact And.intro rfl rfl | refine And.intro (?_ : _ = Out.ret _) rfl | intro _ | refine And.intro rfl ?_ | refine apn_own ?_ | refine bsn_data ?_ | refine fro_nil ?_ | refine cfo_old ?_ | ((first | refine .inl (And.intro ?_ ?_) | refine And.intro ?_ ?_); focus ((repeat' apply And.intro) <;> first | rfl | omega | (unfold inR; omega) | (simp; done) | (unfold inR; simp at *; omega) | (simp at *; omega) | (intros; contradiction))) | fail)
theorem told30 (im : Im) (a b c : Int) (hc : SatP Tryz.prog 17 [agI im] (agR3 (a, b, c))) : SatP Tryz.prog 30 [agI im, .d (.int .i64 a), .d (.int .i64 b), .d (.int .i64 c)] (.d (.bool true)) := by
  have ha : (a == a) = true := by simp
  have hb : (b == b) = true := by simp
  have hcc : (c == c) = true := by simp
  refine s30 (keep := false) rfl ?_
  repeat' ((conv => whnf); first | exact And.intro rfl rfl | refine And.intro (?_ : _ = Out.ret _) rfl | intro _ | refine And.intro rfl ?_ | refine ⟨_, hc, ?_⟩ | refine (hc).use ?_ | refine (sp_t ha ?_) | refine (sp_t hb ?_) | refine apn_own ?_ | refine bsn_data ?_ | refine fro_nil ?_ | refine cfo_old ?_ | ((first | refine .inl (And.intro ?_ ?_) | refine And.intro ?_ ?_); focus ((repeat' apply And.intro) <;> first | rfl | omega | (unfold inR; omega) | (simp; done) | (unfold inR; simp at *; omega) | (simp at *; omega) | (intros; contradiction))) | fail)
  exact outs_eq (congrArg (fun x => V.d (.bool x)) hcc)
def tell (n : Int) (l : List Op) (r : Int × Int × Int) : Prop := okFn ⟨n, 0, l⟩ = true ∧ checkV (code1 n l) 99 [⟨n, 0, l⟩] 0 = some r
theorem tell17 {n : Int} {l : List Op} {r : Int × Int × Int} (h : tell n l r) : SatP Tryz.prog 17 [agI (code1 n l)] (agR3 r) := check17 _ (okIm1 h.1) 99 r h.2
theorem tell30 {n : Int} {l : List Op} {a b c : Int} (h : tell n l (a, b, c)) : SatP Tryz.prog 30 [agI (code1 n l), .d (.int .i64 a), .d (.int .i64 b), .d (.int .i64 c)] (.d (.bool true)) := told30 _ a b c (tell17 h)
def good : List Op := [⟨1, 0⟩, ⟨5, 0⟩, ⟨7, 0⟩, ⟨18, 0⟩, ⟨4, 0⟩]
def goodS : Sn := [(0, 0, 0), (1, 1, 0), (2, 2, 0), (3, 1, 0)]
theorem good_trace : traceV (code1 0 good) ⟨0, 0, good⟩ 99 = some (.ok goodS) := by kernel_rfl
theorem tell0 : tell 0 good (0, 0, 0) := ⟨by kernel_rfl, by kernel_rfl⟩
theorem tell1 : tell 0 [⟨4, 0⟩] (0, 0, 8) := ⟨by kernel_rfl, by kernel_rfl⟩
theorem tell2 : tell 0 [⟨1, 0⟩] (0, 0, 9) := ⟨by kernel_rfl, by kernel_rfl⟩
theorem tell3 : tell 0 [⟨1, 0⟩, ⟨15, 0⟩] (0, 1, 8) := ⟨by kernel_rfl, by kernel_rfl⟩
theorem tell4 : tell 0 [⟨1, 0⟩, ⟨2, 0⟩, ⟨18, 0⟩] (0, 1, 1) := ⟨by kernel_rfl, by kernel_rfl⟩
theorem tell5 : tell 0 [⟨21, 0⟩, ⟨1, 0⟩, ⟨18, 0⟩] (0, 0, 11) := ⟨by kernel_rfl, by kernel_rfl⟩
theorem depths_good : SatP Tryz.prog 18 [agI (code1 0 good), .d (.int .i64 0)] (.d (.sl 1 [[.int .i64 0], [.int .i64 1], [.int .i64 2], [.int .i64 1], [.int .i64 (-1)]])) :=
  depths18 (code1 0 good) (okIm1 tell0.1) 99 0 ⟨0, 0, good⟩ rfl tell0.2 goodS good_trace (by decide) (by decide)

set_option maxRecDepth 100000 in
set_option maxHeartbeats 4000000 in
theorem examples15 : SatP Tryz.prog 15 [] (.d (.bool true)) := by
  refine s15 (keep := false) rfl ?_
  repeat' ((conv => whnf); first | exact And.intro rfl rfl | refine And.intro (?_ : _ = Out.ret _) rfl | intro _ | refine And.intro rfl ?_ | refine ⟨_, code29 0 good, ?_⟩ | refine (code29 0 good).use ?_ | refine ⟨_, depths_good, ?_⟩ | refine (depths_good).use ?_ | refine ⟨_, tell30 tell0, ?_⟩ | refine (tell30 tell0).use ?_ | refine ⟨_, code29 0 [⟨4, 0⟩], ?_⟩ | refine (code29 0 [⟨4, 0⟩]).use ?_ | refine ⟨_, tell30 tell1, ?_⟩ | refine (tell30 tell1).use ?_ | refine ⟨_, code29 0 [⟨1, 0⟩], ?_⟩ | refine (code29 0 [⟨1, 0⟩]).use ?_ | refine ⟨_, tell30 tell2, ?_⟩ | refine (tell30 tell2).use ?_ | refine ⟨_, code29 0 [⟨1, 0⟩, ⟨15, 0⟩], ?_⟩ | refine (code29 0 [⟨1, 0⟩, ⟨15, 0⟩]).use ?_ | refine ⟨_, tell30 tell3, ?_⟩ | refine (tell30 tell3).use ?_ | refine ⟨_, code29 0 [⟨1, 0⟩, ⟨2, 0⟩, ⟨18, 0⟩], ?_⟩ | refine (code29 0 [⟨1, 0⟩, ⟨2, 0⟩, ⟨18, 0⟩]).use ?_ | refine ⟨_, tell30 tell4, ?_⟩ | refine (tell30 tell4).use ?_ | refine ⟨_, code29 0 [⟨21, 0⟩, ⟨1, 0⟩, ⟨18, 0⟩], ?_⟩ | refine (code29 0 [⟨21, 0⟩, ⟨1, 0⟩, ⟨18, 0⟩]).use ?_ | refine ⟨_, tell30 tell5, ?_⟩ | refine (tell30 tell5).use ?_ | refine ⟨_, told30 ⟨[], []⟩ 0 0 6 check17E, ?_⟩ | refine (told30 ⟨[], []⟩ 0 0 6 check17E).use ?_ | refine apn_own ?_ | refine bsn_data ?_ | refine fro_nil ?_ | refine cfo_old ?_ | ((first | refine .inl (And.intro ?_ ?_) | refine And.intro ?_ ?_); focus ((repeat' apply And.intro) <;> first | rfl | omega | (unfold inR; omega) | (simp; done) | (unfold inR; simp at *; omega) | (simp at *; omega) | (intros; contradiction))) | refine ⟨_, ⟨by decide, rfl, rfl⟩, ?_⟩ | refine ⟨_, rfl, ?_⟩ | fail)
theorem modN {p : Int} (h : 0 ≤ p ∧ p ≤ 255) (k : Nat) (hk : 0 < k) : ∃ n : Nat, p.tmod k = n ∧ n < k := by
  refine ⟨p.toNat % k, ?_, Nat.mod_lt _ hk⟩
  have e : p = (p.toNat : Int) := (Int.toNat_of_nonneg h.1).symm
  rw [e, ← Int.ofNat_tmod]
  simp

theorem rep_succ (i : Nat) (o : Op) (t : List Op) : (t ++ List.replicate i o).map encO ++ [encO o] = (t ++ List.replicate (i + 1) o).map encO := by
  rw [List.replicate_succ']
  simp

end Go.Proofs.YtoibcfioicdlhaaGreatDoor
