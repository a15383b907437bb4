/- verify's helpers in the picture: what must be so; programs that image.Check lets pass. Conditions: none. -/
import Derived.Test.YtoibcfioicdlhaaGreatDoorKB
import Derived.Test.YtoibcfioicdlhaaGreatDoorCv
import Derived.Test.YtoibcfioicdlhaaGreatDoorKy
import Derived.KernelRfl
namespace Go.Proofs.YtoibcfioicdlhaaGreatDoor
open Go.Vx

/-- A fault, as it is thrown. -/
def flt (a e : Int) : V := .fc 2000098 [.d (.int .i64 a), .d (.int .i64 e)]
theorem must_t {K : Out → H → Prop} (a e : Int) (hk : K (.ret (.tu [])) []) : Sat Tryz.prog 118 [.d (.bool true), .d (.int .i64 a), .d (.int .i64 e)] [] K := by
  refine s118 (keep := false) rfl ?_
  repeat' ((conv => whnf); first | exact And.intro rfl rfl | refine And.intro (?_ : _ = Out.ret _) rfl | intro _ | refine And.intro rfl ?_ | refine apn_own ?_ | refine bsn_data ?_ | refine fro_nil ?_ | refine cfo_old ?_ | ((first | refine .inl (And.intro ?_ ?_) | refine And.intro ?_ ?_); focus ((repeat' apply And.intro) <;> first | rfl | omega | (unfold inR; omega) | (simp; done) | (unfold inR; simp at *; omega) | (simp at *; omega) | (intros; contradiction))) | fail)
  exact hk
theorem must_f {K : Out → H → Prop} (a e : Int) (hk : K (.pan (flt a e)) []) : Sat Tryz.prog 118 [.d (.bool false), .d (.int .i64 a), .d (.int .i64 e)] [] K := by
  refine s118 (keep := false) rfl ?_
  repeat' ((conv => whnf); first | exact And.intro rfl rfl | refine And.intro (?_ : _ = Out.ret _) rfl | intro _ | refine And.intro rfl ?_ | refine apn_own ?_ | refine bsn_data ?_ | refine fro_nil ?_ | refine cfo_old ?_ | ((first | refine .inl (And.intro ?_ ?_) | refine And.intro ?_ ?_); focus ((repeat' apply And.intro) <;> first | rfl | omega | (unfold inR; omega) | (simp; done) | (unfold inR; simp at *; omega) | (simp at *; omega) | (intros; contradiction))) | fail)
  exact hk
theorem must118 {K : Out → H → Prop} (b : Bool) (a e : Int) (h1 : b = true → K (.ret (.tu [])) []) (h2 : b = false → K (.pan (flt a e)) []) : Sat Tryz.prog 118 [.d (.bool b), .d (.int .i64 a), .d (.int .i64 e)] [] K := by
  cases b with
  | false => exact must_f a e (h2 rfl)
  | true => exact must_t a e (h1 rfl)

/-- A number that is right. -/
theorem right78I (n : Int) : SatP Tryz.prog 78 [agV (num n)] (.d (.bool true)) := by
  refine s78 (keep := false) rfl ?_
  repeat' ((conv => whnf); first | exact And.intro rfl rfl | refine And.intro (?_ : _ = Out.ret _) rfl | intro _ | refine And.intro rfl ?_ | refine apn_own ?_ | refine bsn_data ?_ | refine fro_nil ?_ | refine cfo_old ?_ | ((first | refine .inl (And.intro ?_ ?_) | refine And.intro ?_ ?_); focus ((repeat' apply And.intro) <;> first | rfl | omega | (unfold inR; omega) | (simp; done) | (unfold inR; simp at *; omega) | (simp at *; omega) | (intros; contradiction))) | fail)
  refine outs_eq ?_
  show V.d (.bool ((1 == (1 : Int)) && ((n == n) && (([] == ([] : List UInt8)) && (([] == ([] : List UInt8)) && (([] == ([] : List UInt8)) && true)))))) = _
  simp

/-- A function that is right. -/
def okFn (f : Fn) : Bool := decide (0 ≤ f.args) && (decide (f.args ≤ 16) && (decide (0 ≤ f.vars) && (decide (f.vars ≤ 16) && (decide (f.args + f.vars ≤ 16) && (decide (0 < f.code.length) && (decide (f.code.length ≤ 256) && f.code.all rightB))))))
def agFn (f : Fn) : V := .ag [.d (.int .i64 f.args), .d (.int .i64 f.vars), .d (.sl 2 (f.code.map encO))]
theorem checkFun79 (f : Fn) (h : okFn f = true) : SatP Tryz.prog 79 [agFn f] (.d (.int .i64 0)) := by
  simp only [okFn, Bool.and_eq_true, decide_eq_true_eq, List.all_eq_true] at h
  obtain ⟨h1, h2, h3, h4, h5, h6, h7, h8⟩ := h
  refine s79 (keep := false) rfl ?_
  repeat' ((conv => whnf); first | exact And.intro rfl rfl | refine And.intro (?_ : _ = Out.ret _) rfl | intro _ | refine And.intro rfl ?_ | refine (.inl ⟨by unfold inR; omega, ?_⟩) | refine apn_own ?_ | refine bsn_data ?_ | refine fro_nil ?_ | refine cfo_old ?_ | ((first | refine .inl (And.intro ?_ ?_) | refine And.intro ?_ ?_); focus ((repeat' apply And.intro) <;> first | rfl | omega | (unfold inR; omega) | (simp; done) | (unfold inR; simp at *; omega) | (simp at *; omega) | (intros; contradiction))) | refine sp_t (by first | (simp; done) | (simp; omega) | (simp at *; omega) | exact beq_eq_false_iff_ne.2 (by omega) | exact beq_eq_false_iff_ne.2 (by simp only [List.length_map]; omega) | exact beq_iff_eq.2 (by simp only [List.length_map]; omega) | exact bne_iff_ne.2 (by simp only [List.length_map]; omega)) ?_ | refine sp_f (by first | (simp; done) | (simp; omega) | (simp at *; omega) | exact beq_eq_false_iff_ne.2 (by omega) | exact beq_eq_false_iff_ne.2 (by simp only [List.length_map]; omega) | exact beq_iff_eq.2 (by simp only [List.length_map]; omega) | exact bne_iff_ne.2 (by simp only [List.length_map]; omega)) ?_ | fail)
  conv => whnf
  refine loop_use2 [(38, .d (.sl 2 (f.code.map encO))), (39, .d (.int .i64 (f.code.map encO).length))] (fun i : Nat => i ≤ f.code.length) (fun i => [(40, .d (.int .i64 i))]) (fun _ => []) (fun i => f.code.length - i) 0 (Nat.zero_le _) ?_ ?_ ?_ (fun i hi => ?_)
  · exact (by repeat' (first | exact trivial | exact rfl | exact Or.inl rfl | refine And.intro ?_ ?_ | refine Or.inr ?_))
  · exact (by repeat' (first | exact trivial | exact rfl | exact Or.inl rfl | refine And.intro ?_ ?_ | refine Or.inr ?_))
  · exact rfl
  repeat' ((conv => whnf); first | exact And.intro rfl rfl | refine And.intro (?_ : _ = Out.ret _) rfl | intro _ | refine And.intro rfl ?_ | refine apn_own ?_ | refine bsn_data ?_ | refine fro_nil ?_ | refine cfo_old ?_ | ((first | refine .inl (And.intro ?_ ?_) | refine And.intro ?_ ?_); focus ((repeat' apply And.intro) <;> first | rfl | omega | (unfold inR; omega) | (simp; done) | (unfold inR; simp at *; omega) | (simp at *; omega) | (intros; contradiction))) | fail)
  refine sp_intro (fun hlt => ?_) (fun hge => ?_)
  · have hlt : i < f.code.length := by simpa using hlt
    obtain ⟨o, ho⟩ : ∃ o, f.code[i]? = some o := ⟨_, List.getElem?_eq_getElem hlt⟩
    have hro : rightB o = true := h8 o (List.mem_of_getElem? ho)
    have hri := right44 o
    rw [hro] at hri
    repeat' ((conv => whnf); first | exact And.intro rfl rfl | refine And.intro (?_ : _ = Out.ret _) rfl | intro _ | refine And.intro rfl ?_ | refine apn_own ?_ | refine bsn_data ?_ | refine fro_nil ?_ | refine cfo_old ?_ | ((first | refine .inl (And.intro ?_ ?_) | refine And.intro ?_ ?_); focus ((repeat' apply And.intro) <;> first | rfl | omega | (unfold inR; omega) | (simp; done) | (unfold inR; simp at *; omega) | (simp at *; omega) | (intros; contradiction))) | fail)
    refine ⟨encO o, ⟨by omega, by simp [ho], rfl⟩, ?_⟩
    repeat' ((conv => whnf); first | exact And.intro rfl rfl | refine And.intro (?_ : _ = Out.ret _) rfl | intro _ | refine And.intro rfl ?_ | refine ⟨_, hri, ?_⟩ | refine (hri).use ?_ | refine (.inl ⟨by unfold inR; omega, ?_⟩) | refine apn_own ?_ | refine bsn_data ?_ | refine fro_nil ?_ | refine cfo_old ?_ | ((first | refine .inl (And.intro ?_ ?_) | refine And.intro ?_ ?_); focus ((repeat' apply And.intro) <;> first | rfl | omega | (unfold inR; omega) | (simp; done) | (unfold inR; simp at *; omega) | (simp at *; omega) | (intros; contradiction))) | fail)
    refine ⟨i + 1, hlt, Nat.sub_lt_sub_left hlt (Nat.lt_succ_self i), (by repeat' (first | exact trivial | exact rfl | exact Or.inl rfl | refine And.intro ?_ ?_ | refine Or.inr ?_)), (by repeat' (first | exact trivial | exact rfl | exact Or.inl rfl | refine And.intro ?_ ?_ | refine Or.inr ?_)), rfl⟩
  · skip
    repeat' ((conv => whnf); first | exact And.intro rfl rfl | refine And.intro (?_ : _ = Out.ret _) rfl | intro _ | refine And.intro rfl ?_ | refine apn_own ?_ | refine bsn_data ?_ | refine fro_nil ?_ | refine cfo_old ?_ | ((first | refine .inl (And.intro ?_ ?_) | refine And.intro ?_ ?_); focus ((repeat' apply And.intro) <;> first | rfl | omega | (unfold inR; omega) | (simp; done) | (unfold inR; simp at *; omega) | (simp at *; omega) | (intros; contradiction))) | fail)

def okC1 (v : Va) : Prop := (v.k = 1 ∨ v.k = 2) ∧ SatP Tryz.prog 78 [agV v] (.d (.bool true))
/-- A program that is right. -/
structure OkIm (im : Im) : Prop where
  c1 : im.cs.length ≤ 64
  c2 : ∀ v ∈ im.cs, okC1 v
  f1 : 0 < im.fs.length
  f2 : im.fs.length ≤ 16
  f3 : ∀ f ∈ im.fs, okFn f = true
theorem check35 (im : Im) (h : OkIm im) : SatP Tryz.prog 35 [agI im] (.d (.int .i64 0)) := by
  obtain ⟨h1, h2, h3, h4, h5⟩ := h
  refine s35 (keep := false) rfl ?_
  repeat' ((conv => whnf); first | exact And.intro rfl rfl | refine And.intro (?_ : _ = Out.ret _) rfl | intro _ | refine And.intro rfl ?_ | refine apn_own ?_ | refine bsn_data ?_ | refine fro_nil ?_ | refine cfo_old ?_ | ((first | refine .inl (And.intro ?_ ?_) | refine And.intro ?_ ?_); focus ((repeat' apply And.intro) <;> first | rfl | omega | (unfold inR; omega) | (simp; done) | (unfold inR; simp at *; omega) | (simp at *; omega) | (intros; contradiction))) | refine sp_t (by first | (simp; done) | (simp; omega) | (simp at *; omega) | exact beq_eq_false_iff_ne.2 (by omega) | exact beq_eq_false_iff_ne.2 (by simp only [List.length_map]; omega) | exact beq_iff_eq.2 (by simp only [List.length_map]; omega) | exact bne_iff_ne.2 (by simp only [List.length_map]; omega)) ?_ | refine sp_f (by first | (simp; done) | (simp; omega) | (simp at *; omega) | exact beq_eq_false_iff_ne.2 (by omega) | exact beq_eq_false_iff_ne.2 (by simp only [List.length_map]; omega) | exact beq_iff_eq.2 (by simp only [List.length_map]; omega) | exact bne_iff_ne.2 (by simp only [List.length_map]; omega)) ?_ | fail)
  conv => whnf
  refine loop_use2 [(1, .p 0 0), (19, .d (.sl 5 (im.cs.map encV))), (20, .d (.int .i64 (im.cs.map encV).length))] (fun i : Nat => i ≤ im.cs.length) (fun i => [(21, .d (.int .i64 i))]) (fun _ => [.cells [.d (.sl 5 (im.cs.map encV)), .d (.sl 3 (im.fs.map encFn))]]) (fun i => im.cs.length - i) 0 (Nat.zero_le _) ?_ ?_ ?_ (fun i hi => ?_)
  · exact (by repeat' (first | exact trivial | exact rfl | exact Or.inl rfl | refine And.intro ?_ ?_ | refine Or.inr ?_))
  · exact (by repeat' (first | exact trivial | exact rfl | exact Or.inl rfl | refine And.intro ?_ ?_ | refine Or.inr ?_))
  · exact rfl
  repeat' ((conv => whnf); first | exact And.intro rfl rfl | refine And.intro (?_ : _ = Out.ret _) rfl | intro _ | refine And.intro rfl ?_ | refine apn_own ?_ | refine bsn_data ?_ | refine fro_nil ?_ | refine cfo_old ?_ | ((first | refine .inl (And.intro ?_ ?_) | refine And.intro ?_ ?_); focus ((repeat' apply And.intro) <;> first | rfl | omega | (unfold inR; omega) | (simp; done) | (unfold inR; simp at *; omega) | (simp at *; omega) | (intros; contradiction))) | fail)
  refine sp_intro (fun hlt => ?_) (fun hge => ?_)
  · have hlt : i < im.cs.length := by simpa using hlt
    obtain ⟨v, hv⟩ : ∃ v, im.cs[i]? = some v := ⟨_, List.getElem?_eq_getElem hlt⟩
    obtain ⟨hk, hs⟩ := h2 v (List.mem_of_getElem? hv)
    repeat' ((conv => whnf); first | exact And.intro rfl rfl | refine And.intro (?_ : _ = Out.ret _) rfl | intro _ | refine And.intro rfl ?_ | refine apn_own ?_ | refine bsn_data ?_ | refine fro_nil ?_ | refine cfo_old ?_ | ((first | refine .inl (And.intro ?_ ?_) | refine And.intro ?_ ?_); focus ((repeat' apply And.intro) <;> first | rfl | omega | (unfold inR; omega) | (simp; done) | (unfold inR; simp at *; omega) | (simp at *; omega) | (intros; contradiction))) | fail)
    refine ⟨encV v, ⟨by omega, by simp [hv], rfl⟩, ?_⟩
    rcases hk with hk | hk
    · have e1 : (v.k != 1) = false := by simp [hk]
      repeat' ((conv => whnf); first | exact And.intro rfl rfl | refine And.intro (?_ : _ = Out.ret _) rfl | intro _ | refine And.intro rfl ?_ | refine ⟨_, hs, ?_⟩ | refine (hs).use ?_ | refine (.inl ⟨by unfold inR; omega, ?_⟩) | refine (sp_f e1 ?_) | refine apn_own ?_ | refine bsn_data ?_ | refine fro_nil ?_ | refine cfo_old ?_ | ((first | refine .inl (And.intro ?_ ?_) | refine And.intro ?_ ?_); focus ((repeat' apply And.intro) <;> first | rfl | omega | (unfold inR; omega) | (simp; done) | (unfold inR; simp at *; omega) | (simp at *; omega) | (intros; contradiction))) | fail)
      refine ⟨i + 1, hlt, Nat.sub_lt_sub_left hlt (Nat.lt_succ_self i), (by repeat' (first | exact trivial | exact rfl | exact Or.inl rfl | refine And.intro ?_ ?_ | refine Or.inr ?_)), (by repeat' (first | exact trivial | exact rfl | exact Or.inl rfl | refine And.intro ?_ ?_ | refine Or.inr ?_)), rfl⟩
    · have e1 : (v.k != 1) = true := by simp [hk]
      have e2 : (v.k != 2) = false := by simp [hk]
      repeat' ((conv => whnf); first | exact And.intro rfl rfl | refine And.intro (?_ : _ = Out.ret _) rfl | intro _ | refine And.intro rfl ?_ | refine ⟨_, hs, ?_⟩ | refine (hs).use ?_ | refine (.inl ⟨by unfold inR; omega, ?_⟩) | refine (sp_t e1 ?_) | refine (sp_f e2 ?_) | refine apn_own ?_ | refine bsn_data ?_ | refine fro_nil ?_ | refine cfo_old ?_ | ((first | refine .inl (And.intro ?_ ?_) | refine And.intro ?_ ?_); focus ((repeat' apply And.intro) <;> first | rfl | omega | (unfold inR; omega) | (simp; done) | (unfold inR; simp at *; omega) | (simp at *; omega) | (intros; contradiction))) | fail)
      refine ⟨i + 1, hlt, Nat.sub_lt_sub_left hlt (Nat.lt_succ_self i), (by repeat' (first | exact trivial | exact rfl | exact Or.inl rfl | refine And.intro ?_ ?_ | refine Or.inr ?_)), (by repeat' (first | exact trivial | exact rfl | exact Or.inl rfl | refine And.intro ?_ ?_ | refine Or.inr ?_)), rfl⟩
  · skip
    repeat' ((conv => whnf); first | exact And.intro rfl rfl | refine And.intro (?_ : _ = Out.ret _) rfl | intro _ | refine And.intro rfl ?_ | refine apn_own ?_ | refine bsn_data ?_ | refine fro_nil ?_ | refine cfo_old ?_ | ((first | refine .inl (And.intro ?_ ?_) | refine And.intro ?_ ?_); focus ((repeat' apply And.intro) <;> first | rfl | omega | (unfold inR; omega) | (simp; done) | (unfold inR; simp at *; omega) | (simp at *; omega) | (intros; contradiction))) | refine sp_t (by first | (simp; done) | (simp; omega) | (simp at *; omega) | exact beq_eq_false_iff_ne.2 (by omega) | exact beq_eq_false_iff_ne.2 (by simp only [List.length_map]; omega) | exact beq_iff_eq.2 (by simp only [List.length_map]; omega) | exact bne_iff_ne.2 (by simp only [List.length_map]; omega)) ?_ | refine sp_f (by first | (simp; done) | (simp; omega) | (simp at *; omega) | exact beq_eq_false_iff_ne.2 (by omega) | exact beq_eq_false_iff_ne.2 (by simp only [List.length_map]; omega) | exact beq_iff_eq.2 (by simp only [List.length_map]; omega) | exact bne_iff_ne.2 (by simp only [List.length_map]; omega)) ?_ | fail)
    conv => whnf
    refine loop_use2 [(1, .p 0 0), (44, .d (.sl 3 (im.fs.map encFn))), (45, .d (.int .i64 (im.fs.map encFn).length))] (fun i : Nat => i ≤ im.fs.length) (fun i => [(46, .d (.int .i64 i))]) (fun _ => [.cells [.d (.sl 5 (im.cs.map encV)), .d (.sl 3 (im.fs.map encFn))]]) (fun i => im.fs.length - i) 0 (Nat.zero_le _) ?_ ?_ ?_ (fun j hj => ?_)
    · exact (by repeat' (first | exact trivial | exact rfl | exact Or.inl rfl | refine And.intro ?_ ?_ | refine Or.inr ?_))
    · exact (by repeat' (first | exact trivial | exact rfl | exact Or.inl rfl | refine And.intro ?_ ?_ | refine Or.inr ?_))
    · exact rfl
    repeat' ((conv => whnf); first | exact And.intro rfl rfl | refine And.intro (?_ : _ = Out.ret _) rfl | intro _ | refine And.intro rfl ?_ | refine apn_own ?_ | refine bsn_data ?_ | refine fro_nil ?_ | refine cfo_old ?_ | ((first | refine .inl (And.intro ?_ ?_) | refine And.intro ?_ ?_); focus ((repeat' apply And.intro) <;> first | rfl | omega | (unfold inR; omega) | (simp; done) | (unfold inR; simp at *; omega) | (simp at *; omega) | (intros; contradiction))) | fail)
    refine sp_intro (fun hlt => ?_) (fun hge => ?_)
    · have hlt : j < im.fs.length := by simpa using hlt
      obtain ⟨f, hf⟩ : ∃ f, im.fs[j]? = some f := ⟨_, List.getElem?_eq_getElem hlt⟩
      have hs := checkFun79 f (h5 f (List.mem_of_getElem? hf))
      repeat' ((conv => whnf); first | exact And.intro rfl rfl | refine And.intro (?_ : _ = Out.ret _) rfl | intro _ | refine And.intro rfl ?_ | refine apn_own ?_ | refine bsn_data ?_ | refine fro_nil ?_ | refine cfo_old ?_ | ((first | refine .inl (And.intro ?_ ?_) | refine And.intro ?_ ?_); focus ((repeat' apply And.intro) <;> first | rfl | omega | (unfold inR; omega) | (simp; done) | (unfold inR; simp at *; omega) | (simp at *; omega) | (intros; contradiction))) | fail)
      refine ⟨encFn f, ⟨by omega, by simp [hf], rfl⟩, ?_⟩
      repeat' ((conv => whnf); first | exact And.intro rfl rfl | refine And.intro (?_ : _ = Out.ret _) rfl | intro _ | refine And.intro rfl ?_ | refine ⟨_, hs, ?_⟩ | refine (hs).use ?_ | refine (.inl ⟨by unfold inR; omega, ?_⟩) | refine apn_own ?_ | refine bsn_data ?_ | refine fro_nil ?_ | refine cfo_old ?_ | ((first | refine .inl (And.intro ?_ ?_) | refine And.intro ?_ ?_); focus ((repeat' apply And.intro) <;> first | rfl | omega | (unfold inR; omega) | (simp; done) | (unfold inR; simp at *; omega) | (simp at *; omega) | (intros; contradiction))) | fail)
      refine ⟨j + 1, hlt, Nat.sub_lt_sub_left hlt (Nat.lt_succ_self j), (by repeat' (first | exact trivial | exact rfl | exact Or.inl rfl | refine And.intro ?_ ?_ | refine Or.inr ?_)), (by repeat' (first | exact trivial | exact rfl | exact Or.inl rfl | refine And.intro ?_ ?_ | refine Or.inr ?_)), rfl⟩
    · skip
      repeat' ((conv => whnf); first | exact And.intro rfl rfl | refine And.intro (?_ : _ = Out.ret _) rfl | intro _ | refine And.intro rfl ?_ | refine apn_own ?_ | refine bsn_data ?_ | refine fro_nil ?_ | refine cfo_old ?_ | ((first | refine .inl (And.intro ?_ ?_) | refine And.intro ?_ ?_); focus ((repeat' apply And.intro) <;> first | rfl | omega | (unfold inR; omega) | (simp; done) | (unfold inR; simp at *; omega) | (simp at *; omega) | (intros; contradiction))) | fail)
/-- The empty program. -/
theorem check35E : SatP Tryz.prog 35 [agI ⟨[], []⟩] (.d (.int .i64 6)) := by
  refine s35 (keep := false) rfl ?_
  repeat' ((conv => whnf); first | exact And.intro rfl rfl | refine And.intro (?_ : _ = Out.ret _) rfl | intro _ | refine And.intro rfl ?_ | refine apn_own ?_ | refine bsn_data ?_ | refine fro_nil ?_ | refine cfo_old ?_ | ((first | refine .inl (And.intro ?_ ?_) | refine And.intro ?_ ?_); focus ((repeat' apply And.intro) <;> first | rfl | omega | (unfold inR; omega) | (simp; done) | (unfold inR; simp at *; omega) | (simp at *; omega) | (intros; contradiction))) | fail)
  conv => whnf
  refine loop_use2 [(1, .p 0 0), (19, .d (.sl 5 [])), (20, .d (.int .i64 0))] (fun i : Nat => i = 0) (fun i => [(21, .d (.int .i64 i))]) (fun _ => [.cells [.d (.sl 5 []), .d (.sl 3 [])]]) (fun i => 0) 0 rfl ?_ ?_ ?_ (fun i hi => ?_)
  · exact (by repeat' (first | exact trivial | exact rfl | exact Or.inl rfl | refine And.intro ?_ ?_ | refine Or.inr ?_))
  · exact (by repeat' (first | exact trivial | exact rfl | exact Or.inl rfl | refine And.intro ?_ ?_ | refine Or.inr ?_))
  · exact rfl
  subst hi
  repeat' ((conv => whnf); first | exact And.intro rfl rfl | refine And.intro (?_ : _ = Out.ret _) rfl | intro _ | refine And.intro rfl ?_ | refine apn_own ?_ | refine bsn_data ?_ | refine fro_nil ?_ | refine cfo_old ?_ | ((first | refine .inl (And.intro ?_ ?_) | refine And.intro ?_ ?_); focus ((repeat' apply And.intro) <;> first | rfl | omega | (unfold inR; omega) | (simp; done) | (unfold inR; simp at *; omega) | (simp at *; omega) | (intros; contradiction))) | fail)
end Go.Proofs.YtoibcfioicdlhaaGreatDoor
