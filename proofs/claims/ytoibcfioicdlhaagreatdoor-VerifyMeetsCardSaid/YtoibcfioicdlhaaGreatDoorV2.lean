/- One op of a program that is verified: its operand; how it is reached; how it is gone through. Conditions: the program's ops are right. -/
import Derived.Test.YtoibcfioicdlhaaGreatDoorV1
namespace Go.Proofs.YtoibcfioicdlhaaGreatDoor
open Go.Vx

abbrev Sn := List (Int × Int × Int)
def seenM (s : Sn) : List (D × Bool × List D) := s.map fun p => (.int .i64 p.1, true, [.int .i64 p.2.1, .int .i64 p.2.2])
def openM (l : List Int) : List (D × Bool × List D) := l.map fun x => (.int .i64 x, false, [.bool true])
def wB (im : Im) (fn : Fn) (s : Sn) (l : List Int) : H := [.cells [.d (.sl 5 (im.cs.map encV)), .d (.sl 3 (im.fs.map encFn)), .d (.int .i64 fn.args), .d (.int .i64 fn.vars), .d (.sl 2 (fn.code.map encO)), .mp 1, .mp 2], .dm (seenM s), .dm (openM l)]

/-- What is wrong with an operand. -/
def opErrA (im : Im) (fn : Fn) (o : Op) (ar : Int) : Option Int :=
    bif ar == 1 then (bif decide (o.a < im.cs.length) then none else some 5)
    else bif ar == 2 then (bif decide (o.a < fn.args + fn.vars) then none else some 1)
    else bif ar == 3 then (bif decide (o.a < fn.code.length) then none else some 7)
    else bif ar == 4 then (bif decide (o.a < im.fs.length) then (bif (o.c == 38 || (o.c == 40 || o.c == 45)) then (match im.fs[o.a.toNat]? with
        | some g => bif g.args == 1 then none else some 6
        | none => some 6) else none) else some 6)
    else bif ar == 5 then (bif decide (o.a ≤ 63) then none else some 1) else none
def opErr (im : Im) (fn : Fn) (o : Op) : Option Int :=
  match inf o.c with
  | none => none
  | some i => opErrA im fn o i.ar

theorem rightB_is {o : Op} (h : rightB o = true) : ∃ i, inf o.c = some i ∧ 0 ≤ o.a ∧ o.a ≤ 65535 := by
  unfold rightB at h
  cases hi : inf o.c with
  | none => rw [hi] at h; cases h
  | some i =>
    refine ⟨i, rfl, ?_⟩
    rw [hi] at h
    simp only at h
    cases hz : i.ar == 0 with
    | true => rw [hz] at h; simp at h; omega
    | false => rw [hz] at h; simp at h; omega

set_option maxRecDepth 100000 in
set_option maxHeartbeats 4000000 in
theorem operand81 {K : Out → H → Prop} (im : Im) (fn : Fn) (x : Int) (o : Op) (s : Sn) (l : List Int) (h0 : 0 ≤ x) (ho : fn.code[x.toNat]? = some o) (hr : rightB o = true) (hf : okFn fn = true)
    (hk : match opErr im fn o with
      | none => K (.ret (.tu [])) (wB im fn s l)
      | some e => K (.pan (flt x e)) (wB im fn s l)) : Sat Tryz.prog 81 [.p 0 0, .d (.int .i64 x)] (wB im fn s l) K := by
  obtain ⟨i, hi, ha0, ha1⟩ := rightB_is hr
  simp only [okFn, Bool.and_eq_true, decide_eq_true_eq] at hf
  obtain ⟨f1, f2, f3, f4, f5, f6, f7, _⟩ := hf
  obtain ⟨_, _, a0, a5, _⟩ := inf_some hi
  have he : opErr im fn o = opErrA im fn o i.ar := by simp only [opErr, hi]
  rw [he] at hk
  have hab := about_yes hi
  generalize ha : i.ar = ar at hk hab
  rw [ha] at a0 a5
  refine s81 (keep := false) rfl ?_
  repeat' ((conv => whnf); first | exact And.intro rfl rfl | refine And.intro (?_ : _ = Out.ret _) rfl | intro _ | refine And.intro rfl ?_ | refine apn_own ?_ | refine bsn_data ?_ | refine fro_nil ?_ | refine cfo_old ?_ | ((first | refine .inl (And.intro ?_ ?_) | refine And.intro ?_ ?_); focus ((repeat' apply And.intro) <;> first | rfl | omega | (unfold inR; omega) | (simp; done) | (unfold inR; simp at *; omega) | (simp at *; omega) | (intros; contradiction))) | fail)
  refine ⟨encO o, ⟨h0, by simp [ho], rfl⟩, ?_⟩
  have h6 : ar = 0 ∨ ar = 1 ∨ ar = 2 ∨ ar = 3 ∨ ar = 4 ∨ ar = 5 := by omega
  rcases h6 with rfl | rfl | rfl | rfl | rfl | rfl
  · replace hk : K (.ret (.tu [])) (wB im fn s l) := hk
    repeat' ((conv => whnf); first | exact And.intro rfl rfl | refine And.intro (?_ : _ = Out.ret _) rfl | intro _ | refine And.intro rfl ?_ | refine ⟨_, hab, ?_⟩ | refine (hab).use ?_ | refine apn_own ?_ | refine bsn_data ?_ | refine fro_nil ?_ | refine cfo_old ?_ | ((first | refine .inl (And.intro ?_ ?_) | refine And.intro ?_ ?_); focus ((repeat' apply And.intro) <;> first | rfl | omega | (unfold inR; omega) | (simp; done) | (unfold inR; simp at *; omega) | (simp at *; omega) | (intros; contradiction))) | fail)
    exact hk
  · replace hk : match (bif decide (o.a < im.cs.length) then none else some 5) with
      | none => K (.ret (.tu [])) (wB im fn s l)
      | some e => K (.pan (flt x e)) (wB im fn s l) := hk
    repeat' ((conv => whnf); first | exact And.intro rfl rfl | refine And.intro (?_ : _ = Out.ret _) rfl | intro _ | refine And.intro rfl ?_ | refine ⟨_, hab, ?_⟩ | refine (hab).use ?_ | refine apn_own ?_ | refine bsn_data ?_ | refine fro_nil ?_ | refine cfo_old ?_ | ((first | refine .inl (And.intro ?_ ?_) | refine And.intro ?_ ?_); focus ((repeat' apply And.intro) <;> first | rfl | omega | (unfold inR; omega) | (simp; done) | (unfold inR; simp at *; omega) | (simp at *; omega) | (intros; contradiction))) | fail)
    refine must118 _ _ _ (fun hb => ?_) (fun hb => ?_)
    · rw [show decide (o.a < (im.cs.length : Int)) = true by simpa using hb] at hk
      repeat' ((conv => whnf); first | exact And.intro rfl rfl | refine And.intro (?_ : _ = Out.ret _) rfl | intro _ | refine And.intro rfl ?_ | refine apn_own ?_ | refine bsn_data ?_ | refine fro_nil ?_ | refine cfo_old ?_ | ((first | refine .inl (And.intro ?_ ?_) | refine And.intro ?_ ?_); focus ((repeat' apply And.intro) <;> first | rfl | omega | (unfold inR; omega) | (simp; done) | (unfold inR; simp at *; omega) | (simp at *; omega) | (intros; contradiction))) | fail)
      exact hk
    · rw [show decide (o.a < (im.cs.length : Int)) = false by simpa using hb] at hk
      repeat' ((conv => whnf); first | exact And.intro rfl rfl | refine And.intro (?_ : _ = Out.ret _) rfl | intro _ | refine And.intro rfl ?_ | refine apn_own ?_ | refine bsn_data ?_ | refine fro_nil ?_ | refine cfo_old ?_ | ((first | refine .inl (And.intro ?_ ?_) | refine And.intro ?_ ?_); focus ((repeat' apply And.intro) <;> first | rfl | omega | (unfold inR; omega) | (simp; done) | (unfold inR; simp at *; omega) | (simp at *; omega) | (intros; contradiction))) | fail)
      exact hk
  · replace hk : match (bif decide (o.a < fn.args + fn.vars) then none else some 1) with
      | none => K (.ret (.tu [])) (wB im fn s l)
      | some e => K (.pan (flt x e)) (wB im fn s l) := hk
    repeat' ((conv => whnf); first | exact And.intro rfl rfl | refine And.intro (?_ : _ = Out.ret _) rfl | intro _ | refine And.intro rfl ?_ | refine ⟨_, hab, ?_⟩ | refine (hab).use ?_ | refine (.inl ⟨by unfold inR; omega, ?_⟩) | refine apn_own ?_ | refine bsn_data ?_ | refine fro_nil ?_ | refine cfo_old ?_ | ((first | refine .inl (And.intro ?_ ?_) | refine And.intro ?_ ?_); focus ((repeat' apply And.intro) <;> first | rfl | omega | (unfold inR; omega) | (simp; done) | (unfold inR; simp at *; omega) | (simp at *; omega) | (intros; contradiction))) | fail)
    refine must118 _ _ _ (fun hb => ?_) (fun hb => ?_)
    · rw [hb] at hk
      repeat' ((conv => whnf); first | exact And.intro rfl rfl | refine And.intro (?_ : _ = Out.ret _) rfl | intro _ | refine And.intro rfl ?_ | refine apn_own ?_ | refine bsn_data ?_ | refine fro_nil ?_ | refine cfo_old ?_ | ((first | refine .inl (And.intro ?_ ?_) | refine And.intro ?_ ?_); focus ((repeat' apply And.intro) <;> first | rfl | omega | (unfold inR; omega) | (simp; done) | (unfold inR; simp at *; omega) | (simp at *; omega) | (intros; contradiction))) | fail)
      exact hk
    · rw [hb] at hk
      repeat' ((conv => whnf); first | exact And.intro rfl rfl | refine And.intro (?_ : _ = Out.ret _) rfl | intro _ | refine And.intro rfl ?_ | refine apn_own ?_ | refine bsn_data ?_ | refine fro_nil ?_ | refine cfo_old ?_ | ((first | refine .inl (And.intro ?_ ?_) | refine And.intro ?_ ?_); focus ((repeat' apply And.intro) <;> first | rfl | omega | (unfold inR; omega) | (simp; done) | (unfold inR; simp at *; omega) | (simp at *; omega) | (intros; contradiction))) | fail)
      exact hk
  · replace hk : match (bif decide (o.a < fn.code.length) then none else some 7) with
      | none => K (.ret (.tu [])) (wB im fn s l)
      | some e => K (.pan (flt x e)) (wB im fn s l) := hk
    repeat' ((conv => whnf); first | exact And.intro rfl rfl | refine And.intro (?_ : _ = Out.ret _) rfl | intro _ | refine And.intro rfl ?_ | refine ⟨_, hab, ?_⟩ | refine (hab).use ?_ | refine apn_own ?_ | refine bsn_data ?_ | refine fro_nil ?_ | refine cfo_old ?_ | ((first | refine .inl (And.intro ?_ ?_) | refine And.intro ?_ ?_); focus ((repeat' apply And.intro) <;> first | rfl | omega | (unfold inR; omega) | (simp; done) | (unfold inR; simp at *; omega) | (simp at *; omega) | (intros; contradiction))) | fail)
    refine must118 _ _ _ (fun hb => ?_) (fun hb => ?_)
    · rw [show decide (o.a < (fn.code.length : Int)) = true by simpa using hb] at hk
      repeat' ((conv => whnf); first | exact And.intro rfl rfl | refine And.intro (?_ : _ = Out.ret _) rfl | intro _ | refine And.intro rfl ?_ | refine apn_own ?_ | refine bsn_data ?_ | refine fro_nil ?_ | refine cfo_old ?_ | ((first | refine .inl (And.intro ?_ ?_) | refine And.intro ?_ ?_); focus ((repeat' apply And.intro) <;> first | rfl | omega | (unfold inR; omega) | (simp; done) | (unfold inR; simp at *; omega) | (simp at *; omega) | (intros; contradiction))) | fail)
      exact hk
    · rw [show decide (o.a < (fn.code.length : Int)) = false by simpa using hb] at hk
      repeat' ((conv => whnf); first | exact And.intro rfl rfl | refine And.intro (?_ : _ = Out.ret _) rfl | intro _ | refine And.intro rfl ?_ | refine apn_own ?_ | refine bsn_data ?_ | refine fro_nil ?_ | refine cfo_old ?_ | ((first | refine .inl (And.intro ?_ ?_) | refine And.intro ?_ ?_); focus ((repeat' apply And.intro) <;> first | rfl | omega | (unfold inR; omega) | (simp; done) | (unfold inR; simp at *; omega) | (simp at *; omega) | (intros; contradiction))) | fail)
      exact hk
  · replace hk : match (bif decide (o.a < im.fs.length) then (bif (o.c == 38 || (o.c == 40 || o.c == 45)) then (match im.fs[o.a.toNat]? with
        | some g => bif g.args == 1 then none else some 6
        | none => some 6) else none) else some 6) with
      | none => K (.ret (.tu [])) (wB im fn s l)
      | some e => K (.pan (flt x e)) (wB im fn s l) := hk
    repeat' ((conv => whnf); first | exact And.intro rfl rfl | refine And.intro (?_ : _ = Out.ret _) rfl | intro _ | refine And.intro rfl ?_ | refine ⟨_, hab, ?_⟩ | refine (hab).use ?_ | refine apn_own ?_ | refine bsn_data ?_ | refine fro_nil ?_ | refine cfo_old ?_ | ((first | refine .inl (And.intro ?_ ?_) | refine And.intro ?_ ?_); focus ((repeat' apply And.intro) <;> first | rfl | omega | (unfold inR; omega) | (simp; done) | (unfold inR; simp at *; omega) | (simp at *; omega) | (intros; contradiction))) | fail)
    refine must118 _ _ _ (fun hb => ?_) (fun hb => ?_)
    · rw [show decide (o.a < (im.fs.length : Int)) = true by simpa using hb] at hk
      have hlt : o.a < im.fs.length := by simpa using hb
      obtain ⟨g, hg⟩ : ∃ g, im.fs[o.a.toNat]? = some g := ⟨_, List.getElem?_eq_getElem (by omega)⟩
      rw [hg] at hk
      have h38 : o.c = 38 ∨ o.c = 40 ∨ o.c = 45 ∨ (o.c ≠ 38 ∧ o.c ≠ 40 ∧ o.c ≠ 45) := by omega
      rcases h38 with hc | hc | hc | ⟨c1, c2, c3⟩
      · rw [hc] at hk
        replace hk : match (bif g.args == 1 then none else some 6) with
          | none => K (.ret (.tu [])) (wB im fn s l)
          | some e => K (.pan (flt x e)) (wB im fn s l) := hk
        have e1 : (o.c == 38) = true := by rw [hc]; rfl
        repeat' ((conv => whnf); first | exact And.intro rfl rfl | refine And.intro (?_ : _ = Out.ret _) rfl | intro _ | refine And.intro rfl ?_ | refine (sp_t e1 ?_) | refine apn_own ?_ | refine bsn_data ?_ | refine fro_nil ?_ | refine cfo_old ?_ | ((first | refine .inl (And.intro ?_ ?_) | refine And.intro ?_ ?_); focus ((repeat' apply And.intro) <;> first | rfl | omega | (unfold inR; omega) | (simp; done) | (unfold inR; simp at *; omega) | (simp at *; omega) | (intros; contradiction))) | fail)
        refine ⟨encFn g, ⟨ha0, by simp [hg], rfl⟩, ?_⟩
        repeat' ((conv => whnf); first | exact And.intro rfl rfl | refine And.intro (?_ : _ = Out.ret _) rfl | intro _ | refine And.intro rfl ?_ | refine (sp_t e1 ?_) | refine apn_own ?_ | refine bsn_data ?_ | refine fro_nil ?_ | refine cfo_old ?_ | ((first | refine .inl (And.intro ?_ ?_) | refine And.intro ?_ ?_); focus ((repeat' apply And.intro) <;> first | rfl | omega | (unfold inR; omega) | (simp; done) | (unfold inR; simp at *; omega) | (simp at *; omega) | (intros; contradiction))) | fail)
        refine must118 _ _ _ (fun hb => ?_) (fun hb => ?_)
        · rw [hb] at hk
          repeat' ((conv => whnf); first | exact And.intro rfl rfl | refine And.intro (?_ : _ = Out.ret _) rfl | intro _ | refine And.intro rfl ?_ | refine apn_own ?_ | refine bsn_data ?_ | refine fro_nil ?_ | refine cfo_old ?_ | ((first | refine .inl (And.intro ?_ ?_) | refine And.intro ?_ ?_); focus ((repeat' apply And.intro) <;> first | rfl | omega | (unfold inR; omega) | (simp; done) | (unfold inR; simp at *; omega) | (simp at *; omega) | (intros; contradiction))) | fail)
          exact hk
        · rw [hb] at hk
          repeat' ((conv => whnf); first | exact And.intro rfl rfl | refine And.intro (?_ : _ = Out.ret _) rfl | intro _ | refine And.intro rfl ?_ | refine apn_own ?_ | refine bsn_data ?_ | refine fro_nil ?_ | refine cfo_old ?_ | ((first | refine .inl (And.intro ?_ ?_) | refine And.intro ?_ ?_); focus ((repeat' apply And.intro) <;> first | rfl | omega | (unfold inR; omega) | (simp; done) | (unfold inR; simp at *; omega) | (simp at *; omega) | (intros; contradiction))) | fail)
          exact hk
      · rw [hc] at hk
        replace hk : match (bif g.args == 1 then none else some 6) with
          | none => K (.ret (.tu [])) (wB im fn s l)
          | some e => K (.pan (flt x e)) (wB im fn s l) := hk
        have e1 : (o.c == 38) = false := by rw [hc]; rfl
        have e2 : (o.c == 40) = true := by rw [hc]; rfl
        repeat' ((conv => whnf); first | exact And.intro rfl rfl | refine And.intro (?_ : _ = Out.ret _) rfl | intro _ | refine And.intro rfl ?_ | refine (sp_f e1 ?_) | refine (sp_t e2 ?_) | refine apn_own ?_ | refine bsn_data ?_ | refine fro_nil ?_ | refine cfo_old ?_ | ((first | refine .inl (And.intro ?_ ?_) | refine And.intro ?_ ?_); focus ((repeat' apply And.intro) <;> first | rfl | omega | (unfold inR; omega) | (simp; done) | (unfold inR; simp at *; omega) | (simp at *; omega) | (intros; contradiction))) | fail)
        refine ⟨encFn g, ⟨ha0, by simp [hg], rfl⟩, ?_⟩
        repeat' ((conv => whnf); first | exact And.intro rfl rfl | refine And.intro (?_ : _ = Out.ret _) rfl | intro _ | refine And.intro rfl ?_ | refine apn_own ?_ | refine bsn_data ?_ | refine fro_nil ?_ | refine cfo_old ?_ | ((first | refine .inl (And.intro ?_ ?_) | refine And.intro ?_ ?_); focus ((repeat' apply And.intro) <;> first | rfl | omega | (unfold inR; omega) | (simp; done) | (unfold inR; simp at *; omega) | (simp at *; omega) | (intros; contradiction))) | fail)
        refine must118 _ _ _ (fun hb => ?_) (fun hb => ?_)
        · rw [hb] at hk
          repeat' ((conv => whnf); first | exact And.intro rfl rfl | refine And.intro (?_ : _ = Out.ret _) rfl | intro _ | refine And.intro rfl ?_ | refine apn_own ?_ | refine bsn_data ?_ | refine fro_nil ?_ | refine cfo_old ?_ | ((first | refine .inl (And.intro ?_ ?_) | refine And.intro ?_ ?_); focus ((repeat' apply And.intro) <;> first | rfl | omega | (unfold inR; omega) | (simp; done) | (unfold inR; simp at *; omega) | (simp at *; omega) | (intros; contradiction))) | fail)
          exact hk
        · rw [hb] at hk
          repeat' ((conv => whnf); first | exact And.intro rfl rfl | refine And.intro (?_ : _ = Out.ret _) rfl | intro _ | refine And.intro rfl ?_ | refine apn_own ?_ | refine bsn_data ?_ | refine fro_nil ?_ | refine cfo_old ?_ | ((first | refine .inl (And.intro ?_ ?_) | refine And.intro ?_ ?_); focus ((repeat' apply And.intro) <;> first | rfl | omega | (unfold inR; omega) | (simp; done) | (unfold inR; simp at *; omega) | (simp at *; omega) | (intros; contradiction))) | fail)
          exact hk
      · rw [hc] at hk
        replace hk : match (bif g.args == 1 then none else some 6) with
          | none => K (.ret (.tu [])) (wB im fn s l)
          | some e => K (.pan (flt x e)) (wB im fn s l) := hk
        have e1 : (o.c == 38) = false := by rw [hc]; rfl
        have e2 : (o.c == 40) = false := by rw [hc]; rfl
        have e3 : (o.c == 45) = true := by rw [hc]; rfl
        repeat' ((conv => whnf); first | exact And.intro rfl rfl | refine And.intro (?_ : _ = Out.ret _) rfl | intro _ | refine And.intro rfl ?_ | refine (sp_f e1 ?_) | refine (sp_f e2 ?_) | refine (sp_t e3 ?_) | refine apn_own ?_ | refine bsn_data ?_ | refine fro_nil ?_ | refine cfo_old ?_ | ((first | refine .inl (And.intro ?_ ?_) | refine And.intro ?_ ?_); focus ((repeat' apply And.intro) <;> first | rfl | omega | (unfold inR; omega) | (simp; done) | (unfold inR; simp at *; omega) | (simp at *; omega) | (intros; contradiction))) | fail)
        refine ⟨encFn g, ⟨ha0, by simp [hg], rfl⟩, ?_⟩
        repeat' ((conv => whnf); first | exact And.intro rfl rfl | refine And.intro (?_ : _ = Out.ret _) rfl | intro _ | refine And.intro rfl ?_ | refine apn_own ?_ | refine bsn_data ?_ | refine fro_nil ?_ | refine cfo_old ?_ | ((first | refine .inl (And.intro ?_ ?_) | refine And.intro ?_ ?_); focus ((repeat' apply And.intro) <;> first | rfl | omega | (unfold inR; omega) | (simp; done) | (unfold inR; simp at *; omega) | (simp at *; omega) | (intros; contradiction))) | fail)
        refine must118 _ _ _ (fun hb => ?_) (fun hb => ?_)
        · rw [hb] at hk
          repeat' ((conv => whnf); first | exact And.intro rfl rfl | refine And.intro (?_ : _ = Out.ret _) rfl | intro _ | refine And.intro rfl ?_ | refine apn_own ?_ | refine bsn_data ?_ | refine fro_nil ?_ | refine cfo_old ?_ | ((first | refine .inl (And.intro ?_ ?_) | refine And.intro ?_ ?_); focus ((repeat' apply And.intro) <;> first | rfl | omega | (unfold inR; omega) | (simp; done) | (unfold inR; simp at *; omega) | (simp at *; omega) | (intros; contradiction))) | fail)
          exact hk
        · rw [hb] at hk
          repeat' ((conv => whnf); first | exact And.intro rfl rfl | refine And.intro (?_ : _ = Out.ret _) rfl | intro _ | refine And.intro rfl ?_ | refine apn_own ?_ | refine bsn_data ?_ | refine fro_nil ?_ | refine cfo_old ?_ | ((first | refine .inl (And.intro ?_ ?_) | refine And.intro ?_ ?_); focus ((repeat' apply And.intro) <;> first | rfl | omega | (unfold inR; omega) | (simp; done) | (unfold inR; simp at *; omega) | (simp at *; omega) | (intros; contradiction))) | fail)
          exact hk
      · have e1 : (o.c == 38) = false := by simpa using c1
        have e2 : (o.c == 40) = false := by simpa using c2
        have e3 : (o.c == 45) = false := by simpa using c3
        rw [e1, e2, e3] at hk
        repeat' ((conv => whnf); first | exact And.intro rfl rfl | refine And.intro (?_ : _ = Out.ret _) rfl | intro _ | refine And.intro rfl ?_ | refine (sp_f e1 ?_) | refine (sp_f e2 ?_) | refine (sp_f e3 ?_) | refine apn_own ?_ | refine bsn_data ?_ | refine fro_nil ?_ | refine cfo_old ?_ | ((first | refine .inl (And.intro ?_ ?_) | refine And.intro ?_ ?_); focus ((repeat' apply And.intro) <;> first | rfl | omega | (unfold inR; omega) | (simp; done) | (unfold inR; simp at *; omega) | (simp at *; omega) | (intros; contradiction))) | fail)
        exact hk
    · rw [show decide (o.a < (im.fs.length : Int)) = false by simpa using hb] at hk
      repeat' ((conv => whnf); first | exact And.intro rfl rfl | refine And.intro (?_ : _ = Out.ret _) rfl | intro _ | refine And.intro rfl ?_ | refine apn_own ?_ | refine bsn_data ?_ | refine fro_nil ?_ | refine cfo_old ?_ | ((first | refine .inl (And.intro ?_ ?_) | refine And.intro ?_ ?_); focus ((repeat' apply And.intro) <;> first | rfl | omega | (unfold inR; omega) | (simp; done) | (unfold inR; simp at *; omega) | (simp at *; omega) | (intros; contradiction))) | fail)
      exact hk
  · replace hk : match (bif decide (o.a ≤ 63) then none else some 1) with
      | none => K (.ret (.tu [])) (wB im fn s l)
      | some e => K (.pan (flt x e)) (wB im fn s l) := hk
    repeat' ((conv => whnf); first | exact And.intro rfl rfl | refine And.intro (?_ : _ = Out.ret _) rfl | intro _ | refine And.intro rfl ?_ | refine ⟨_, hab, ?_⟩ | refine (hab).use ?_ | refine apn_own ?_ | refine bsn_data ?_ | refine fro_nil ?_ | refine cfo_old ?_ | ((first | refine .inl (And.intro ?_ ?_) | refine And.intro ?_ ?_); focus ((repeat' apply And.intro) <;> first | rfl | omega | (unfold inR; omega) | (simp; done) | (unfold inR; simp at *; omega) | (simp at *; omega) | (intros; contradiction))) | fail)
    refine must118 _ _ _ (fun hb => ?_) (fun hb => ?_)
    · rw [hb] at hk
      repeat' ((conv => whnf); first | exact And.intro rfl rfl | refine And.intro (?_ : _ = Out.ret _) rfl | intro _ | refine And.intro rfl ?_ | refine apn_own ?_ | refine bsn_data ?_ | refine fro_nil ?_ | refine cfo_old ?_ | ((first | refine .inl (And.intro ?_ ?_) | refine And.intro ?_ ?_); focus ((repeat' apply And.intro) <;> first | rfl | omega | (unfold inR; omega) | (simp; done) | (unfold inR; simp at *; omega) | (simp at *; omega) | (intros; contradiction))) | fail)
      exact hk
    · rw [hb] at hk
      repeat' ((conv => whnf); first | exact And.intro rfl rfl | refine And.intro (?_ : _ = Out.ret _) rfl | intro _ | refine And.intro rfl ?_ | refine apn_own ?_ | refine bsn_data ?_ | refine fro_nil ?_ | refine cfo_old ?_ | ((first | refine .inl (And.intro ?_ ?_) | refine And.intro ?_ ?_); focus ((repeat' apply And.intro) <;> first | rfl | omega | (unfold inR; omega) | (simp; done) | (unfold inR; simp at *; omega) | (simp at *; omega) | (intros; contradiction))) | fail)
      exact hk
end Go.Proofs.YtoibcfioicdlhaaGreatDoor
