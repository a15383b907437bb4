/- One op of a program that is verified: its operand; how it is reached; how it is gone through. Conditions: the program's ops are right. -/
import Derived.Test.YtoibcfioicdlhaaGreatDoorRAY
namespace Go.Proofs.YtoibcfioicdlhaaGreatDoor
open Go.Vx
set_option maxRecDepth 100000

abbrev Sn := List (Int × Int × Int)
def seenM (s : Sn) : List (D × Bool × List D) := s.map fun p => (.int .i64 p.1, true, [.int .i64 p.2.1, .int .i64 p.2.2])
def openM (l : List Int) : List (D × Bool × List D) := l.map fun x => (.int .i64 x, false, [.bool true])
def wB (im : Im) (fn : Fn) (s : Sn) (l : List Int) : H := [.cells [.d (.sl 5 (im.cs.map encV)), .d (.sl 3 (im.fs.map encFn)), .d (.int .i64 fn.args), .d (.int .i64 fn.vars), .d (.sl 2 (fn.code.map encO)), .mp 1, .mp 2], .dm (seenM s), .dm (openM l)]

/-- What is wrong with an operand. -/
def opErrA (im : Im) (fn : Fn) (o : Op) (ar : Int) : Option Int :=
    bif ar == 1 then (bif decide (o.a < im.cs.length) then none else some 5)
    else bif ar == 2 then (bif decide (o.a < fn.args + fn.vars) then none else some 1)
    else bif ar == 3 then (bif decide (o.a < fn.code.length) then none else some 7)
    else bif ar == 4 then (bif decide (o.a < im.fs.length) then (bif (o.c == 38 || (o.c == 40 || o.c == 45)) then (match im.fs[o.a.toNat]? with
        | some g => bif g.args == 1 then none else some 6
        | none => some 6) else none) else some 6)
    else bif ar == 5 then (bif decide (o.a ≤ 63) then none else some 1) else none
def opErr (im : Im) (fn : Fn) (o : Op) : Option Int :=
  match inf o.c with
  | none => none
  | some i => opErrA im fn o i.ar

theorem rightB_is {o : Op} (h : rightB o = true) : ∃ i, inf o.c = some i ∧ 0 ≤ o.a ∧ o.a ≤ 65535 := by
  unfold rightB at h
  cases hi : inf o.c with
  | none => rw [hi] at h; cases h
  | some i =>
    refine ⟨i, rfl, ?_⟩
    rw [hi] at h
    simp only at h
    cases hz : i.ar == 0 with
    | true => rw [hz] at h; simp at h; omega
    | false => rw [hz] at h; simp at h; omega

set_option maxRecDepth 100000 in
set_option maxHeartbeats 4000000 in
theorem operand81 {K : Out → H → Prop} (im : Im) (fn : Fn) (x : Int) (o : Op) (s : Sn) (l : List Int) (h0 : 0 ≤ x) (ho : fn.code[x.toNat]? = some o) (hr : rightB o = true) (hf : okFn fn = true)
    (hk : match opErr im fn o with
      | none => K (.ret (.tu [])) (wB im fn s l)
      | some e => K (.pan (flt x e)) (wB im fn s l)) : Sat Tryz.prog 81 [.p 0 0, .d (.int .i64 x)] (wB im fn s l) K := by
  obtain ⟨i, hi, ha0, ha1⟩ := rightB_is hr
  simp only [okFn, Bool.and_eq_true, decide_eq_true_eq] at hf
  obtain ⟨f1, f2, f3, f4, f5, f6, f7, _⟩ := hf
  obtain ⟨_, _, a0, a5, _⟩ := inf_some hi
  have he : opErr im fn o = opErrA im fn o i.ar := by simp only [opErr, hi]
  rw [he] at hk
  have hab := about_yes hi
  generalize ha : i.ar = ar at hk hab
  rw [ha] at a0 a5
  refine s81 (keep := false) rfl ?_
  repeat' ((conv => whnf); first | ((with_reducible refine And.intro (?_ : @Eq Out _ _) (?_ : @Eq H _ _)) <;> exact rfl) | ((with_reducible refine And.intro (?_ : @Eq Out _ _) (?_ : @Eq H _ _)); rotate_left; exact rfl) | intro _ | refine And.intro rfl ?_ | refine apn_own ?_ | refine bsn_data ?_ | refine fro_nil ?_ | refine cfo_old ?_ | ((first | refine .inl (And.intro ?_ ?_) | refine And.intro ?_ ?_); focus ((repeat' apply And.intro) <;> first | rfl | omega | (unfold inR; omega) | (simp; done) | (unfold inR; simp at *; omega) | (simp at *; omega) | (intros; contradiction))) | fail)
  refine ⟨encO o, ⟨h0, by simp [ho], rfl⟩, ?_⟩
  have h6 : ar = 0 ∨ ar = 1 ∨ ar = 2 ∨ ar = 3 ∨ ar = 4 ∨ ar = 5 := by omega
  rcases h6 with rfl | rfl | rfl | rfl | rfl | rfl
  · replace hk : K (.ret (.tu [])) (wB im fn s l) := hk
    repeat' ((conv => whnf); first | ((with_reducible refine And.intro (?_ : @Eq Out _ _) (?_ : @Eq H _ _)) <;> exact rfl) | ((with_reducible refine And.intro (?_ : @Eq Out _ _) (?_ : @Eq H _ _)); rotate_left; exact rfl) | intro _ | refine And.intro rfl ?_ | refine ⟨_, hab, ?_⟩ | refine (hab).use ?_ | refine apn_own ?_ | refine bsn_data ?_ | refine fro_nil ?_ | refine cfo_old ?_ | ((first | refine .inl (And.intro ?_ ?_) | refine And.intro ?_ ?_); focus ((repeat' apply And.intro) <;> first | rfl | omega | (unfold inR; omega) | (simp; done) | (unfold inR; simp at *; omega) | (simp at *; omega) | (intros; contradiction))) | fail)
    exact hk
  · replace hk : match (bif decide (o.a < im.cs.length) then none else some 5) with
      | none => K (.ret (.tu [])) (wB im fn s l)
      | some e => K (.pan (flt x e)) (wB im fn s l) := hk
    repeat' ((conv => whnf); first | ((with_reducible refine And.intro (?_ : @Eq Out _ _) (?_ : @Eq H _ _)) <;> exact rfl) | ((with_reducible refine And.intro (?_ : @Eq Out _ _) (?_ : @Eq H _ _)); rotate_left; exact rfl) | intro _ | refine And.intro rfl ?_ | refine ⟨_, hab, ?_⟩ | refine (hab).use ?_ | refine apn_own ?_ | refine bsn_data ?_ | refine fro_nil ?_ | refine cfo_old ?_ | ((first | refine .inl (And.intro ?_ ?_) | refine And.intro ?_ ?_); focus ((repeat' apply And.intro) <;> first | rfl | omega | (unfold inR; omega) | (simp; done) | (unfold inR; simp at *; omega) | (simp at *; omega) | (intros; contradiction))) | fail)
    refine must118 _ _ _ (fun hb => ?_) (fun hb => ?_)
    · rw [show decide (o.a < (im.cs.length : Int)) = true by simpa using hb] at hk
      repeat' ((conv => whnf); first | ((with_reducible refine And.intro (?_ : @Eq Out _ _) (?_ : @Eq H _ _)) <;> exact rfl) | ((with_reducible refine And.intro (?_ : @Eq Out _ _) (?_ : @Eq H _ _)); rotate_left; exact rfl) | intro _ | refine And.intro rfl ?_ | refine apn_own ?_ | refine bsn_data ?_ | refine fro_nil ?_ | refine cfo_old ?_ | ((first | refine .inl (And.intro ?_ ?_) | refine And.intro ?_ ?_); focus ((repeat' apply And.intro) <;> first | rfl | omega | (unfold inR; omega) | (simp; done) | (unfold inR; simp at *; omega) | (simp at *; omega) | (intros; contradiction))) | fail)
      exact hk
    · rw [show decide (o.a < (im.cs.length : Int)) = false by simpa using hb] at hk
      repeat' ((conv => whnf); first | ((with_reducible refine And.intro (?_ : @Eq Out _ _) (?_ : @Eq H _ _)) <;> exact rfl) | ((with_reducible refine And.intro (?_ : @Eq Out _ _) (?_ : @Eq H _ _)); rotate_left; exact rfl) | intro _ | refine And.intro rfl ?_ | refine apn_own ?_ | refine bsn_data ?_ | refine fro_nil ?_ | refine cfo_old ?_ | ((first | refine .inl (And.intro ?_ ?_) | refine And.intro ?_ ?_); focus ((repeat' apply And.intro) <;> first | rfl | omega | (unfold inR; omega) | (simp; done) | (unfold inR; simp at *; omega) | (simp at *; omega) | (intros; contradiction))) | fail)
      exact hk
  · replace hk : match (bif decide (o.a < fn.args + fn.vars) then none else some 1) with
      | none => K (.ret (.tu [])) (wB im fn s l)
      | some e => K (.pan (flt x e)) (wB im fn s l) := hk
    repeat' ((conv => whnf); first | ((with_reducible refine And.intro (?_ : @Eq Out _ _) (?_ : @Eq H _ _)) <;> exact rfl) | ((with_reducible refine And.intro (?_ : @Eq Out _ _) (?_ : @Eq H _ _)); rotate_left; exact rfl) | intro _ | refine And.intro rfl ?_ | refine ⟨_, hab, ?_⟩ | refine (hab).use ?_ | refine (.inl ⟨by unfold inR; omega, ?_⟩) | refine apn_own ?_ | refine bsn_data ?_ | refine fro_nil ?_ | refine cfo_old ?_ | ((first | refine .inl (And.intro ?_ ?_) | refine And.intro ?_ ?_); focus ((repeat' apply And.intro) <;> first | rfl | omega | (unfold inR; omega) | (simp; done) | (unfold inR; simp at *; omega) | (simp at *; omega) | (intros; contradiction))) | fail)
    refine must118 _ _ _ (fun hb => ?_) (fun hb => ?_)
    · rw [hb] at hk
      repeat' ((conv => whnf); first | ((with_reducible refine And.intro (?_ : @Eq Out _ _) (?_ : @Eq H _ _)) <;> exact rfl) | ((with_reducible refine And.intro (?_ : @Eq Out _ _) (?_ : @Eq H _ _)); rotate_left; exact rfl) | intro _ | refine And.intro rfl ?_ | refine apn_own ?_ | refine bsn_data ?_ | refine fro_nil ?_ | refine cfo_old ?_ | ((first | refine .inl (And.intro ?_ ?_) | refine And.intro ?_ ?_); focus ((repeat' apply And.intro) <;> first | rfl | omega | (unfold inR; omega) | (simp; done) | (unfold inR; simp at *; omega) | (simp at *; omega) | (intros; contradiction))) | fail)
      exact hk
    · rw [hb] at hk
      repeat' ((conv => whnf); first | ((with_reducible refine And.intro (?_ : @Eq Out _ _) (?_ : @Eq H _ _)) <;> exact rfl) | ((with_reducible refine And.intro (?_ : @Eq Out _ _) (?_ : @Eq H _ _)); rotate_left; exact rfl) | intro _ | refine And.intro rfl ?_ | refine apn_own ?_ | refine bsn_data ?_ | refine fro_nil ?_ | refine cfo_old ?_ | ((first | refine .inl (And.intro ?_ ?_) | refine And.intro ?_ ?_); focus ((repeat' apply And.intro) <;> first | rfl | omega | (unfold inR; omega) | (simp; done) | (unfold inR; simp at *; omega) | (simp at *; omega) | (intros; contradiction))) | fail)
      exact hk
  · replace hk : match (bif decide (o.a < fn.code.length) then none else some 7) with
      | none => K (.ret (.tu [])) (wB im fn s l)
      | some e => K (.pan (flt x e)) (wB im fn s l) := hk
    repeat' ((conv => whnf); first | ((with_reducible refine And.intro (?_ : @Eq Out _ _) (?_ : @Eq H _ _)) <;> exact rfl) | ((with_reducible refine And.intro (?_ : @Eq Out _ _) (?_ : @Eq H _ _)); rotate_left; exact rfl) | intro _ | refine And.intro rfl ?_ | refine ⟨_, hab, ?_⟩ | refine (hab).use ?_ | refine apn_own ?_ | refine bsn_data ?_ | refine fro_nil ?_ | refine cfo_old ?_ | ((first | refine .inl (And.intro ?_ ?_) | refine And.intro ?_ ?_); focus ((repeat' apply And.intro) <;> first | rfl | omega | (unfold inR; omega) | (simp; done) | (unfold inR; simp at *; omega) | (simp at *; omega) | (intros; contradiction))) | fail)
    refine must118 _ _ _ (fun hb => ?_) (fun hb => ?_)
    · rw [show decide (o.a < (fn.code.length : Int)) = true by simpa using hb] at hk
      repeat' ((conv => whnf); first | ((with_reducible refine And.intro (?_ : @Eq Out _ _) (?_ : @Eq H _ _)) <;> exact rfl) | ((with_reducible refine And.intro (?_ : @Eq Out _ _) (?_ : @Eq H _ _)); rotate_left; exact rfl) | intro _ | refine And.intro rfl ?_ | refine apn_own ?_ | refine bsn_data ?_ | refine fro_nil ?_ | refine cfo_old ?_ | ((first | refine .inl (And.intro ?_ ?_) | refine And.intro ?_ ?_); focus ((repeat' apply And.intro) <;> first | rfl | omega | (unfold inR; omega) | (simp; done) | (unfold inR; simp at *; omega) | (simp at *; omega) | (intros; contradiction))) | fail)
      exact hk
    · rw [show decide (o.a < (fn.code.length : Int)) = false by simpa using hb] at hk
      repeat' ((conv => whnf); first | ((with_reducible refine And.intro (?_ : @Eq Out _ _) (?_ : @Eq H _ _)) <;> exact rfl) | ((with_reducible refine And.intro (?_ : @Eq Out _ _) (?_ : @Eq H _ _)); rotate_left; exact rfl) | intro _ | refine And.intro rfl ?_ | refine apn_own ?_ | refine bsn_data ?_ | refine fro_nil ?_ | refine cfo_old ?_ | ((first | refine .inl (And.intro ?_ ?_) | refine And.intro ?_ ?_); focus ((repeat' apply And.intro) <;> first | rfl | omega | (unfold inR; omega) | (simp; done) | (unfold inR; simp at *; omega) | (simp at *; omega) | (intros; contradiction))) | fail)
      exact hk
  · replace hk : match (bif decide (o.a < im.fs.length) then (bif (o.c == 38 || (o.c == 40 || o.c == 45)) then (match im.fs[o.a.toNat]? with
        | some g => bif g.args == 1 then none else some 6
        | none => some 6) else none) else some 6) with
      | none => K (.ret (.tu [])) (wB im fn s l)
      | some e => K (.pan (flt x e)) (wB im fn s l) := hk
    repeat' ((conv => whnf); first | ((with_reducible refine And.intro (?_ : @Eq Out _ _) (?_ : @Eq H _ _)) <;> exact rfl) | ((with_reducible refine And.intro (?_ : @Eq Out _ _) (?_ : @Eq H _ _)); rotate_left; exact rfl) | intro _ | refine And.intro rfl ?_ | refine ⟨_, hab, ?_⟩ | refine (hab).use ?_ | refine apn_own ?_ | refine bsn_data ?_ | refine fro_nil ?_ | refine cfo_old ?_ | ((first | refine .inl (And.intro ?_ ?_) | refine And.intro ?_ ?_); focus ((repeat' apply And.intro) <;> first | rfl | omega | (unfold inR; omega) | (simp; done) | (unfold inR; simp at *; omega) | (simp at *; omega) | (intros; contradiction))) | fail)
    refine must118 _ _ _ (fun hb => ?_) (fun hb => ?_)
    · rw [show decide (o.a < (im.fs.length : Int)) = true by simpa using hb] at hk
      have hlt : o.a < im.fs.length := by simpa using hb
      obtain ⟨g, hg⟩ : ∃ g, im.fs[o.a.toNat]? = some g := ⟨_, List.getElem?_eq_getElem (by omega)⟩
      rw [hg] at hk
      have h38 : o.c = 38 ∨ o.c = 40 ∨ o.c = 45 ∨ (o.c ≠ 38 ∧ o.c ≠ 40 ∧ o.c ≠ 45) := by omega
      rcases h38 with hc | hc | hc | ⟨c1, c2, c3⟩
      · rw [hc] at hk
        replace hk : match (bif g.args == 1 then none else some 6) with
          | none => K (.ret (.tu [])) (wB im fn s l)
          | some e => K (.pan (flt x e)) (wB im fn s l) := hk
        have e1 : (o.c == 38) = true := by rw [hc]; rfl
        repeat' ((conv => whnf); first | ((with_reducible refine And.intro (?_ : @Eq Out _ _) (?_ : @Eq H _ _)) <;> exact rfl) | ((with_reducible refine And.intro (?_ : @Eq Out _ _) (?_ : @Eq H _ _)); rotate_left; exact rfl) | intro _ | refine And.intro rfl ?_ | refine (sp_t e1 ?_) | refine apn_own ?_ | refine bsn_data ?_ | refine fro_nil ?_ | refine cfo_old ?_ | ((first | refine .inl (And.intro ?_ ?_) | refine And.intro ?_ ?_); focus ((repeat' apply And.intro) <;> first | rfl | omega | (unfold inR; omega) | (simp; done) | (unfold inR; simp at *; omega) | (simp at *; omega) | (intros; contradiction))) | fail)
        refine ⟨encFn g, ⟨ha0, by simp [hg], rfl⟩, ?_⟩
        repeat' ((conv => whnf); first | ((with_reducible refine And.intro (?_ : @Eq Out _ _) (?_ : @Eq H _ _)) <;> exact rfl) | ((with_reducible refine And.intro (?_ : @Eq Out _ _) (?_ : @Eq H _ _)); rotate_left; exact rfl) | intro _ | refine And.intro rfl ?_ | refine (sp_t e1 ?_) | refine apn_own ?_ | refine bsn_data ?_ | refine fro_nil ?_ | refine cfo_old ?_ | ((first | refine .inl (And.intro ?_ ?_) | refine And.intro ?_ ?_); focus ((repeat' apply And.intro) <;> first | rfl | omega | (unfold inR; omega) | (simp; done) | (unfold inR; simp at *; omega) | (simp at *; omega) | (intros; contradiction))) | fail)
        refine must118 _ _ _ (fun hb => ?_) (fun hb => ?_)
        · rw [hb] at hk
          repeat' ((conv => whnf); first | ((with_reducible refine And.intro (?_ : @Eq Out _ _) (?_ : @Eq H _ _)) <;> exact rfl) | ((with_reducible refine And.intro (?_ : @Eq Out _ _) (?_ : @Eq H _ _)); rotate_left; exact rfl) | intro _ | refine And.intro rfl ?_ | refine apn_own ?_ | refine bsn_data ?_ | refine fro_nil ?_ | refine cfo_old ?_ | ((first | refine .inl (And.intro ?_ ?_) | refine And.intro ?_ ?_); focus ((repeat' apply And.intro) <;> first | rfl | omega | (unfold inR; omega) | (simp; done) | (unfold inR; simp at *; omega) | (simp at *; omega) | (intros; contradiction))) | fail)
          exact hk
        · rw [hb] at hk
          repeat' ((conv => whnf); first | ((with_reducible refine And.intro (?_ : @Eq Out _ _) (?_ : @Eq H _ _)) <;> exact rfl) | ((with_reducible refine And.intro (?_ : @Eq Out _ _) (?_ : @Eq H _ _)); rotate_left; exact rfl) | intro _ | refine And.intro rfl ?_ | refine apn_own ?_ | refine bsn_data ?_ | refine fro_nil ?_ | refine cfo_old ?_ | ((first | refine .inl (And.intro ?_ ?_) | refine And.intro ?_ ?_); focus ((repeat' apply And.intro) <;> first | rfl | omega | (unfold inR; omega) | (simp; done) | (unfold inR; simp at *; omega) | (simp at *; omega) | (intros; contradiction))) | fail)
          exact hk
      · rw [hc] at hk
        replace hk : match (bif g.args == 1 then none else some 6) with
          | none => K (.ret (.tu [])) (wB im fn s l)
          | some e => K (.pan (flt x e)) (wB im fn s l) := hk
        have e1 : (o.c == 38) = false := by rw [hc]; rfl
        have e2 : (o.c == 40) = true := by rw [hc]; rfl
        repeat' ((conv => whnf); first | ((with_reducible refine And.intro (?_ : @Eq Out _ _) (?_ : @Eq H _ _)) <;> exact rfl) | ((with_reducible refine And.intro (?_ : @Eq Out _ _) (?_ : @Eq H _ _)); rotate_left; exact rfl) | intro _ | refine And.intro rfl ?_ | refine (sp_f e1 ?_) | refine (sp_t e2 ?_) | refine apn_own ?_ | refine bsn_data ?_ | refine fro_nil ?_ | refine cfo_old ?_ | ((first | refine .inl (And.intro ?_ ?_) | refine And.intro ?_ ?_); focus ((repeat' apply And.intro) <;> first | rfl | omega | (unfold inR; omega) | (simp; done) | (unfold inR; simp at *; omega) | (simp at *; omega) | (intros; contradiction))) | fail)
        refine ⟨encFn g, ⟨ha0, by simp [hg], rfl⟩, ?_⟩
        repeat' ((conv => whnf); first | ((with_reducible refine And.intro (?_ : @Eq Out _ _) (?_ : @Eq H _ _)) <;> exact rfl) | ((with_reducible refine And.intro (?_ : @Eq Out _ _) (?_ : @Eq H _ _)); rotate_left; exact rfl) | intro _ | refine And.intro rfl ?_ | refine apn_own ?_ | refine bsn_data ?_ | refine fro_nil ?_ | refine cfo_old ?_ | ((first | refine .inl (And.intro ?_ ?_) | refine And.intro ?_ ?_); focus ((repeat' apply And.intro) <;> first | rfl | omega | (unfold inR; omega) | (simp; done) | (unfold inR; simp at *; omega) | (simp at *; omega) | (intros; contradiction))) | fail)
        refine must118 _ _ _ (fun hb => ?_) (fun hb => ?_)
        · rw [hb] at hk
          repeat' ((conv => whnf); first | ((with_reducible refine And.intro (?_ : @Eq Out _ _) (?_ : @Eq H _ _)) <;> exact rfl) | ((with_reducible refine And.intro (?_ : @Eq Out _ _) (?_ : @Eq H _ _)); rotate_left; exact rfl) | intro _ | refine And.intro rfl ?_ | refine apn_own ?_ | refine bsn_data ?_ | refine fro_nil ?_ | refine cfo_old ?_ | ((first | refine .inl (And.intro ?_ ?_) | refine And.intro ?_ ?_); focus ((repeat' apply And.intro) <;> first | rfl | omega | (unfold inR; omega) | (simp; done) | (unfold inR; simp at *; omega) | (simp at *; omega) | (intros; contradiction))) | fail)
          exact hk
        · rw [hb] at hk
          repeat' ((conv => whnf); first | ((with_reducible refine And.intro (?_ : @Eq Out _ _) (?_ : @Eq H _ _)) <;> exact rfl) | ((with_reducible refine And.intro (?_ : @Eq Out _ _) (?_ : @Eq H _ _)); rotate_left; exact rfl) | intro _ | refine And.intro rfl ?_ | refine apn_own ?_ | refine bsn_data ?_ | refine fro_nil ?_ | refine cfo_old ?_ | ((first | refine .inl (And.intro ?_ ?_) | refine And.intro ?_ ?_); focus ((repeat' apply And.intro) <;> first | rfl | omega | (unfold inR; omega) | (simp; done) | (unfold inR; simp at *; omega) | (simp at *; omega) | (intros; contradiction))) | fail)
          exact hk
      · rw [hc] at hk
        replace hk : match (bif g.args == 1 then none else some 6) with
          | none => K (.ret (.tu [])) (wB im fn s l)
          | some e => K (.pan (flt x e)) (wB im fn s l) := hk
        have e1 : (o.c == 38) = false := by rw [hc]; rfl
        have e2 : (o.c == 40) = false := by rw [hc]; rfl
        have e3 : (o.c == 45) = true := by rw [hc]; rfl
        repeat' ((conv => whnf); first | ((with_reducible refine And.intro (?_ : @Eq Out _ _) (?_ : @Eq H _ _)) <;> exact rfl) | ((with_reducible refine And.intro (?_ : @Eq Out _ _) (?_ : @Eq H _ _)); rotate_left; exact rfl) | intro _ | refine And.intro rfl ?_ | refine (sp_f e1 ?_) | refine (sp_f e2 ?_) | refine (sp_t e3 ?_) | refine apn_own ?_ | refine bsn_data ?_ | refine fro_nil ?_ | refine cfo_old ?_ | ((first | refine .inl (And.intro ?_ ?_) | refine And.intro ?_ ?_); focus ((repeat' apply And.intro) <;> first | rfl | omega | (unfold inR; omega) | (simp; done) | (unfold inR; simp at *; omega) | (simp at *; omega) | (intros; contradiction))) | fail)
        refine ⟨encFn g, ⟨ha0, by simp [hg], rfl⟩, ?_⟩
        repeat' ((conv => whnf); first | ((with_reducible refine And.intro (?_ : @Eq Out _ _) (?_ : @Eq H _ _)) <;> exact rfl) | ((with_reducible refine And.intro (?_ : @Eq Out _ _) (?_ : @Eq H _ _)); rotate_left; exact rfl) | intro _ | refine And.intro rfl ?_ | refine apn_own ?_ | refine bsn_data ?_ | refine fro_nil ?_ | refine cfo_old ?_ | ((first | refine .inl (And.intro ?_ ?_) | refine And.intro ?_ ?_); focus ((repeat' apply And.intro) <;> first | rfl | omega | (unfold inR; omega) | (simp; done) | (unfold inR; simp at *; omega) | (simp at *; omega) | (intros; contradiction))) | fail)
        refine must118 _ _ _ (fun hb => ?_) (fun hb => ?_)
        · rw [hb] at hk
          repeat' ((conv => whnf); first | ((with_reducible refine And.intro (?_ : @Eq Out _ _) (?_ : @Eq H _ _)) <;> exact rfl) | ((with_reducible refine And.intro (?_ : @Eq Out _ _) (?_ : @Eq H _ _)); rotate_left; exact rfl) | intro _ | refine And.intro rfl ?_ | refine apn_own ?_ | refine bsn_data ?_ | refine fro_nil ?_ | refine cfo_old ?_ | ((first | refine .inl (And.intro ?_ ?_) | refine And.intro ?_ ?_); focus ((repeat' apply And.intro) <;> first | rfl | omega | (unfold inR; omega) | (simp; done) | (unfold inR; simp at *; omega) | (simp at *; omega) | (intros; contradiction))) | fail)
          exact hk
        · rw [hb] at hk
          repeat' ((conv => whnf); first | ((with_reducible refine And.intro (?_ : @Eq Out _ _) (?_ : @Eq H _ _)) <;> exact rfl) | ((with_reducible refine And.intro (?_ : @Eq Out _ _) (?_ : @Eq H _ _)); rotate_left; exact rfl) | intro _ | refine And.intro rfl ?_ | refine apn_own ?_ | refine bsn_data ?_ | refine fro_nil ?_ | refine cfo_old ?_ | ((first | refine .inl (And.intro ?_ ?_) | refine And.intro ?_ ?_); focus ((repeat' apply And.intro) <;> first | rfl | omega | (unfold inR; omega) | (simp; done) | (unfold inR; simp at *; omega) | (simp at *; omega) | (intros; contradiction))) | fail)
          exact hk
      · have e1 : (o.c == 38) = false := by simpa using c1
        have e2 : (o.c == 40) = false := by simpa using c2
        have e3 : (o.c == 45) = false := by simpa using c3
        rw [e1, e2, e3] at hk
        repeat' ((conv => whnf); first | ((with_reducible refine And.intro (?_ : @Eq Out _ _) (?_ : @Eq H _ _)) <;> exact rfl) | ((with_reducible refine And.intro (?_ : @Eq Out _ _) (?_ : @Eq H _ _)); rotate_left; exact rfl) | intro _ | refine And.intro rfl ?_ | refine (sp_f e1 ?_) | refine (sp_f e2 ?_) | refine (sp_f e3 ?_) | refine apn_own ?_ | refine bsn_data ?_ | refine fro_nil ?_ | refine cfo_old ?_ | ((first | refine .inl (And.intro ?_ ?_) | refine And.intro ?_ ?_); focus ((repeat' apply And.intro) <;> first | rfl | omega | (unfold inR; omega) | (simp; done) | (unfold inR; simp at *; omega) | (simp at *; omega) | (intros; contradiction))) | fail)
        exact hk
    · rw [show decide (o.a < (im.fs.length : Int)) = false by simpa using hb] at hk
      repeat' ((conv => whnf); first | ((with_reducible refine And.intro (?_ : @Eq Out _ _) (?_ : @Eq H _ _)) <;> exact rfl) | ((with_reducible refine And.intro (?_ : @Eq Out _ _) (?_ : @Eq H _ _)); rotate_left; exact rfl) | intro _ | refine And.intro rfl ?_ | refine apn_own ?_ | refine bsn_data ?_ | refine fro_nil ?_ | refine cfo_old ?_ | ((first | refine .inl (And.intro ?_ ?_) | refine And.intro ?_ ?_); focus ((repeat' apply And.intro) <;> first | rfl | omega | (unfold inR; omega) | (simp; done) | (unfold inR; simp at *; omega) | (simp at *; omega) | (intros; contradiction))) | fail)
      exact hk
  · replace hk : match (bif decide (o.a ≤ 63) then none else some 1) with
      | none => K (.ret (.tu [])) (wB im fn s l)
      | some e => K (.pan (flt x e)) (wB im fn s l) := hk
    repeat' ((conv => whnf); first | ((with_reducible refine And.intro (?_ : @Eq Out _ _) (?_ : @Eq H _ _)) <;> exact rfl) | ((with_reducible refine And.intro (?_ : @Eq Out _ _) (?_ : @Eq H _ _)); rotate_left; exact rfl) | intro _ | refine And.intro rfl ?_ | refine ⟨_, hab, ?_⟩ | refine (hab).use ?_ | refine apn_own ?_ | refine bsn_data ?_ | refine fro_nil ?_ | refine cfo_old ?_ | ((first | refine .inl (And.intro ?_ ?_) | refine And.intro ?_ ?_); focus ((repeat' apply And.intro) <;> first | rfl | omega | (unfold inR; omega) | (simp; done) | (unfold inR; simp at *; omega) | (simp at *; omega) | (intros; contradiction))) | fail)
    refine must118 _ _ _ (fun hb => ?_) (fun hb => ?_)
    · rw [hb] at hk
      repeat' ((conv => whnf); first | ((with_reducible refine And.intro (?_ : @Eq Out _ _) (?_ : @Eq H _ _)) <;> exact rfl) | ((with_reducible refine And.intro (?_ : @Eq Out _ _) (?_ : @Eq H _ _)); rotate_left; exact rfl) | intro _ | refine And.intro rfl ?_ | refine apn_own ?_ | refine bsn_data ?_ | refine fro_nil ?_ | refine cfo_old ?_ | ((first | refine .inl (And.intro ?_ ?_) | refine And.intro ?_ ?_); focus ((repeat' apply And.intro) <;> first | rfl | omega | (unfold inR; omega) | (simp; done) | (unfold inR; simp at *; omega) | (simp at *; omega) | (intros; contradiction))) | fail)
      exact hk
    · rw [hb] at hk
      repeat' ((conv => whnf); first | ((with_reducible refine And.intro (?_ : @Eq Out _ _) (?_ : @Eq H _ _)) <;> exact rfl) | ((with_reducible refine And.intro (?_ : @Eq Out _ _) (?_ : @Eq H _ _)); rotate_left; exact rfl) | intro _ | refine And.intro rfl ?_ | refine apn_own ?_ | refine bsn_data ?_ | refine fro_nil ?_ | refine cfo_old ?_ | ((first | refine .inl (And.intro ?_ ?_) | refine And.intro ?_ ?_); focus ((repeat' apply And.intro) <;> first | rfl | omega | (unfold inR; omega) | (simp; done) | (unfold inR; simp at *; omega) | (simp at *; omega) | (intros; contradiction))) | fail)
      exact hk
end Go.Proofs.YtoibcfioicdlhaaGreatDoor
namespace Go.Proofs.YtoibcfioicdlhaaGreatDoor
open Go.Vx
set_option maxRecDepth 100000

def lookI : Sn → Int → Nat → Option (Nat × (Int × Int))
  | [], _, _ => none
  | p :: r, x, i => bif x == p.1 then some (i, p.2) else lookI r x (i + 1)
def memI : List Int → Int → Nat → Option Nat
  | [], _, _ => none
  | p :: r, x, i => bif x == p then some i else memI r x (i + 1)
def agS (p : Int × Int) : V := .ag [.d (.int .i64 p.1), .d (.int .i64 p.2)]
theorem fnd_seen (x : Int) : ∀ (s : Sn) (i : Nat), fnd [0, 3] [.d (.int .i64 x)] (mpOf (seenM s)) i = some ((lookI s x i).map fun r => (r.1, agS r.2))
  | [], i => rfl
  | p :: r, i => by
    show (bif x == p.1 && true then some (some (i, agS p.2)) else fnd [0, 3] [.d (.int .i64 x)] (mpOf (seenM r)) (i + 1)) = some (Option.map _ (bif x == p.1 then some (i, p.2) else lookI r x (i + 1)))
    cases x == p.1 with
    | true => rfl
    | false => exact fnd_seen x r (i + 1)
theorem fnd_open (x : Int) : ∀ (l : List Int) (i : Nat), fnd [0, 3] [.d (.int .i64 x)] (mpOf (openM l)) i = some ((memI l x i).map fun j => (j, .d (.bool true)))
  | [], i => rfl
  | p :: r, i => by
    show (bif x == p && true then some (some (i, V.d (.bool true))) else fnd [0, 3] [.d (.int .i64 x)] (mpOf (openM r)) (i + 1)) = some (Option.map _ (bif x == p then some i else memI r x (i + 1)))
    cases x == p with
    | true => rfl
    | false => exact fnd_open x r (i + 1)
def ins (l : List Int) (x : Int) : List Int := match memI l x 0 with
  | some _ => l
  | none => l ++ [x]
def era (l : List Int) (x : Int) : List Int := match memI l x 0 with
  | some i => l.eraseIdx i
  | none => l
theorem memI_get {x : Int} : ∀ {l : List Int} {i j : Nat}, memI l x i = some j → i ≤ j ∧ l[j - i]? = some x
  | [], _, _, h => by cases h
  | p :: r, i, j, h => by
    simp only [memI] at h
    cases hx : x == p with
    | true =>
      rw [hx] at h
      simp only [cond_true, Option.some.injEq] at h
      subst h
      simp only [beq_iff_eq] at hx
      simp [hx]
    | false =>
      rw [hx] at h
      simp only [cond_false] at h
      obtain ⟨h1, h2⟩ := memI_get h
      refine ⟨by omega, ?_⟩
      rw [show j - i = (j - (i + 1)) + 1 by omega]
      simpa using h2
theorem open_set {l : List Int} {x : Int} {j : Nat} (h : memI l x 0 = some j) : (openM l).set j (.int .i64 x, false, [.bool true]) = openM l := by
  obtain ⟨_, h2⟩ := memI_get h
  rw [Nat.sub_zero] at h2
  refine List.ext_getElem? fun k => ?_
  rw [List.getElem?_set]
  split
  · rename_i hk
    subst hk
    have hlt : j < l.length := (List.getElem?_eq_some_iff.1 h2).1
    rw [if_pos (by simpa [openM] using hlt)]
    simp [openM, h2]
  · rfl
theorem open_app (l : List Int) (x : Int) : openM l ++ [(.int .i64 x, false, [.bool true])] = openM (l ++ [x]) := by simp [openM]
theorem open_erase (l : List Int) (j : Nat) : (openM l).eraseIdx j = openM (l.eraseIdx j) := by simp [openM, erase_map]
theorem seen_app (s : Sn) (x : Int) (p : Int × Int) : seenM s ++ [(.int .i64 x, true, [.int .i64 p.1, .int .i64 p.2])] = seenM (s ++ [(x, p)]) := by simp [seenM]

/-- Reached, if it may be. -/
def rch (s : Sn) (l : List Int) (x : Int) (p : Int × Int) : Option (Sn × List Int) :=
  match lookI s x 0 with
  | some r => bif r.2.1 == p.1 && (r.2.2 == p.2 && true) then some (s, l) else none
  | none => some (s ++ [(x, p)], ins l x)

set_option maxRecDepth 100000 in
theorem reach82 {K : Out → H → Prop} (im : Im) (fn : Fn) (s : Sn) (l : List Int) (f x : Int) (p : Int × Int)
    (hk : match rch s l x p with
      | some q => K (.ret (.tu [])) (wB im fn q.1 q.2)
      | none => K (.pan (flt f 8)) (wB im fn s l)) : Sat Tryz.prog 82 [.p 0 0, .d (.int .i64 f), .d (.int .i64 x), agS p] (wB im fn s l) K := by
  have hs := fnd_seen x s 0
  have ho := fnd_open x l 0
  unfold rch at hk
  cases hl : lookI s x 0 with
  | some r =>
    rw [hl] at hk hs
    refine s82 (keep := false) rfl ?_
    repeat' ((conv => whnf); first | ((with_reducible refine And.intro (?_ : @Eq Out _ _) (?_ : @Eq H _ _)) <;> exact rfl) | ((with_reducible refine And.intro (?_ : @Eq Out _ _) (?_ : @Eq H _ _)); rotate_left; exact rfl) | intro _ | refine And.intro rfl ?_ | refine apn_own ?_ | refine bsn_data ?_ | refine fro_nil ?_ | refine cfo_old ?_ | ((first | refine .inl (And.intro ?_ ?_) | refine And.intro ?_ ?_); focus ((repeat' apply And.intro) <;> first | rfl | omega | (unfold inR; omega) | (simp; done) | (unfold inR; simp at *; omega) | (simp at *; omega) | (intros; contradiction))) | fail)
    refine ⟨_, hs, ?_⟩
    repeat' ((conv => whnf); first | ((with_reducible refine And.intro (?_ : @Eq Out _ _) (?_ : @Eq H _ _)) <;> exact rfl) | ((with_reducible refine And.intro (?_ : @Eq Out _ _) (?_ : @Eq H _ _)); rotate_left; exact rfl) | intro _ | refine And.intro rfl ?_ | refine apn_own ?_ | refine bsn_data ?_ | refine fro_nil ?_ | refine cfo_old ?_ | ((first | refine .inl (And.intro ?_ ?_) | refine And.intro ?_ ?_); focus ((repeat' apply And.intro) <;> first | rfl | omega | (unfold inR; omega) | (simp; done) | (unfold inR; simp at *; omega) | (simp at *; omega) | (intros; contradiction))) | fail)
    refine must118 _ _ _ (fun hb => ?_) (fun hb => ?_)
    · replace hb : (r.2.1 == p.1 && (r.2.2 == p.2 && true)) = true := hb
      simp only [hb] at hk
      replace hk : K (.ret (.tu [])) (wB im fn s l) := hk
      repeat' ((conv => whnf); first | ((with_reducible refine And.intro (?_ : @Eq Out _ _) (?_ : @Eq H _ _)) <;> exact rfl) | ((with_reducible refine And.intro (?_ : @Eq Out _ _) (?_ : @Eq H _ _)); rotate_left; exact rfl) | intro _ | refine And.intro rfl ?_ | refine apn_own ?_ | refine bsn_data ?_ | refine fro_nil ?_ | refine cfo_old ?_ | ((first | refine .inl (And.intro ?_ ?_) | refine And.intro ?_ ?_); focus ((repeat' apply And.intro) <;> first | rfl | omega | (unfold inR; omega) | (simp; done) | (unfold inR; simp at *; omega) | (simp at *; omega) | (intros; contradiction))) | fail)
      exact hk
    · replace hb : (r.2.1 == p.1 && (r.2.2 == p.2 && true)) = false := hb
      simp only [hb] at hk
      replace hk : K (.pan (flt f 8)) (wB im fn s l) := hk
      repeat' ((conv => whnf); first | ((with_reducible refine And.intro (?_ : @Eq Out _ _) (?_ : @Eq H _ _)) <;> exact rfl) | ((with_reducible refine And.intro (?_ : @Eq Out _ _) (?_ : @Eq H _ _)); rotate_left; exact rfl) | intro _ | refine And.intro rfl ?_ | refine apn_own ?_ | refine bsn_data ?_ | refine fro_nil ?_ | refine cfo_old ?_ | ((first | refine .inl (And.intro ?_ ?_) | refine And.intro ?_ ?_); focus ((repeat' apply And.intro) <;> first | rfl | omega | (unfold inR; omega) | (simp; done) | (unfold inR; simp at *; omega) | (simp at *; omega) | (intros; contradiction))) | fail)
      exact hk
  | none =>
    rw [hl] at hk hs
    replace hk : K (.ret (.tu [])) (wB im fn (s ++ [(x, p)]) (ins l x)) := hk
    have h1 := seen_app s x p
    cases hm : memI l x 0 with
    | some j =>
      rw [hm] at ho
      have e : wB im fn (s ++ [(x, p)]) (ins l x) = [.cells [.d (.sl 5 (im.cs.map encV)), .d (.sl 3 (im.fs.map encFn)), .d (.int .i64 fn.args), .d (.int .i64 fn.vars), .d (.sl 2 (fn.code.map encO)), .mp 1, .mp 2],
          .dm (seenM s ++ [(.int .i64 x, true, [.int .i64 p.1, .int .i64 p.2])]), .dm ((openM l).set j (.int .i64 x, false, [.bool true]))] := by
        rw [h1, open_set hm]
        simp only [wB, ins, hm]
      rw [e] at hk
      refine s82 (keep := false) rfl ?_
      repeat' ((conv => whnf); first | ((with_reducible refine And.intro (?_ : @Eq Out _ _) (?_ : @Eq H _ _)) <;> exact rfl) | ((with_reducible refine And.intro (?_ : @Eq Out _ _) (?_ : @Eq H _ _)); rotate_left; exact rfl) | intro _ | refine And.intro rfl ?_ | refine ⟨_, hs, ?_⟩ | refine (hs).use ?_ | refine ⟨_, ho, ?_⟩ | refine (ho).use ?_ | refine apn_own ?_ | refine bsn_data ?_ | refine fro_nil ?_ | refine cfo_old ?_ | ((first | refine .inl (And.intro ?_ ?_) | refine And.intro ?_ ?_); focus ((repeat' apply And.intro) <;> first | rfl | omega | (unfold inR; omega) | (simp; done) | (unfold inR; simp at *; omega) | (simp at *; omega) | (intros; contradiction))) | fail)
      exact hk
    | none =>
      rw [hm] at ho
      have e : wB im fn (s ++ [(x, p)]) (ins l x) = [.cells [.d (.sl 5 (im.cs.map encV)), .d (.sl 3 (im.fs.map encFn)), .d (.int .i64 fn.args), .d (.int .i64 fn.vars), .d (.sl 2 (fn.code.map encO)), .mp 1, .mp 2],
          .dm (seenM s ++ [(.int .i64 x, true, [.int .i64 p.1, .int .i64 p.2])]), .dm (openM l ++ [(.int .i64 x, false, [.bool true])])] := by
        rw [h1, open_app]
        simp only [wB, ins, hm]
      rw [e] at hk
      refine s82 (keep := false) rfl ?_
      repeat' ((conv => whnf); first | ((with_reducible refine And.intro (?_ : @Eq Out _ _) (?_ : @Eq H _ _)) <;> exact rfl) | ((with_reducible refine And.intro (?_ : @Eq Out _ _) (?_ : @Eq H _ _)); rotate_left; exact rfl) | intro _ | refine And.intro rfl ?_ | refine ⟨_, hs, ?_⟩ | refine (hs).use ?_ | refine ⟨_, ho, ?_⟩ | refine (ho).use ?_ | refine apn_own ?_ | refine bsn_data ?_ | refine fro_nil ?_ | refine cfo_old ?_ | ((first | refine .inl (And.intro ?_ ?_) | refine And.intro ?_ ?_); focus ((repeat' apply And.intro) <;> first | rfl | omega | (unfold inR; omega) | (simp; done) | (unfold inR; simp at *; omega) | (simp at *; omega) | (intros; contradiction))) | fail)
      exact hk
end Go.Proofs.YtoibcfioicdlhaaGreatDoor
