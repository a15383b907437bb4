/- Programs that are verified: verify.Check, verify.Depths in the picture. Conditions: the program is right. -/
import Derived.Test.YtoibcfioicdlhaaGreatDoorV5
namespace Go.Proofs.YtoibcfioicdlhaaGreatDoor
open Go.Vx

def checkV (im : Im) (N : Nat) : List Fn → Int → Option (Int × Int × Int)
  | [], _ => some (0, 0, 0)
  | fn :: r, i => match traceV im fn N with
    | none => none
    | some (.ok _) => checkV im N r (i + 1)
    | some (.error e) => bif e.2 != 0 then some (i, e.1, e.2) else checkV im N r (i + 1)

def agR3 (r : Int × Int × Int) : V := .tu [.d (.int .i64 r.1), .d (.int .i64 r.2.1), .d (.int .i64 r.2.2)]
set_option maxRecDepth 100000 in
set_option maxHeartbeats 4000000 in
theorem check17 (im : Im) (hI : OkIm im) (N : Nat) (r : Int × Int × Int) (hr : checkV im N im.fs 0 = some r) : SatP Tryz.prog 17 [agI im] (agR3 r) := by
  have hc := check35 im hI
  have hfl := hI.f2
  refine s17 (keep := false) rfl ?_
  repeat' ((conv => whnf); first | exact And.intro rfl rfl | refine And.intro (?_ : _ = Out.ret _) rfl | intro _ | refine And.intro rfl ?_ | refine ⟨_, hc, ?_⟩ | refine (hc).use ?_ | refine apn_own ?_ | refine bsn_data ?_ | refine fro_nil ?_ | refine cfo_old ?_ | ((first | refine .inl (And.intro ?_ ?_) | refine And.intro ?_ ?_); focus ((repeat' apply And.intro) <;> first | rfl | omega | (unfold inR; omega) | (simp; done) | (unfold inR; simp at *; omega) | (simp at *; omega) | (intros; contradiction))) | fail)
  conv => whnf
  refine loop_use2 [(1, .p 0 0), (16, .d (.int .i64 (im.fs.map encFn).length))] (fun i : Nat => i ≤ im.fs.length ∧ checkV im N (im.fs.drop i) i = some r) (fun i => [(17, .d (.int .i64 i))]) (fun _ => [.cells [.d (.sl 5 (im.cs.map encV)), .d (.sl 3 (im.fs.map encFn))]]) (fun i => im.fs.length - i) 0 ⟨Nat.zero_le _, by simpa using hr⟩ ?_ ?_ ?_ (fun i ⟨hi, he⟩ => ?_)
  · exact (by repeat' (first | exact trivial | exact rfl | exact Or.inl rfl | refine And.intro ?_ ?_ | refine Or.inr ?_))
  · exact (by repeat' (first | exact trivial | exact rfl | exact Or.inl rfl | refine And.intro ?_ ?_ | refine Or.inr ?_))
  · exact rfl
  repeat' ((conv => whnf); first | exact And.intro rfl rfl | refine And.intro (?_ : _ = Out.ret _) rfl | intro _ | refine And.intro rfl ?_ | refine apn_own ?_ | refine bsn_data ?_ | refine fro_nil ?_ | refine cfo_old ?_ | ((first | refine .inl (And.intro ?_ ?_) | refine And.intro ?_ ?_); focus ((repeat' apply And.intro) <;> first | rfl | omega | (unfold inR; omega) | (simp; done) | (unfold inR; simp at *; omega) | (simp at *; omega) | (intros; contradiction))) | fail)
  refine sp_intro (fun hlt => ?_) (fun hge => ?_)
  · have hlt : i < im.fs.length := by simpa using hlt
    obtain ⟨fn, hf⟩ : ∃ fn, im.fs[i]? = some fn := ⟨_, List.getElem?_eq_getElem hlt⟩
    have hdr : im.fs.drop i = fn :: im.fs.drop (i + 1) := by
      rw [List.drop_eq_getElem_cons hlt]
      rw [List.getElem?_eq_getElem hlt] at hf
      cases hf
      rfl
    rw [hdr] at he
    simp only [checkV] at he
    cases hT : traceV im fn N with
    | none => rw [hT] at he; cases he
    | some R =>
      rw [hT] at he
      repeat' ((conv => whnf); first | exact And.intro rfl rfl | refine And.intro (?_ : _ = Out.ret _) rfl | intro _ | refine And.intro rfl ?_ | refine apn_own ?_ | refine bsn_data ?_ | refine fro_nil ?_ | refine cfo_old ?_ | ((first | refine .inl (And.intro ?_ ?_) | refine And.intro ?_ ?_); focus ((repeat' apply And.intro) <;> first | rfl | omega | (unfold inR; omega) | (simp; done) | (unfold inR; simp at *; omega) | (simp at *; omega) | (intros; contradiction))) | fail)
      refine trace36 im hI i fn hf N R hT ?_
      cases R with
      | ok s =>
        repeat' ((conv => whnf); first | exact And.intro rfl rfl | refine And.intro (?_ : _ = Out.ret _) rfl | intro _ | refine And.intro rfl ?_ | refine (.inl ⟨by unfold inR; omega, ?_⟩) | refine apn_own ?_ | refine bsn_data ?_ | refine fro_nil ?_ | refine cfo_old ?_ | ((first | refine .inl (And.intro ?_ ?_) | refine And.intro ?_ ?_); focus ((repeat' apply And.intro) <;> first | rfl | omega | (unfold inR; omega) | (simp; done) | (unfold inR; simp at *; omega) | (simp at *; omega) | (intros; contradiction))) | fail)
        refine ⟨i + 1, ⟨hlt, by simpa using he⟩, Nat.sub_lt_sub_left hlt (Nat.lt_succ_self i), (by repeat' (first | exact trivial | exact rfl | exact Or.inl rfl | refine And.intro ?_ ?_ | refine Or.inr ?_)), (by repeat' (first | exact trivial | exact rfl | exact Or.inl rfl | refine And.intro ?_ ?_ | refine Or.inr ?_)), rfl⟩
      | error e =>
        simp only at he
        cases hz : e.2 != 0 with
        | false =>
          rw [hz] at he
          repeat' ((conv => whnf); first | exact And.intro rfl rfl | refine And.intro (?_ : _ = Out.ret _) rfl | intro _ | refine And.intro rfl ?_ | refine (sp_f hz ?_) | refine (.inl ⟨by unfold inR; omega, ?_⟩) | refine apn_own ?_ | refine bsn_data ?_ | refine fro_nil ?_ | refine cfo_old ?_ | ((first | refine .inl (And.intro ?_ ?_) | refine And.intro ?_ ?_); focus ((repeat' apply And.intro) <;> first | rfl | omega | (unfold inR; omega) | (simp; done) | (unfold inR; simp at *; omega) | (simp at *; omega) | (intros; contradiction))) | fail)
          refine ⟨i + 1, ⟨hlt, by simpa using he⟩, Nat.sub_lt_sub_left hlt (Nat.lt_succ_self i), (by repeat' (first | exact trivial | exact rfl | exact Or.inl rfl | refine And.intro ?_ ?_ | refine Or.inr ?_)), (by repeat' (first | exact trivial | exact rfl | exact Or.inl rfl | refine And.intro ?_ ?_ | refine Or.inr ?_)), rfl⟩
        | true =>
          rw [hz] at he
          simp only [cond_true, Option.some.injEq] at he
          subst he
          repeat' ((conv => whnf); first | exact And.intro rfl rfl | refine And.intro (?_ : _ = Out.ret _) rfl | intro _ | refine And.intro rfl ?_ | refine (sp_t hz ?_) | refine apn_own ?_ | refine bsn_data ?_ | refine fro_nil ?_ | refine cfo_old ?_ | ((first | refine .inl (And.intro ?_ ?_) | refine And.intro ?_ ?_); focus ((repeat' apply And.intro) <;> first | rfl | omega | (unfold inR; omega) | (simp; done) | (unfold inR; simp at *; omega) | (simp at *; omega) | (intros; contradiction))) | fail)
  · have hge : i = im.fs.length := by
      have : ¬ i < im.fs.length := by simpa using hge
      omega
    rw [hge, List.drop_length] at he
    simp only [checkV, Option.some.injEq] at he
    subst he
    repeat' ((conv => whnf); first | exact And.intro rfl rfl | refine And.intro (?_ : _ = Out.ret _) rfl | intro _ | refine And.intro rfl ?_ | refine apn_own ?_ | refine bsn_data ?_ | refine fro_nil ?_ | refine cfo_old ?_ | ((first | refine .inl (And.intro ?_ ?_) | refine And.intro ?_ ?_); focus ((repeat' apply And.intro) <;> first | rfl | omega | (unfold inR; omega) | (simp; done) | (unfold inR; simp at *; omega) | (simp at *; omega) | (intros; contradiction))) | fail)
theorem check17E : SatP Tryz.prog 17 [agI ⟨[], []⟩] (agR3 (0, 0, 6)) := by
  have hc := check35E
  refine s17 (keep := false) rfl ?_
  repeat' ((conv => whnf); first | exact And.intro rfl rfl | refine And.intro (?_ : _ = Out.ret _) rfl | intro _ | refine And.intro rfl ?_ | refine ⟨_, hc, ?_⟩ | refine (hc).use ?_ | refine apn_own ?_ | refine bsn_data ?_ | refine fro_nil ?_ | refine cfo_old ?_ | ((first | refine .inl (And.intro ?_ ?_) | refine And.intro ?_ ?_); focus ((repeat' apply And.intro) <;> first | rfl | omega | (unfold inR; omega) | (simp; done) | (unfold inR; simp at *; omega) | (simp at *; omega) | (intros; contradiction))) | fail)

def depthsV (n : Nat) (s : Sn) : List Int := (List.range n).map fun (p : Nat) => match lookI s (p : Int) 0 with
  | some r => r.2.1
  | none => -1
def toldA (n i : Nat) : List Int := List.replicate i (-1) ++ List.replicate (n - i) 0
theorem toldA_set {n i : Nat} (h : i < n) : (rowsI (toldA n i)).set i [.int .i64 (-1)] = rowsI (toldA n (i + 1)) := by
  have e1 : List.replicate (n - i) (0 : Int) = 0 :: List.replicate (n - (i + 1)) 0 := by
    rw [show n - i = (n - (i + 1)) + 1 by omega, List.replicate_succ]
  have e2 : (rowsI (toldA n i)) = List.replicate i [.int .i64 (-1)] ++ ([D.int .i64 0] :: List.replicate (n - (i + 1)) [.int .i64 0]) := by
    simp only [rowsI, toldA, e1, List.map_append, List.map_replicate, List.map_cons]
  have e3 : rowsI (toldA n (i + 1)) = List.replicate i [.int .i64 (-1)] ++ ([D.int .i64 (-1)] :: List.replicate (n - (i + 1)) [.int .i64 0]) := by
    simp only [rowsI, toldA, List.map_append, List.map_replicate]
    rw [List.replicate_succ', List.append_assoc]
    rfl
  rw [e2, e3, List.set_append, if_neg (by simp)]
  simp
theorem toldA_get {n i : Nat} (h : i < n) : (rowsI (toldA n i))[i]? = some [.int .i64 0] := by
  simp only [rowsI, toldA, List.map_append, List.map_replicate]
  rw [List.getElem?_append_right (by simp)]
  simp [List.getElem?_replicate]
  omega

def depV (s : Sn) (k : Int) : Int := match lookI s k 0 with
  | some r => r.2.1
  | none => -1
def toldK (n : Nat) (s : Sn) (ks : List Int) : List Int := (List.range n).map fun (p : Nat) => if (p : Int) ∈ ks then depV s p else -1
theorem toldA_end (n : Nat) (s : Sn) : rowsI (toldA n n) = rowsI (toldK n s []) := by
  congr 1
  simp [toldA, toldK, List.map_const']
theorem lookI_mem {x : Int} : ∀ {s : Sn} (i : Nat), x ∈ s.map (·.1) → ∃ r, lookI s x i = some r
  | p :: r, i, h => by
    simp only [lookI]
    cases hx : x == p.1 with
    | true => exact ⟨_, rfl⟩
    | false =>
      rw [List.map_cons] at h
      rcases List.mem_cons.1 h with h | h
      · subst h; simp at hx
      · exact lookI_mem (i + 1) h
theorem lookI_none {x : Int} : ∀ {s : Sn} (i : Nat), ¬ x ∈ s.map (·.1) → lookI s x i = none
  | [], _, _ => rfl
  | p :: r, i, h => by
    simp only [List.map_cons, List.mem_cons, not_or] at h
    have hx : (x == p.1) = false := by simpa using h.1
    simp only [lookI, hx, cond_false]
    exact lookI_none (i + 1) h.2
theorem told_step {s : Sn} {n i : Nat} {k : Int} (hk : (srt (s.map (·.1)))[i]? = some k) (h1 : okKs (s.map (·.1)) = true) (h2 : ∀ p ∈ s, p.1 < n) :
    ∃ r, lookI s k 0 = some r ∧ 0 ≤ k ∧ k < n ∧ (rowsI (toldK n s ((srt (s.map (·.1))).take i))).set k.toNat [.int .i64 r.2.1] = rowsI (toldK n s ((srt (s.map (·.1))).take (i + 1))) ∧ ∃ q, (rowsI (toldK n s ((srt (s.map (·.1))).take i)))[k.toNat]? = some [.int .i64 q] := by
  simp only [okKs, Bool.and_eq_true, decide_eq_true_eq, List.all_eq_true] at h1
  have hm : k ∈ s.map (·.1) := (List.mergeSort_perm _ _).mem_iff.1 (List.mem_of_getElem? hk)
  obtain ⟨r, hr⟩ := lookI_mem 0 hm
  have k0 := (h1.2.2 k hm).1
  obtain ⟨p, hp, rfl⟩ := List.mem_map.1 hm
  have k1 := h2 p hp
  refine ⟨r, hr, k0, k1, ?_, ?_⟩
  · refine List.ext_getElem? fun j => ?_
    rw [List.getElem?_set, List.take_add_one, hk]
    simp only [rowsI, toldK, List.getElem?_map, List.length_map, List.length_range, Option.toList_some, List.mem_append, List.mem_singleton]
    by_cases hj : p.1.toNat = j
    · subst hj
      have e : ((p.1.toNat : Nat) : Int) = p.1 := Int.toNat_of_nonneg k0
      have hd : depV s p.1 = r.2.1 := by simp only [depV, hr]
      rw [if_pos rfl, if_pos (by omega), List.getElem?_range (by omega)]
      simp only [Option.map_some, e, or_true, if_true, hd]
    · rw [if_neg hj]
      by_cases hjn : j < n
      · rw [List.getElem?_range hjn]
        have : ¬ (j : Int) = p.1 := by omega
        simp only [Option.map_some, this, or_false]
      · simp [hjn]
  · obtain ⟨v, hv⟩ : ∃ v, (toldK n s ((srt (s.map (·.1))).take i))[p.1.toNat]? = some v := ⟨_, List.getElem?_eq_getElem (by simp [toldK]; omega)⟩
    exact ⟨v, by simp only [rowsI, List.getElem?_map, hv, Option.map_some]⟩
theorem told0 (l : List Op) : B.rows 1 (List.replicate ((l.map encO).length : Int).toNat [D.int .i64 0]) = .rows 1 (rowsI (toldA l.length 0)) := by simp [rowsI, toldA]
theorem told0l (l : List Op) : V.d (.int .i64 (List.replicate ((l.map encO).length : Int).toNat [D.int .i64 0]).length) = .d (.int .i64 l.length) := by simp
set_option maxRecDepth 100000 in
set_option maxHeartbeats 4000000 in
theorem depths18 (im : Im) (hI : OkIm im) (N f : Nat) (fn : Fn) (hf : im.fs[f]? = some fn) (hc : checkV im N im.fs 0 = some (0, 0, 0)) (s : Sn) (hT : traceV im fn N = some (.ok s)) (hk1 : okKs (s.map (·.1)) = true) (hk2 : ∀ p ∈ s, p.1 < fn.code.length) :
    SatP Tryz.prog 18 [agI im, .d (.int .i64 f)] (.d (.sl 1 (rowsI (depthsV fn.code.length s)))) := by
  have hch := check17 im hI N _ hc
  have hfl := hI.f2
  have hlt : f < im.fs.length := (List.getElem?_eq_some_iff.1 hf).1
  have hfn := hI.f3 fn (List.mem_of_getElem? hf)
  simp only [okFn, Bool.and_eq_true, decide_eq_true_eq, List.all_eq_true] at hfn
  have f7 := hfn.2.2.2.2.2.2.1
  refine s18 (keep := false) rfl ?_
  repeat' ((conv => whnf); first | exact And.intro rfl rfl | refine And.intro (?_ : _ = Out.ret _) rfl | intro _ | refine And.intro rfl ?_ | refine ⟨_, hch, ?_⟩ | refine (hch).use ?_ | refine apn_own ?_ | refine bsn_data ?_ | refine fro_nil ?_ | refine cfo_old ?_ | ((first | refine .inl (And.intro ?_ ?_) | refine And.intro ?_ ?_); focus ((repeat' apply And.intro) <;> first | rfl | omega | (unfold inR; omega) | (simp; done) | (unfold inR; simp at *; omega) | (simp at *; omega) | (intros; contradiction))) | refine sp_t (by first | (simp; done) | (simp; omega) | (simp at *; omega) | exact beq_eq_false_iff_ne.2 (by omega) | exact beq_eq_false_iff_ne.2 (by simp only [List.length_map]; omega) | exact beq_iff_eq.2 (by simp only [List.length_map]; omega) | exact bne_iff_ne.2 (by simp only [List.length_map]; omega)) ?_ | refine sp_f (by first | (simp; done) | (simp; omega) | (simp at *; omega) | exact beq_eq_false_iff_ne.2 (by omega) | exact beq_eq_false_iff_ne.2 (by simp only [List.length_map]; omega) | exact beq_iff_eq.2 (by simp only [List.length_map]; omega) | exact bne_iff_ne.2 (by simp only [List.length_map]; omega)) ?_ | fail)
  refine trace36 im hI f fn hf N _ hT ?_
  repeat' ((conv => whnf); first | exact And.intro rfl rfl | refine And.intro (?_ : _ = Out.ret _) rfl | intro _ | refine And.intro rfl ?_ | refine apn_own ?_ | refine bsn_data ?_ | refine fro_nil ?_ | refine cfo_old ?_ | ((first | refine .inl (And.intro ?_ ?_) | refine And.intro ?_ ?_); focus ((repeat' apply And.intro) <;> first | rfl | omega | (unfold inR; omega) | (simp; done) | (unfold inR; simp at *; omega) | (simp at *; omega) | (intros; contradiction))) | fail)
  refine ⟨encFn fn, ⟨by omega, by simp [hf], rfl⟩, ?_⟩
  repeat' ((conv => whnf); first | exact And.intro rfl rfl | refine And.intro (?_ : _ = Out.ret _) rfl | intro _ | refine And.intro rfl ?_ | refine apn_own ?_ | refine bsn_data ?_ | refine fro_nil ?_ | refine cfo_old ?_ | ((first | refine .inl (And.intro ?_ ?_) | refine And.intro ?_ ?_); focus ((repeat' apply And.intro) <;> first | rfl | omega | (unfold inR; omega) | (simp; done) | (unfold inR; simp at *; omega) | (simp at *; omega) | (intros; contradiction))) | fail)
  conv => whnf
  refine loop_use2 [(8, .mp 2), (10, .os 4), (48, .d (.int .i64 fn.code.length))] (fun i : Nat => i ≤ fn.code.length) (fun i => [(49, .d (.int .i64 i))]) (fun i => [.cells [.d (.sl 5 (im.cs.map encV)), .d (.sl 3 (im.fs.map encFn))], .rows 1 [], .dm (seenM s), .cells [.d (.int .i64 0), .d (.int .i64 0)], .rows 1 (rowsI (toldA fn.code.length i))]) (fun i => fn.code.length - i) 0 (Nat.zero_le _) ?_ ?_ ?_ (fun i hi => ?_)
  · exact ⟨wkb_of rfl, wkb_of rfl, wkb_of rfl, wkb_of (told0l fn.code), trivial⟩
  · exact ⟨wkB_of rfl, wkB_of rfl, wkB_of rfl, wkB_of rfl, wkB_of (told0 fn.code), trivial⟩
  · exact (by kernel_rfl)
  have htl : (rowsI (toldA fn.code.length i)).length = fn.code.length := by simp [rowsI, toldA]; omega
  repeat' ((conv => whnf); first | exact And.intro rfl rfl | refine And.intro (?_ : _ = Out.ret _) rfl | intro _ | refine And.intro rfl ?_ | refine apn_own ?_ | refine bsn_data ?_ | refine fro_nil ?_ | refine cfo_old ?_ | ((first | refine .inl (And.intro ?_ ?_) | refine And.intro ?_ ?_); focus ((repeat' apply And.intro) <;> first | rfl | omega | (unfold inR; omega) | (simp; done) | (unfold inR; simp at *; omega) | (simp at *; omega) | (intros; contradiction))) | fail)
  refine sp_intro (fun hb => ?_) (fun hge => ?_)
  · have hlt : i < fn.code.length := by simpa using hb
    have hg := toldA_get hlt
    have hse := toldA_set hlt
    repeat' ((conv => whnf); first | exact And.intro rfl rfl | refine And.intro (?_ : _ = Out.ret _) rfl | intro _ | refine And.intro rfl ?_ | refine (And.intro ⟨by omega, by omega, rfl⟩ ?_) | refine ⟨_, hg, ?_⟩ | refine (hg).use ?_ | refine (.inl ⟨by unfold inR; omega, ?_⟩) | refine apn_own ?_ | refine bsn_data ?_ | refine fro_nil ?_ | refine cfo_old ?_ | ((first | refine .inl (And.intro ?_ ?_) | refine And.intro ?_ ?_); focus ((repeat' apply And.intro) <;> first | rfl | omega | (unfold inR; omega) | (simp; done) | (unfold inR; simp at *; omega) | (simp at *; omega) | (intros; contradiction))) | fail)
    refine ⟨i + 1, hlt, Nat.sub_lt_sub_left hlt (Nat.lt_succ_self i), (by repeat' (first | exact trivial | exact rfl | exact Or.inl rfl | refine And.intro ?_ ?_ | refine Or.inr ?_)), ⟨wkB_of rfl, wkB_of rfl, wkB_of rfl, wkB_of rfl, wkB_of (congrArg (B.rows 1) hse), trivial⟩, rfl⟩
  · have hge : i = fn.code.length := by
      have : ¬ i < fn.code.length := by simpa using hge
      omega
    subst hge
    have hsrt := sorted_seen s hk1
    repeat' ((conv => whnf); first | exact And.intro rfl rfl | refine And.intro (?_ : _ = Out.ret _) rfl | intro _ | refine And.intro rfl ?_ | refine (.inr ?_ : (∃ _, _) ∨ _) | refine apn_own ?_ | refine bsn_data ?_ | refine fro_nil ?_ | refine cfo_old ?_ | ((first | refine .inl (And.intro ?_ ?_) | refine And.intro ?_ ?_); focus ((repeat' apply And.intro) <;> first | rfl | omega | (unfold inR; omega) | (simp; done) | (unfold inR; simp at *; omega) | (simp at *; omega) | (intros; contradiction))) | fail)
    refine keys38 _ ?_
    repeat' ((conv => whnf); first | exact And.intro rfl rfl | refine And.intro (?_ : _ = Out.ret _) rfl | intro _ | refine And.intro rfl ?_ | refine (.inr ?_ : (∃ _, _) ∨ _) | refine apn_own ?_ | refine bsn_data ?_ | refine fro_nil ?_ | refine cfo_old ?_ | ((first | refine .inl (And.intro ?_ ?_) | refine And.intro ?_ ?_); focus ((repeat' apply And.intro) <;> first | rfl | omega | (unfold inR; omega) | (simp; done) | (unfold inR; simp at *; omega) | (simp at *; omega) | (intros; contradiction))) | fail)
    refine hsrt.mono fun out h' hh => ?_
    obtain ⟨rfl, rfl⟩ := hh
    repeat' ((conv => whnf); first | exact And.intro rfl rfl | refine And.intro (?_ : _ = Out.ret _) rfl | intro _ | refine And.intro rfl ?_ | refine apn_own ?_ | refine bsn_data ?_ | refine fro_nil ?_ | refine cfo_old ?_ | ((first | refine .inl (And.intro ?_ ?_) | refine And.intro ?_ ?_); focus ((repeat' apply And.intro) <;> first | rfl | omega | (unfold inR; omega) | (simp; done) | (unfold inR; simp at *; omega) | (simp at *; omega) | (intros; contradiction))) | fail)
    conv => whnf
    refine loop_use2 [(8, .mp 2), (10, .os 4), (58, .os 6), (59, .d (.int .i64 (rowsI (srt (s.map (·.1)))).length))] (fun i : Nat => i ≤ (srt (s.map (·.1))).length) (fun i => [(60, .d (.int .i64 i))]) (fun i => [.cells [.d (.sl 5 (im.cs.map encV)), .d (.sl 3 (im.fs.map encFn))], .rows 1 [], .dm (seenM s), .cells [.d (.int .i64 0), .d (.int .i64 0)], .rows 1 (rowsI (toldK fn.code.length s ((srt (s.map (·.1))).take i))), .cells [.mp 2], .rows 1 (rowsI (srt (s.map (·.1))))]) (fun i => (srt (s.map (·.1))).length - i) 0 (Nat.zero_le _) ?_ ?_ ?_ (fun i hi => ?_)
    · exact ⟨wkb_of rfl, wkb_of rfl, wkb_of rfl, wkb_of rfl, wkb_of rfl, trivial⟩
    · exact ⟨wkB_of rfl, wkB_of rfl, wkB_of rfl, wkB_of rfl, wkB_of (congrArg (B.rows 1) (toldA_end _ s)), wkB_of rfl, wkB_of rfl, trivial⟩
    · exact (by kernel_rfl)
    have htk : (rowsI (toldK fn.code.length s ((srt (s.map (·.1))).take i))).length = fn.code.length := by simp [rowsI, toldK]
    have hsl : (rowsI (srt (s.map (·.1)))).length = (srt (s.map (·.1))).length := by simp [rowsI]
    repeat' ((conv => whnf); first | exact And.intro rfl rfl | refine And.intro (?_ : _ = Out.ret _) rfl | intro _ | refine And.intro rfl ?_ | refine apn_own ?_ | refine bsn_data ?_ | refine fro_nil ?_ | refine cfo_old ?_ | ((first | refine .inl (And.intro ?_ ?_) | refine And.intro ?_ ?_); focus ((repeat' apply And.intro) <;> first | rfl | omega | (unfold inR; omega) | (simp; done) | (unfold inR; simp at *; omega) | (simp at *; omega) | (intros; contradiction))) | fail)
    refine sp_intro (fun hb => ?_) (fun hge => ?_)
    · have hlt : i < (srt (s.map (·.1))).length := by
        have : (i : Int) < ((rowsI (srt (s.map (·.1)))).length : Int) := by simpa using hb
        omega
      obtain ⟨k, hk⟩ : ∃ k, (srt (s.map (·.1)))[i]? = some k := ⟨_, List.getElem?_eq_getElem hlt⟩
      obtain ⟨r, hr, k0, k1, hse, row, hrow⟩ := told_step (n := fn.code.length) hk hk1 hk2
      have hfn := fnd_seen k s 0
      rw [hr] at hfn
      have hrk : (rowsI (srt (s.map (·.1))))[i]? = some [.int .i64 k] := by simp [rowsI, hk]
      repeat' ((conv => whnf); first | exact And.intro rfl rfl | refine And.intro (?_ : _ = Out.ret _) rfl | intro _ | refine And.intro rfl ?_ | refine (And.intro ⟨by omega, by omega, rfl⟩ ?_) | refine ⟨_, hrk, ?_⟩ | refine (hrk).use ?_ | refine ⟨_, hfn, ?_⟩ | refine (hfn).use ?_ | refine ⟨_, hrow, ?_⟩ | refine (hrow).use ?_ | refine (.inl ⟨by unfold inR; omega, ?_⟩) | refine apn_own ?_ | refine bsn_data ?_ | refine fro_nil ?_ | refine cfo_old ?_ | ((first | refine .inl (And.intro ?_ ?_) | refine And.intro ?_ ?_); focus ((repeat' apply And.intro) <;> first | rfl | omega | (unfold inR; omega) | (simp; done) | (unfold inR; simp at *; omega) | (simp at *; omega) | (intros; contradiction))) | fail)
      refine ⟨i + 1, hlt, Nat.sub_lt_sub_left hlt (Nat.lt_succ_self i), (by repeat' (first | exact trivial | exact rfl | exact Or.inl rfl | refine And.intro ?_ ?_ | refine Or.inr ?_)), ⟨wkB_of rfl, wkB_of rfl, wkB_of rfl, wkB_of rfl, wkB_of (congrArg (B.rows 1) hse), wkB_of rfl, wkB_of rfl, trivial⟩, rfl⟩
    · have hge : i = (srt (s.map (·.1))).length := by
        have : ¬ (i : Int) < ((rowsI (srt (s.map (·.1)))).length : Int) := by simpa using hge
        omega
      subst hge
      have hend : rowsI (toldK fn.code.length s ((srt (s.map (·.1))).take (srt (s.map (·.1))).length)) = rowsI (depthsV fn.code.length s) := by
        congr 1
        refine List.map_congr_left fun p _ => ?_
        rw [List.take_length]
        have hmem : (p : Int) ∈ srt (s.map (·.1)) ↔ (p : Int) ∈ s.map (·.1) := (List.mergeSort_perm _ _).mem_iff
        by_cases hm : (p : Int) ∈ s.map (·.1)
        · rw [if_pos (hmem.2 hm)]
          rfl
        · rw [if_neg (fun h => hm (hmem.1 h))]
          have : lookI s p 0 = none := lookI_none 0 hm
          rw [this]
      repeat' ((conv => whnf); first | exact And.intro rfl rfl | refine And.intro (?_ : _ = Out.ret _) rfl | intro _ | refine And.intro rfl ?_ | refine apn_own ?_ | refine bsn_data ?_ | refine fro_nil ?_ | refine cfo_old ?_ | ((first | refine .inl (And.intro ?_ ?_) | refine And.intro ?_ ?_); focus ((repeat' apply And.intro) <;> first | rfl | omega | (unfold inR; omega) | (simp; done) | (unfold inR; simp at *; omega) | (simp at *; omega) | (intros; contradiction))) | fail)
      exact outs_eq (congrArg (fun r => V.d (.sl 1 r)) hend)
end Go.Proofs.YtoibcfioicdlhaaGreatDoor
