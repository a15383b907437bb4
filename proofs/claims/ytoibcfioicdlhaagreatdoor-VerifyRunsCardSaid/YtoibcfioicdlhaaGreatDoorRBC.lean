/- Programs that are verified: verify.Check, verify.Depths in the picture. Conditions: the program is right. -/
import Derived.Test.YtoibcfioicdlhaaGreatDoorRBB
import Derived.Test.YtoibcfioicdlhaaGreatDoorRAX
import Derived.Test.YtoibcfioicdlhaaGreatDoorRAW
namespace Go.Proofs.YtoibcfioicdlhaaGreatDoor
open Go.Vx
set_option maxRecDepth 100000

def checkV (im : Im) (N : Nat) : List Fn → Int → Option (Int × Int × Int)
  | [], _ => some (0, 0, 0)
  | fn :: r, i => match traceV im fn N with
    | none => none
    | some (.ok _) => checkV im N r (i + 1)
    | some (.error e) => bif e.2 != 0 then some (i, e.1, e.2) else checkV im N r (i + 1)

def agR3 (r : Int × Int × Int) : V := .tu [.d (.int .i64 r.1), .d (.int .i64 r.2.1), .d (.int .i64 r.2.2)]
set_option maxRecDepth 100000 in
set_option maxHeartbeats 4000000 in
theorem check17 (im : Im) (hI : OkIm im) (N : Nat) (r : Int × Int × Int) (hr : checkV im N im.fs 0 = some r) : SatP Tryz.prog 17 [agI im] (agR3 r) := by
  have hc := check35 im hI
  have hfl := hI.f2
  refine s17 (keep := false) rfl ?_
  repeat' ((conv => whnf); first | ((with_reducible refine And.intro (?_ : @Eq Out _ _) (?_ : @Eq H _ _)) <;> exact rfl) | ((with_reducible refine And.intro (?_ : @Eq Out _ _) (?_ : @Eq H _ _)); rotate_left; exact rfl) | intro _ | refine And.intro rfl ?_ | refine ⟨_, hc, ?_⟩ | refine (hc).use ?_ | refine apn_own ?_ | refine bsn_data ?_ | refine fro_nil ?_ | refine cfo_old ?_ | ((first | refine .inl (And.intro ?_ ?_) | refine And.intro ?_ ?_); focus ((repeat' apply And.intro) <;> first | rfl | omega | (unfold inR; omega) | (simp; done) | (unfold inR; simp at *; omega) | (simp at *; omega) | (intros; contradiction))) | fail)
  conv => whnf
  refine loop_use2 [(1, .p 0 0), (16, .d (.int .i64 (im.fs.map encFn).length))] (fun i : Nat => i ≤ im.fs.length ∧ checkV im N (im.fs.drop i) i = some r) (fun i => [(17, .d (.int .i64 i))]) (fun _ => [.cells [.d (.sl 5 (im.cs.map encV)), .d (.sl 3 (im.fs.map encFn))]]) (fun i => im.fs.length - i) 0 ⟨Nat.zero_le _, by simpa using hr⟩ ?_ ?_ ?_ (fun i ⟨hi, he⟩ => ?_)
  · exact (by repeat' (first | exact trivial | exact rfl | exact Or.inl rfl | refine And.intro ?_ ?_ | refine Or.inr ?_))
  · exact (by repeat' (first | exact trivial | exact rfl | exact Or.inl rfl | refine And.intro ?_ ?_ | refine Or.inr ?_))
  · exact rfl
  repeat' ((conv => whnf); first | ((with_reducible refine And.intro (?_ : @Eq Out _ _) (?_ : @Eq H _ _)) <;> exact rfl) | ((with_reducible refine And.intro (?_ : @Eq Out _ _) (?_ : @Eq H _ _)); rotate_left; exact rfl) | intro _ | refine And.intro rfl ?_ | refine apn_own ?_ | refine bsn_data ?_ | refine fro_nil ?_ | refine cfo_old ?_ | ((first | refine .inl (And.intro ?_ ?_) | refine And.intro ?_ ?_); focus ((repeat' apply And.intro) <;> first | rfl | omega | (unfold inR; omega) | (simp; done) | (unfold inR; simp at *; omega) | (simp at *; omega) | (intros; contradiction))) | fail)
  refine sp_intro (fun hlt => ?_) (fun hge => ?_)
  · have hlt : i < im.fs.length := by simpa using hlt
    obtain ⟨fn, hf⟩ : ∃ fn, im.fs[i]? = some fn := ⟨_, List.getElem?_eq_getElem hlt⟩
    have hdr : im.fs.drop i = fn :: im.fs.drop (i + 1) := by
      rw [List.drop_eq_getElem_cons hlt]
      rw [List.getElem?_eq_getElem hlt] at hf
      cases hf
      rfl
    rw [hdr] at he
    simp only [checkV] at he
    cases hT : traceV im fn N with
    | none => rw [hT] at he; cases he
    | some R =>
      rw [hT] at he
      repeat' ((conv => whnf); first | ((with_reducible refine And.intro (?_ : @Eq Out _ _) (?_ : @Eq H _ _)) <;> exact rfl) | ((with_reducible refine And.intro (?_ : @Eq Out _ _) (?_ : @Eq H _ _)); rotate_left; exact rfl) | intro _ | refine And.intro rfl ?_ | refine apn_own ?_ | refine bsn_data ?_ | refine fro_nil ?_ | refine cfo_old ?_ | ((first | refine .inl (And.intro ?_ ?_) | refine And.intro ?_ ?_); focus ((repeat' apply And.intro) <;> first | rfl | omega | (unfold inR; omega) | (simp; done) | (unfold inR; simp at *; omega) | (simp at *; omega) | (intros; contradiction))) | fail)
      refine trace36 im hI i fn hf N R hT ?_
      cases R with
      | ok s =>
        repeat' ((conv => whnf); first | ((with_reducible refine And.intro (?_ : @Eq Out _ _) (?_ : @Eq H _ _)) <;> exact rfl) | ((with_reducible refine And.intro (?_ : @Eq Out _ _) (?_ : @Eq H _ _)); rotate_left; exact rfl) | intro _ | refine And.intro rfl ?_ | refine (.inl ⟨by unfold inR; omega, ?_⟩) | refine apn_own ?_ | refine bsn_data ?_ | refine fro_nil ?_ | refine cfo_old ?_ | ((first | refine .inl (And.intro ?_ ?_) | refine And.intro ?_ ?_); focus ((repeat' apply And.intro) <;> first | rfl | omega | (unfold inR; omega) | (simp; done) | (unfold inR; simp at *; omega) | (simp at *; omega) | (intros; contradiction))) | fail)
        refine ⟨i + 1, ⟨hlt, by simpa using he⟩, Nat.sub_lt_sub_left hlt (Nat.lt_succ_self i), (by repeat' (first | exact trivial | exact rfl | exact Or.inl rfl | refine And.intro ?_ ?_ | refine Or.inr ?_)), (by repeat' (first | exact trivial | exact rfl | exact Or.inl rfl | refine And.intro ?_ ?_ | refine Or.inr ?_)), rfl⟩
      | error e =>
        simp only at he
        cases hz : e.2 != 0 with
        | false =>
          rw [hz] at he
          repeat' ((conv => whnf); first | ((with_reducible refine And.intro (?_ : @Eq Out _ _) (?_ : @Eq H _ _)) <;> exact rfl) | ((with_reducible refine And.intro (?_ : @Eq Out _ _) (?_ : @Eq H _ _)); rotate_left; exact rfl) | intro _ | refine And.intro rfl ?_ | refine (sp_f hz ?_) | refine (.inl ⟨by unfold inR; omega, ?_⟩) | refine apn_own ?_ | refine bsn_data ?_ | refine fro_nil ?_ | refine cfo_old ?_ | ((first | refine .inl (And.intro ?_ ?_) | refine And.intro ?_ ?_); focus ((repeat' apply And.intro) <;> first | rfl | omega | (unfold inR; omega) | (simp; done) | (unfold inR; simp at *; omega) | (simp at *; omega) | (intros; contradiction))) | fail)
          refine ⟨i + 1, ⟨hlt, by simpa using he⟩, Nat.sub_lt_sub_left hlt (Nat.lt_succ_self i), (by repeat' (first | exact trivial | exact rfl | exact Or.inl rfl | refine And.intro ?_ ?_ | refine Or.inr ?_)), (by repeat' (first | exact trivial | exact rfl | exact Or.inl rfl | refine And.intro ?_ ?_ | refine Or.inr ?_)), rfl⟩
        | true =>
          rw [hz] at he
          simp only [cond_true, Option.some.injEq] at he
          subst he
          repeat' ((conv => whnf); first | ((with_reducible refine And.intro (?_ : @Eq Out _ _) (?_ : @Eq H _ _)) <;> exact rfl) | ((with_reducible refine And.intro (?_ : @Eq Out _ _) (?_ : @Eq H _ _)); rotate_left; exact rfl) | intro _ | refine And.intro rfl ?_ | refine (sp_t hz ?_) | refine apn_own ?_ | refine bsn_data ?_ | refine fro_nil ?_ | refine cfo_old ?_ | ((first | refine .inl (And.intro ?_ ?_) | refine And.intro ?_ ?_); focus ((repeat' apply And.intro) <;> first | rfl | omega | (unfold inR; omega) | (simp; done) | (unfold inR; simp at *; omega) | (simp at *; omega) | (intros; contradiction))) | fail)
  · have hge : i = im.fs.length := by
      have : ¬ i < im.fs.length := by simpa using hge
      omega
    rw [hge, List.drop_length] at he
    simp only [checkV, Option.some.injEq] at he
    subst he
    repeat' ((conv => whnf); first | ((with_reducible refine And.intro (?_ : @Eq Out _ _) (?_ : @Eq H _ _)) <;> exact rfl) | ((with_reducible refine And.intro (?_ : @Eq Out _ _) (?_ : @Eq H _ _)); rotate_left; exact rfl) | intro _ | refine And.intro rfl ?_ | refine apn_own ?_ | refine bsn_data ?_ | refine fro_nil ?_ | refine cfo_old ?_ | ((first | refine .inl (And.intro ?_ ?_) | refine And.intro ?_ ?_); focus ((repeat' apply And.intro) <;> first | rfl | omega | (unfold inR; omega) | (simp; done) | (unfold inR; simp at *; omega) | (simp at *; omega) | (intros; contradiction))) | fail)
theorem check17E : SatP Tryz.prog 17 [agI ⟨[], []⟩] (agR3 (0, 0, 6)) := by
  have hc := check35E
  refine s17 (keep := false) rfl ?_
  repeat' ((conv => whnf); first | ((with_reducible refine And.intro (?_ : @Eq Out _ _) (?_ : @Eq H _ _)) <;> exact rfl) | ((with_reducible refine And.intro (?_ : @Eq Out _ _) (?_ : @Eq H _ _)); rotate_left; exact rfl) | intro _ | refine And.intro rfl ?_ | refine ⟨_, hc, ?_⟩ | refine (hc).use ?_ | refine apn_own ?_ | refine bsn_data ?_ | refine fro_nil ?_ | refine cfo_old ?_ | ((first | refine .inl (And.intro ?_ ?_) | refine And.intro ?_ ?_); focus ((repeat' apply And.intro) <;> first | rfl | omega | (unfold inR; omega) | (simp; done) | (unfold inR; simp at *; omega) | (simp at *; omega) | (intros; contradiction))) | fail)

def depthsV (n : Nat) (s : Sn) : List Int := (List.range n).map fun (p : Nat) => match lookI s (p : Int) 0 with
  | some r => r.2.1
  | none => -1
def toldA (n i : Nat) : List Int := List.replicate i (-1) ++ List.replicate (n - i) 0
theorem toldA_set {n i : Nat} (h : i < n) : (rowsI (toldA n i)).set i [.int .i64 (-1)] = rowsI (toldA n (i + 1)) := by
  have e1 : List.replicate (n - i) (0 : Int) = 0 :: List.replicate (n - (i + 1)) 0 := by
    rw [show n - i = (n - (i + 1)) + 1 by omega, List.replicate_succ]
  have e2 : (rowsI (toldA n i)) = List.replicate i [.int .i64 (-1)] ++ ([D.int .i64 0] :: List.replicate (n - (i + 1)) [.int .i64 0]) := by
    simp only [rowsI, toldA, e1, List.map_append, List.map_replicate, List.map_cons]
  have e3 : rowsI (toldA n (i + 1)) = List.replicate i [.int .i64 (-1)] ++ ([D.int .i64 (-1)] :: List.replicate (n - (i + 1)) [.int .i64 0]) := by
    simp only [rowsI, toldA, List.map_append, List.map_replicate]
    rw [List.replicate_succ', List.append_assoc]
    rfl
  rw [e2, e3, List.set_append, if_neg (by simp)]
  simp
theorem toldA_get {n i : Nat} (h : i < n) : (rowsI (toldA n i))[i]? = some [.int .i64 0] := by
  simp only [rowsI, toldA, List.map_append, List.map_replicate]
  rw [List.getElem?_append_right (by simp)]
  simp [List.getElem?_replicate]
  omega

def depV (s : Sn) (k : Int) : Int := match lookI s k 0 with
  | some r => r.2.1
  | none => -1
def toldK (n : Nat) (s : Sn) (ks : List Int) : List Int := (List.range n).map fun (p : Nat) => if (p : Int) ∈ ks then depV s p else -1
theorem toldA_end (n : Nat) (s : Sn) : rowsI (toldA n n) = rowsI (toldK n s []) := by
  congr 1
  simp [toldA, toldK, List.map_const']
theorem lookI_mem {x : Int} : ∀ {s : Sn} (i : Nat), x ∈ s.map (·.1) → ∃ r, lookI s x i = some r
  | p :: r, i, h => by
    simp only [lookI]
    cases hx : x == p.1 with
    | true => exact ⟨_, rfl⟩
    | false =>
      rw [List.map_cons] at h
      rcases List.mem_cons.1 h with h | h
      · subst h; simp at hx
      · exact lookI_mem (i + 1) h
theorem lookI_none {x : Int} : ∀ {s : Sn} (i : Nat), ¬ x ∈ s.map (·.1) → lookI s x i = none
  | [], _, _ => rfl
  | p :: r, i, h => by
    simp only [List.map_cons, List.mem_cons, not_or] at h
    have hx : (x == p.1) = false := by simpa using h.1
    simp only [lookI, hx, cond_false]
    exact lookI_none (i + 1) h.2
theorem told_step {s : Sn} {n i : Nat} {k : Int} (hk : (srt (s.map (·.1)))[i]? = some k) (h1 : okKs (s.map (·.1)) = true) (h2 : ∀ p ∈ s, p.1 < n) :
    ∃ r, lookI s k 0 = some r ∧ 0 ≤ k ∧ k < n ∧ (rowsI (toldK n s ((srt (s.map (·.1))).take i))).set k.toNat [.int .i64 r.2.1] = rowsI (toldK n s ((srt (s.map (·.1))).take (i + 1))) ∧ ∃ q, (rowsI (toldK n s ((srt (s.map (·.1))).take i)))[k.toNat]? = some [.int .i64 q] := by
  simp only [okKs, Bool.and_eq_true, decide_eq_true_eq, List.all_eq_true] at h1
  have hm : k ∈ s.map (·.1) := (List.mergeSort_perm _ _).mem_iff.1 (List.mem_of_getElem? hk)
  obtain ⟨r, hr⟩ := lookI_mem 0 hm
  have k0 := (h1.2.2 k hm).1
  obtain ⟨p, hp, rfl⟩ := List.mem_map.1 hm
  have k1 := h2 p hp
  refine ⟨r, hr, k0, k1, ?_, ?_⟩
  · refine List.ext_getElem? fun j => ?_
    rw [List.getElem?_set, List.take_add_one, hk]
    simp only [rowsI, toldK, List.getElem?_map, List.length_map, List.length_range, Option.toList_some, List.mem_append, List.mem_singleton]
    by_cases hj : p.1.toNat = j
    · subst hj
      have e : ((p.1.toNat : Nat) : Int) = p.1 := Int.toNat_of_nonneg k0
      have hd : depV s p.1 = r.2.1 := by simp only [depV, hr]
      rw [if_pos rfl, if_pos (by omega), List.getElem?_range (by omega)]
      simp only [Option.map_some, e, or_true, if_true, hd]
    · rw [if_neg hj]
      by_cases hjn : j < n
      · rw [List.getElem?_range hjn]
        have : ¬ (j : Int) = p.1 := by omega
        simp only [Option.map_some, this, or_false]
      · simp [hjn]
  · obtain ⟨v, hv⟩ : ∃ v, (toldK n s ((srt (s.map (·.1))).take i))[p.1.toNat]? = some v := ⟨_, List.getElem?_eq_getElem (by simp [toldK]; omega)⟩
    exact ⟨v, by simp only [rowsI, List.getElem?_map, hv, Option.map_some]⟩
theorem told0 (l : List Op) : B.rows 1 (List.replicate ((l.map encO).length : Int).toNat [D.int .i64 0]) = .rows 1 (rowsI (toldA l.length 0)) := by simp [rowsI, toldA]
theorem told0l (l : List Op) : V.d (.int .i64 (List.replicate ((l.map encO).length : Int).toNat [D.int .i64 0]).length) = .d (.int .i64 l.length) := by simp
set_option maxRecDepth 100000 in
set_option maxHeartbeats 4000000 in
theorem depths18 (im : Im) (hI : OkIm im) (N f : Nat) (fn : Fn) (hf : im.fs[f]? = some fn) (hc : checkV im N im.fs 0 = some (0, 0, 0)) (s : Sn) (hT : traceV im fn N = some (.ok s)) (hk1 : okKs (s.map (·.1)) = true) (hk2 : ∀ p ∈ s, p.1 < fn.code.length) :
    SatP Tryz.prog 18 [agI im, .d (.int .i64 f)] (.d (.sl 1 (rowsI (depthsV fn.code.length s)))) := by
  have hch := check17 im hI N _ hc
  have hfl := hI.f2
  have hlt : f < im.fs.length := (List.getElem?_eq_some_iff.1 hf).1
  have hfn := hI.f3 fn (List.mem_of_getElem? hf)
  simp only [okFn, Bool.and_eq_true, decide_eq_true_eq, List.all_eq_true] at hfn
  have f7 := hfn.2.2.2.2.2.2.1
  refine s18 (keep := false) rfl ?_
  repeat' ((conv => whnf); first | ((with_reducible refine And.intro (?_ : @Eq Out _ _) (?_ : @Eq H _ _)) <;> exact rfl) | ((with_reducible refine And.intro (?_ : @Eq Out _ _) (?_ : @Eq H _ _)); rotate_left; exact rfl) | intro _ | refine And.intro rfl ?_ | refine ⟨_, hch, ?_⟩ | refine (hch).use ?_ | refine apn_own ?_ | refine bsn_data ?_ | refine fro_nil ?_ | refine cfo_old ?_ | ((first | refine .inl (And.intro ?_ ?_) | refine And.intro ?_ ?_); focus ((repeat' apply And.intro) <;> first | rfl | omega | (unfold inR; omega) | (simp; done) | (unfold inR; simp at *; omega) | (simp at *; omega) | (intros; contradiction))) | refine sp_t (by first | (simp; done) | (simp; omega) | (simp at *; omega) | exact beq_eq_false_iff_ne.2 (by omega) | exact beq_eq_false_iff_ne.2 (by simp only [List.length_map]; omega) | exact beq_iff_eq.2 (by simp only [List.length_map]; omega) | exact bne_iff_ne.2 (by simp only [List.length_map]; omega)) ?_ | refine sp_f (by first | (simp; done) | (simp; omega) | (simp at *; omega) | exact beq_eq_false_iff_ne.2 (by omega) | exact beq_eq_false_iff_ne.2 (by simp only [List.length_map]; omega) | exact beq_iff_eq.2 (by simp only [List.length_map]; omega) | exact bne_iff_ne.2 (by simp only [List.length_map]; omega)) ?_ | fail)
  refine trace36 im hI f fn hf N _ hT ?_
  repeat' ((conv => whnf); first | ((with_reducible refine And.intro (?_ : @Eq Out _ _) (?_ : @Eq H _ _)) <;> exact rfl) | ((with_reducible refine And.intro (?_ : @Eq Out _ _) (?_ : @Eq H _ _)); rotate_left; exact rfl) | intro _ | refine And.intro rfl ?_ | refine apn_own ?_ | refine bsn_data ?_ | refine fro_nil ?_ | refine cfo_old ?_ | ((first | refine .inl (And.intro ?_ ?_) | refine And.intro ?_ ?_); focus ((repeat' apply And.intro) <;> first | rfl | omega | (unfold inR; omega) | (simp; done) | (unfold inR; simp at *; omega) | (simp at *; omega) | (intros; contradiction))) | fail)
  refine ⟨encFn fn, ⟨by omega, by simp [hf], rfl⟩, ?_⟩
  repeat' ((conv => whnf); first | ((with_reducible refine And.intro (?_ : @Eq Out _ _) (?_ : @Eq H _ _)) <;> exact rfl) | ((with_reducible refine And.intro (?_ : @Eq Out _ _) (?_ : @Eq H _ _)); rotate_left; exact rfl) | intro _ | refine And.intro rfl ?_ | refine apn_own ?_ | refine bsn_data ?_ | refine fro_nil ?_ | refine cfo_old ?_ | ((first | refine .inl (And.intro ?_ ?_) | refine And.intro ?_ ?_); focus ((repeat' apply And.intro) <;> first | rfl | omega | (unfold inR; omega) | (simp; done) | (unfold inR; simp at *; omega) | (simp at *; omega) | (intros; contradiction))) | fail)
  conv => whnf
  refine loop_use2 [(8, .mp 2), (10, .os 4), (48, .d (.int .i64 fn.code.length))] (fun i : Nat => i ≤ fn.code.length) (fun i => [(49, .d (.int .i64 i))]) (fun i => [.cells [.d (.sl 5 (im.cs.map encV)), .d (.sl 3 (im.fs.map encFn))], .rows 1 [], .dm (seenM s), .cells [.d (.int .i64 0), .d (.int .i64 0)], .rows 1 (rowsI (toldA fn.code.length i))]) (fun i => fn.code.length - i) 0 (Nat.zero_le _) ?_ ?_ ?_ (fun i hi => ?_)
  · exact ⟨wkb_of rfl, wkb_of rfl, wkb_of rfl, wkb_of (told0l fn.code), trivial⟩
  · exact ⟨wkB_of rfl, wkB_of rfl, wkB_of rfl, wkB_of rfl, wkB_of (told0 fn.code), trivial⟩
  · exact (by kernel_rfl)
  have htl : (rowsI (toldA fn.code.length i)).length = fn.code.length := by simp [rowsI, toldA]; omega
  repeat' ((conv => whnf); first | ((with_reducible refine And.intro (?_ : @Eq Out _ _) (?_ : @Eq H _ _)) <;> exact rfl) | ((with_reducible refine And.intro (?_ : @Eq Out _ _) (?_ : @Eq H _ _)); rotate_left; exact rfl) | intro _ | refine And.intro rfl ?_ | refine apn_own ?_ | refine bsn_data ?_ | refine fro_nil ?_ | refine cfo_old ?_ | ((first | refine .inl (And.intro ?_ ?_) | refine And.intro ?_ ?_); focus ((repeat' apply And.intro) <;> first | rfl | omega | (unfold inR; omega) | (simp; done) | (unfold inR; simp at *; omega) | (simp at *; omega) | (intros; contradiction))) | fail)
  refine sp_intro (fun hb => ?_) (fun hge => ?_)
  · have hlt : i < fn.code.length := by simpa using hb
    have hg := toldA_get hlt
    have hse := toldA_set hlt
    repeat' ((conv => whnf); first | ((with_reducible refine And.intro (?_ : @Eq Out _ _) (?_ : @Eq H _ _)) <;> exact rfl) | ((with_reducible refine And.intro (?_ : @Eq Out _ _) (?_ : @Eq H _ _)); rotate_left; exact rfl) | intro _ | refine And.intro rfl ?_ | refine (And.intro ⟨by omega, by omega, rfl⟩ ?_) | refine ⟨_, hg, ?_⟩ | refine (hg).use ?_ | refine (.inl ⟨by unfold inR; omega, ?_⟩) | refine apn_own ?_ | refine bsn_data ?_ | refine fro_nil ?_ | refine cfo_old ?_ | ((first | refine .inl (And.intro ?_ ?_) | refine And.intro ?_ ?_); focus ((repeat' apply And.intro) <;> first | rfl | omega | (unfold inR; omega) | (simp; done) | (unfold inR; simp at *; omega) | (simp at *; omega) | (intros; contradiction))) | fail)
    refine ⟨i + 1, hlt, Nat.sub_lt_sub_left hlt (Nat.lt_succ_self i), (by repeat' (first | exact trivial | exact rfl | exact Or.inl rfl | refine And.intro ?_ ?_ | refine Or.inr ?_)), ⟨wkB_of rfl, wkB_of rfl, wkB_of rfl, wkB_of rfl, wkB_of (congrArg (B.rows 1) hse), trivial⟩, rfl⟩
  · have hge : i = fn.code.length := by
      have : ¬ i < fn.code.length := by simpa using hge
      omega
    subst hge
    have hsrt := sorted_seen s hk1
    repeat' ((conv => whnf); first | ((with_reducible refine And.intro (?_ : @Eq Out _ _) (?_ : @Eq H _ _)) <;> exact rfl) | ((with_reducible refine And.intro (?_ : @Eq Out _ _) (?_ : @Eq H _ _)); rotate_left; exact rfl) | intro _ | refine And.intro rfl ?_ | refine (.inr ?_ : (∃ _, _) ∨ _) | refine apn_own ?_ | refine bsn_data ?_ | refine fro_nil ?_ | refine cfo_old ?_ | ((first | refine .inl (And.intro ?_ ?_) | refine And.intro ?_ ?_); focus ((repeat' apply And.intro) <;> first | rfl | omega | (unfold inR; omega) | (simp; done) | (unfold inR; simp at *; omega) | (simp at *; omega) | (intros; contradiction))) | fail)
    refine keys38 _ ?_
    repeat' ((conv => whnf); first | ((with_reducible refine And.intro (?_ : @Eq Out _ _) (?_ : @Eq H _ _)) <;> exact rfl) | ((with_reducible refine And.intro (?_ : @Eq Out _ _) (?_ : @Eq H _ _)); rotate_left; exact rfl) | intro _ | refine And.intro rfl ?_ | refine (.inr ?_ : (∃ _, _) ∨ _) | refine apn_own ?_ | refine bsn_data ?_ | refine fro_nil ?_ | refine cfo_old ?_ | ((first | refine .inl (And.intro ?_ ?_) | refine And.intro ?_ ?_); focus ((repeat' apply And.intro) <;> first | rfl | omega | (unfold inR; omega) | (simp; done) | (unfold inR; simp at *; omega) | (simp at *; omega) | (intros; contradiction))) | fail)
    refine hsrt.mono fun out h' hh => ?_
    obtain ⟨rfl, rfl⟩ := hh
    repeat' ((conv => whnf); first | ((with_reducible refine And.intro (?_ : @Eq Out _ _) (?_ : @Eq H _ _)) <;> exact rfl) | ((with_reducible refine And.intro (?_ : @Eq Out _ _) (?_ : @Eq H _ _)); rotate_left; exact rfl) | intro _ | refine And.intro rfl ?_ | refine apn_own ?_ | refine bsn_data ?_ | refine fro_nil ?_ | refine cfo_old ?_ | ((first | refine .inl (And.intro ?_ ?_) | refine And.intro ?_ ?_); focus ((repeat' apply And.intro) <;> first | rfl | omega | (unfold inR; omega) | (simp; done) | (unfold inR; simp at *; omega) | (simp at *; omega) | (intros; contradiction))) | fail)
    conv => whnf
    refine loop_use2 [(8, .mp 2), (10, .os 4), (58, .os 6), (59, .d (.int .i64 (rowsI (srt (s.map (·.1)))).length))] (fun i : Nat => i ≤ (srt (s.map (·.1))).length) (fun i => [(60, .d (.int .i64 i))]) (fun i => [.cells [.d (.sl 5 (im.cs.map encV)), .d (.sl 3 (im.fs.map encFn))], .rows 1 [], .dm (seenM s), .cells [.d (.int .i64 0), .d (.int .i64 0)], .rows 1 (rowsI (toldK fn.code.length s ((srt (s.map (·.1))).take i))), .cells [.mp 2], .rows 1 (rowsI (srt (s.map (·.1))))]) (fun i => (srt (s.map (·.1))).length - i) 0 (Nat.zero_le _) ?_ ?_ ?_ (fun i hi => ?_)
    · exact ⟨wkb_of rfl, wkb_of rfl, wkb_of rfl, wkb_of rfl, wkb_of rfl, trivial⟩
    · exact ⟨wkB_of rfl, wkB_of rfl, wkB_of rfl, wkB_of rfl, wkB_of (congrArg (B.rows 1) (toldA_end _ s)), wkB_of rfl, wkB_of rfl, trivial⟩
    · exact (by kernel_rfl)
    have htk : (rowsI (toldK fn.code.length s ((srt (s.map (·.1))).take i))).length = fn.code.length := by simp [rowsI, toldK]
    have hsl : (rowsI (srt (s.map (·.1)))).length = (srt (s.map (·.1))).length := by simp [rowsI]
    repeat' ((conv => whnf); first | ((with_reducible refine And.intro (?_ : @Eq Out _ _) (?_ : @Eq H _ _)) <;> exact rfl) | ((with_reducible refine And.intro (?_ : @Eq Out _ _) (?_ : @Eq H _ _)); rotate_left; exact rfl) | intro _ | refine And.intro rfl ?_ | refine apn_own ?_ | refine bsn_data ?_ | refine fro_nil ?_ | refine cfo_old ?_ | ((first | refine .inl (And.intro ?_ ?_) | refine And.intro ?_ ?_); focus ((repeat' apply And.intro) <;> first | rfl | omega | (unfold inR; omega) | (simp; done) | (unfold inR; simp at *; omega) | (simp at *; omega) | (intros; contradiction))) | fail)
    refine sp_intro (fun hb => ?_) (fun hge => ?_)
    · have hlt : i < (srt (s.map (·.1))).length := by
        have : (i : Int) < ((rowsI (srt (s.map (·.1)))).length : Int) := by simpa using hb
        omega
      obtain ⟨k, hk⟩ : ∃ k, (srt (s.map (·.1)))[i]? = some k := ⟨_, List.getElem?_eq_getElem hlt⟩
      obtain ⟨r, hr, k0, k1, hse, row, hrow⟩ := told_step (n := fn.code.length) hk hk1 hk2
      have hfn := fnd_seen k s 0
      rw [hr] at hfn
      have hrk : (rowsI (srt (s.map (·.1))))[i]? = some [.int .i64 k] := by simp [rowsI, hk]
      repeat' ((conv => whnf); first | ((with_reducible refine And.intro (?_ : @Eq Out _ _) (?_ : @Eq H _ _)) <;> exact rfl) | ((with_reducible refine And.intro (?_ : @Eq Out _ _) (?_ : @Eq H _ _)); rotate_left; exact rfl) | intro _ | refine And.intro rfl ?_ | refine (And.intro ⟨by omega, by omega, rfl⟩ ?_) | refine ⟨_, hrk, ?_⟩ | refine (hrk).use ?_ | refine ⟨_, hfn, ?_⟩ | refine (hfn).use ?_ | refine ⟨_, hrow, ?_⟩ | refine (hrow).use ?_ | refine (.inl ⟨by unfold inR; omega, ?_⟩) | refine apn_own ?_ | refine bsn_data ?_ | refine fro_nil ?_ | refine cfo_old ?_ | ((first | refine .inl (And.intro ?_ ?_) | refine And.intro ?_ ?_); focus ((repeat' apply And.intro) <;> first | rfl | omega | (unfold inR; omega) | (simp; done) | (unfold inR; simp at *; omega) | (simp at *; omega) | (intros; contradiction))) | fail)
      refine ⟨i + 1, hlt, Nat.sub_lt_sub_left hlt (Nat.lt_succ_self i), (by repeat' (first | exact trivial | exact rfl | exact Or.inl rfl | refine And.intro ?_ ?_ | refine Or.inr ?_)), ⟨wkB_of rfl, wkB_of rfl, wkB_of rfl, wkB_of rfl, wkB_of (congrArg (B.rows 1) hse), wkB_of rfl, wkB_of rfl, trivial⟩, rfl⟩
    · have hge : i = (srt (s.map (·.1))).length := by
        have : ¬ (i : Int) < ((rowsI (srt (s.map (·.1)))).length : Int) := by simpa using hge
        omega
      subst hge
      have hend : rowsI (toldK fn.code.length s ((srt (s.map (·.1))).take (srt (s.map (·.1))).length)) = rowsI (depthsV fn.code.length s) := by
        congr 1
        refine List.map_congr_left fun p _ => ?_
        rw [List.take_length]
        have hmem : (p : Int) ∈ srt (s.map (·.1)) ↔ (p : Int) ∈ s.map (·.1) := (List.mergeSort_perm _ _).mem_iff
        by_cases hm : (p : Int) ∈ s.map (·.1)
        · rw [if_pos (hmem.2 hm)]
          rfl
        · rw [if_neg (fun h => hm (hmem.1 h))]
          have : lookI s p 0 = none := lookI_none 0 hm
          rw [this]
      repeat' ((conv => whnf); first | ((with_reducible refine And.intro (?_ : @Eq Out _ _) (?_ : @Eq H _ _)) <;> exact rfl) | ((with_reducible refine And.intro (?_ : @Eq Out _ _) (?_ : @Eq H _ _)); rotate_left; exact rfl) | intro _ | refine And.intro rfl ?_ | refine apn_own ?_ | refine bsn_data ?_ | refine fro_nil ?_ | refine cfo_old ?_ | ((first | refine .inl (And.intro ?_ ?_) | refine And.intro ?_ ?_); focus ((repeat' apply And.intro) <;> first | rfl | omega | (unfold inR; omega) | (simp; done) | (unfold inR; simp at *; omega) | (simp at *; omega) | (intros; contradiction))) | fail)
      exact outs_eq (congrArg (fun r => V.d (.sl 1 r)) hend)
end Go.Proofs.YtoibcfioicdlhaaGreatDoor
namespace Go.Proofs.YtoibcfioicdlhaaGreatDoor
open Go.Vx
set_option maxRecDepth 100000

theorem okIm1 {f : Fn} (h : okFn f = true) : OkIm ⟨[num 0], [f]⟩ :=
  ⟨by simp, fun v hv => by
    obtain rfl : v = num 0 := by simpa using hv
    exact ⟨.inl rfl, right78I 0⟩, by simp, by simp, fun g hg => by
    obtain rfl : g = f := by simpa using hg
    exact h⟩
def code1 (n : Int) (l : List Op) : Im := ⟨[num 0], [⟨n, 0, l⟩]⟩
theorem code29 (n : Int) (l : List Op) : SatP Tryz.prog 29 [.d (.int .i64 n), .d (.sl 2 (l.map encO))] (agI (code1 n l)) := by
  refine s29 (keep := false) rfl ?_
  repeat' ((conv => whnf); first | ((with_reducible refine And.intro (?_ : @Eq Out _ _) (?_ : @Eq H _ _)) <;> exact rfl) | ((with_reducible refine And.intro (?_ : @Eq Out _ _) (?_ : @Eq H _ _)); rotate_left; exact rfl) | intro _ | refine And.intro rfl ?_ | refine apn_own ?_ | refine bsn_data ?_ | refine fro_nil ?_ | refine cfo_old ?_ | ((first | refine .inl (And.intro ?_ ?_) | refine And.intro ?_ ?_); focus ((repeat' apply And.intro) <;> first | rfl | omega | (unfold inR; omega) | (simp; done) | (unfold inR; simp at *; omega) | (simp at *; omega) | (intros; contradiction))) | fail)
theorem told30 (im : Im) (a b c : Int) (hc : SatP Tryz.prog 17 [agI im] (agR3 (a, b, c))) : SatP Tryz.prog 30 [agI im, .d (.int .i64 a), .d (.int .i64 b), .d (.int .i64 c)] (.d (.bool true)) := by
  have ha : (a == a) = true := by simp
  have hb : (b == b) = true := by simp
  have hcc : (c == c) = true := by simp
  refine s30 (keep := false) rfl ?_
  repeat' ((conv => whnf); first | ((with_reducible refine And.intro (?_ : @Eq Out _ _) (?_ : @Eq H _ _)) <;> exact rfl) | ((with_reducible refine And.intro (?_ : @Eq Out _ _) (?_ : @Eq H _ _)); rotate_left; exact rfl) | intro _ | refine And.intro rfl ?_ | refine ⟨_, hc, ?_⟩ | refine (hc).use ?_ | refine (sp_t ha ?_) | refine (sp_t hb ?_) | refine apn_own ?_ | refine bsn_data ?_ | refine fro_nil ?_ | refine cfo_old ?_ | ((first | refine .inl (And.intro ?_ ?_) | refine And.intro ?_ ?_); focus ((repeat' apply And.intro) <;> first | rfl | omega | (unfold inR; omega) | (simp; done) | (unfold inR; simp at *; omega) | (simp at *; omega) | (intros; contradiction))) | fail)
  exact outs_eq (congrArg (fun x => V.d (.bool x)) hcc)
def tell (n : Int) (l : List Op) (r : Int × Int × Int) : Prop := okFn ⟨n, 0, l⟩ = true ∧ checkV (code1 n l) 99 [⟨n, 0, l⟩] 0 = some r
theorem tell17 {n : Int} {l : List Op} {r : Int × Int × Int} (h : tell n l r) : SatP Tryz.prog 17 [agI (code1 n l)] (agR3 r) := check17 _ (okIm1 h.1) 99 r h.2
theorem tell30 {n : Int} {l : List Op} {a b c : Int} (h : tell n l (a, b, c)) : SatP Tryz.prog 30 [agI (code1 n l), .d (.int .i64 a), .d (.int .i64 b), .d (.int .i64 c)] (.d (.bool true)) := told30 _ a b c (tell17 h)
def good : List Op := [⟨1, 0⟩, ⟨5, 0⟩, ⟨7, 0⟩, ⟨18, 0⟩, ⟨4, 0⟩]
def goodS : Sn := [(0, 0, 0), (1, 1, 0), (2, 2, 0), (3, 1, 0)]
theorem good_trace : traceV (code1 0 good) ⟨0, 0, good⟩ 99 = some (.ok goodS) := by kernel_rfl
theorem tell0 : tell 0 good (0, 0, 0) := ⟨by kernel_rfl, by kernel_rfl⟩
theorem tell1 : tell 0 [⟨4, 0⟩] (0, 0, 8) := ⟨by kernel_rfl, by kernel_rfl⟩
theorem tell2 : tell 0 [⟨1, 0⟩] (0, 0, 9) := ⟨by kernel_rfl, by kernel_rfl⟩
theorem tell3 : tell 0 [⟨1, 0⟩, ⟨15, 0⟩] (0, 1, 8) := ⟨by kernel_rfl, by kernel_rfl⟩
theorem tell4 : tell 0 [⟨1, 0⟩, ⟨2, 0⟩, ⟨18, 0⟩] (0, 1, 1) := ⟨by kernel_rfl, by kernel_rfl⟩
theorem tell5 : tell 0 [⟨21, 0⟩, ⟨1, 0⟩, ⟨18, 0⟩] (0, 0, 11) := ⟨by kernel_rfl, by kernel_rfl⟩
theorem depths_good : SatP Tryz.prog 18 [agI (code1 0 good), .d (.int .i64 0)] (.d (.sl 1 [[.int .i64 0], [.int .i64 1], [.int .i64 2], [.int .i64 1], [.int .i64 (-1)]])) :=
  depths18 (code1 0 good) (okIm1 tell0.1) 99 0 ⟨0, 0, good⟩ rfl tell0.2 goodS good_trace (by decide) (by decide)

set_option maxRecDepth 100000 in
set_option maxHeartbeats 4000000 in
theorem examples15 : SatP Tryz.prog 15 [] (.d (.bool true)) := by
  refine s15 (keep := false) rfl ?_
  repeat' ((conv => whnf); first | ((with_reducible refine And.intro (?_ : @Eq Out _ _) (?_ : @Eq H _ _)) <;> exact rfl) | ((with_reducible refine And.intro (?_ : @Eq Out _ _) (?_ : @Eq H _ _)); rotate_left; exact rfl) | intro _ | refine And.intro rfl ?_ | refine ⟨_, code29 0 good, ?_⟩ | refine (code29 0 good).use ?_ | refine ⟨_, depths_good, ?_⟩ | refine (depths_good).use ?_ | refine ⟨_, tell30 tell0, ?_⟩ | refine (tell30 tell0).use ?_ | refine ⟨_, code29 0 [⟨4, 0⟩], ?_⟩ | refine (code29 0 [⟨4, 0⟩]).use ?_ | refine ⟨_, tell30 tell1, ?_⟩ | refine (tell30 tell1).use ?_ | refine ⟨_, code29 0 [⟨1, 0⟩], ?_⟩ | refine (code29 0 [⟨1, 0⟩]).use ?_ | refine ⟨_, tell30 tell2, ?_⟩ | refine (tell30 tell2).use ?_ | refine ⟨_, code29 0 [⟨1, 0⟩, ⟨15, 0⟩], ?_⟩ | refine (code29 0 [⟨1, 0⟩, ⟨15, 0⟩]).use ?_ | refine ⟨_, tell30 tell3, ?_⟩ | refine (tell30 tell3).use ?_ | refine ⟨_, code29 0 [⟨1, 0⟩, ⟨2, 0⟩, ⟨18, 0⟩], ?_⟩ | refine (code29 0 [⟨1, 0⟩, ⟨2, 0⟩, ⟨18, 0⟩]).use ?_ | refine ⟨_, tell30 tell4, ?_⟩ | refine (tell30 tell4).use ?_ | refine ⟨_, code29 0 [⟨21, 0⟩, ⟨1, 0⟩, ⟨18, 0⟩], ?_⟩ | refine (code29 0 [⟨21, 0⟩, ⟨1, 0⟩, ⟨18, 0⟩]).use ?_ | refine ⟨_, tell30 tell5, ?_⟩ | refine (tell30 tell5).use ?_ | refine ⟨_, told30 ⟨[], []⟩ 0 0 6 check17E, ?_⟩ | refine (told30 ⟨[], []⟩ 0 0 6 check17E).use ?_ | refine apn_own ?_ | refine bsn_data ?_ | refine fro_nil ?_ | refine cfo_old ?_ | ((first | refine .inl (And.intro ?_ ?_) | refine And.intro ?_ ?_); focus ((repeat' apply And.intro) <;> first | rfl | omega | (unfold inR; omega) | (simp; done) | (unfold inR; simp at *; omega) | (simp at *; omega) | (intros; contradiction))) | refine ⟨_, ⟨by decide, rfl, rfl⟩, ?_⟩ | refine ⟨_, rfl, ?_⟩ | fail)
theorem modN {p : Int} (h : 0 ≤ p ∧ p ≤ 255) (k : Nat) (hk : 0 < k) : ∃ n : Nat, p.tmod k = n ∧ n < k := by
  refine ⟨p.toNat % k, ?_, Nat.mod_lt _ hk⟩
  have e : p = (p.toNat : Int) := (Int.toNat_of_nonneg h.1).symm
  rw [e, ← Int.ofNat_tmod]
  simp

end Go.Proofs.YtoibcfioicdlhaaGreatDoor
namespace Go.Proofs.YtoibcfioicdlhaaGreatDoor
open Go.Vx
set_option maxRecDepth 100000 in
def c116 : C := .seq (.reg [⟨some 1, .bx (.s 0), none⟩, ⟨some 2, .mv (.k (.d (.bool false))), none⟩]) (.seq (.rgd [(⟨some 3, .ld (.s 1) (some 2), none⟩, []), (⟨some 4, .cf 135 [.s 3], none⟩, [0]), (⟨some 5, .ld (.s 1) (some 2), none⟩, [])] [⟨some 6, .eq false true [2, 2] (.s 4) (.s 5), none⟩, ⟨some 2, .mv (.s 6), none⟩]) (.ret))
theorem c116_ok : comp Tryz.prog Tryz.f116.ntmps ((Tryz.f116.body).getD .skip) = some c116 := by kernel_rfl
def r116 : List RV := [.s 2]
theorem r116_ok : resP Tryz.prog Tryz.f116 = some r116 := by kernel_rfl
/-- lazaretto/label.Right -/
theorem s116 {keep : Bool} {vs : List V} {h : H} {K : Out → H → Prop} (hl : Nat.ble vs.length 7 = true) (hk : fx (Sat Tryz.prog) ow keep c116 r116 vs h K) : Sat Tryz.prog 116 vs h K :=
  sat_intro ow mixed (fn := Tryz.f116) (by kernel_rfl) (by kernel_rfl) (c := (Tryz.f116.body).getD .skip) (by kernel_rfl) c116_ok r116_ok hl hk
set_option maxRecDepth 100000 in
def c129 : C := .seq (.reg [⟨some 2, .al [.d (.str []), .d (.str [])], none⟩]) (.seq (.reg [⟨some 3, .mv (.s 0), none⟩, ⟨some 4, .cc (.s 3) [.k (.d (.bool true))], none⟩, ⟨some 5, .mv (.s 0), none⟩, ⟨some 6, .cc (.s 5) [.k (.d (.bool false))], none⟩, ⟨some 7, .bd [.d (.str []), .d (.str [])] [(0, 1, .s 4), (1, 1, .s 6)], none⟩, ⟨none, .st (.s 2) (.s 7) 2, none⟩]) (.ret))
theorem c129_ok : comp Tryz.prog Tryz.f129.ntmps ((Tryz.f129.body).getD .skip) = some c129 := by kernel_rfl
def r129 : List RV := [.c 2 (some 2)]
theorem r129_ok : resP Tryz.prog Tryz.f129 = some r129 := by kernel_rfl
/-- lazaretto/label.made -/
theorem s129 {keep : Bool} {vs : List V} {h : H} {K : Out → H → Prop} (hl : Nat.ble vs.length 8 = true) (hk : fx (Sat Tryz.prog) ow keep c129 r129 vs h K) : Sat Tryz.prog 129 vs h K :=
  sat_intro ow mixed (fn := Tryz.f129) (by kernel_rfl) (by kernel_rfl) (c := (Tryz.f129.body).getD .skip) (by kernel_rfl) c129_ok r129_ok hl hk
set_option maxRecDepth 100000 in
def c135 : C := .seq (.reg [⟨some 1, .bx (.s 0), none⟩, ⟨some 2, .al [.d (.str []), .d (.str [])], none⟩]) (.seq (.reg [⟨some 3, .mf 160 [.s 1], none⟩, ⟨some 4, .cf 129 [.s 3], none⟩, ⟨none, .st (.s 2) (.s 4) 2, none⟩]) (.ret))
theorem c135_ok : comp Tryz.prog Tryz.f135.ntmps ((Tryz.f135.body).getD .skip) = some c135 := by kernel_rfl
def r135 : List RV := [.c 2 (some 2)]
theorem r135_ok : resP Tryz.prog Tryz.f135 = some r135 := by kernel_rfl
/-- lazaretto/label.Norm -/
theorem s135 {keep : Bool} {vs : List V} {h : H} {K : Out → H → Prop} (hl : Nat.ble vs.length 5 = true) (hk : fx (Sat Tryz.prog) ow keep c135 r135 vs h K) : Sat Tryz.prog 135 vs h K :=
  sat_intro ow mixed (fn := Tryz.f135) (by kernel_rfl) (by kernel_rfl) (c := (Tryz.f135.body).getD .skip) (by kernel_rfl) c135_ok r135_ok hl hk
set_option maxRecDepth 100000 in
def c157 : C := .seq (.reg [⟨some 2, .mv (.k (.d (.str []))), none⟩]) (.seq (.reg [⟨some 5, .mv (.s 0), none⟩, ⟨some 6, .ls (.s 5), none⟩, ⟨some 7, .mk [.int .u8 0] 1 1 (.k (.d (.int .i64 0))) (.s 6), none⟩, ⟨some 3, .al [.nl 1], none⟩, ⟨none, .st (.s 3) (.s 7) 1, none⟩]) (.seq (.seq (.reg [⟨some 8, .mv (.s 0), none⟩, ⟨some 9, .cf 158 [.s 8], none⟩]) (.block 0 (.rf (.s 9) [10] (.reg [⟨some 4, .mv (.s 10), none⟩]) (.block 1 (.reg [⟨some 11, .ld (.s 3) none, none⟩, ⟨some 12, .mv (.s 4), none⟩, ⟨some 13, .bin .and (.s 12) (.k (.d (.int .u8 63))), none⟩, ⟨some 14, .bs 1 [.d (.int .u8 0)] 1 [(0, .s 13)], none⟩, ⟨some 15, .ap (.s 11) (.s 14) 1 1, none⟩, ⟨none, .st (.s 3) (.s 15) 1, none⟩]))))) (.seq (.reg [⟨some 16, .ld (.s 3) none, none⟩, ⟨some 17, .sb (.s 16), none⟩, ⟨some 18, .cf 171 [.s 17], none⟩, ⟨some 2, .mv (.s 18), none⟩]) (.ret))))
theorem c157_ok : comp Tryz.prog Tryz.f157.ntmps ((Tryz.f157.body).getD .skip) = some c157 := by kernel_rfl
def r157 : List RV := [.s 2]
theorem r157_ok : resP Tryz.prog Tryz.f157 = some r157 := by kernel_rfl
/-- lazaretto/cnf.Norm -/
theorem s157 {keep : Bool} {vs : List V} {h : H} {K : Out → H → Prop} (hl : Nat.ble vs.length 19 = true) (hk : fx (Sat Tryz.prog) ow keep c157 r157 vs h K) : Sat Tryz.prog 157 vs h K :=
  sat_intro ow mixed (fn := Tryz.f157) (by kernel_rfl) (by kernel_rfl) (c := (Tryz.f157.body).getD .skip) (by kernel_rfl) c157_ok r157_ok hl hk
set_option maxRecDepth 100000 in
def c158 : C := .seq (.reg [⟨some 1, .bx (.s 0), none⟩, ⟨some 2, .mv (.k (.d (.nf))), none⟩]) (.seq (.reg [⟨some 3, .mf 172 [.s 1], none⟩, ⟨some 2, .mv (.s 3), none⟩]) (.ret))
theorem c158_ok : comp Tryz.prog Tryz.f158.ntmps ((Tryz.f158.body).getD .skip) = some c158 := by kernel_rfl
def r158 : List RV := [.s 2]
theorem r158_ok : resP Tryz.prog Tryz.f158 = some r158 := by kernel_rfl
/-- lazaretto/cnf.each[lazaretto/cnf.Formula] -/
theorem s158 {keep : Bool} {vs : List V} {h : H} {K : Out → H → Prop} (hl : Nat.ble vs.length 4 = true) (hk : fx (Sat Tryz.prog) ow keep c158 r158 vs h K) : Sat Tryz.prog 158 vs h K :=
  sat_intro ow mixed (fn := Tryz.f158) (by kernel_rfl) (by kernel_rfl) (c := (Tryz.f158.body).getD .skip) (by kernel_rfl) c158_ok r158_ok hl hk
set_option maxRecDepth 100000 in
def c160 : C := .seq (.reg [⟨some 3, .mv (.k (.d (.str []))), none⟩]) (.seq (.reg [⟨some 4, .mv (.s 0), none⟩, ⟨some 5, .ld (.s 1) (some 2), none⟩, ⟨some 6, .cf 161 [.s 4, .s 5], none⟩, ⟨some 7, .cf 157 [.s 6], none⟩, ⟨some 3, .mv (.s 7), none⟩]) (.ret))
theorem c160_ok : comp Tryz.prog Tryz.f160.ntmps ((Tryz.f160.body).getD .skip) = some c160 := by kernel_rfl
def r160 : List RV := [.s 3]
theorem r160_ok : resP Tryz.prog Tryz.f160 = some r160 := by kernel_rfl
/-- lazaretto/label.Norm$1 -/
theorem s160 {keep : Bool} {vs : List V} {h : H} {K : Out → H → Prop} (hl : Nat.ble vs.length 8 = true) (hk : fx (Sat Tryz.prog) ow keep c160 r160 vs h K) : Sat Tryz.prog 160 vs h K :=
  sat_intro ow mixed (fn := Tryz.f160) (by kernel_rfl) (by kernel_rfl) (c := (Tryz.f160.body).getD .skip) (by kernel_rfl) c160_ok r160_ok hl hk
set_option maxRecDepth 100000 in
def c161 : C := .seq (.reg [⟨some 3, .bx (.s 1), none⟩, ⟨some 4, .mv (.k (.d (.str []))), none⟩]) (.seq (.seq (.reg [⟨some 5, .mv (.s 0), none⟩, ⟨some 6, .eq false false [1] (.s 5) (.k (.d (.bool true))), none⟩]) (.cond (.s 6) (.seq (.reg [⟨some 7, .fa (.s 3) 0, none⟩, ⟨some 8, .ld (.s 7) none, none⟩, ⟨some 4, .mv (.s 8), none⟩]) (.ret)) (.skip))) (.seq (.reg [⟨some 9, .fa (.s 3) 1, none⟩, ⟨some 10, .ld (.s 9) none, none⟩, ⟨some 4, .mv (.s 10), none⟩]) (.ret)))
theorem c161_ok : comp Tryz.prog Tryz.f161.ntmps ((Tryz.f161.body).getD .skip) = some c161 := by kernel_rfl
def r161 : List RV := [.s 4]
theorem r161_ok : resP Tryz.prog Tryz.f161 = some r161 := by kernel_rfl
/-- (lazaretto/label.half).of -/
theorem s161 {keep : Bool} {vs : List V} {h : H} {K : Out → H → Prop} (hl : Nat.ble vs.length 11 = true) (hk : fx (Sat Tryz.prog) ow keep c161 r161 vs h K) : Sat Tryz.prog 161 vs h K :=
  sat_intro ow mixed (fn := Tryz.f161) (by kernel_rfl) (by kernel_rfl) (c := (Tryz.f161.body).getD .skip) (by kernel_rfl) c161_ok r161_ok hl hk
set_option maxRecDepth 100000 in
def c171 : C := .seq (.reg [⟨some 2, .mv (.k (.d (.str []))), none⟩]) (.seq (.reg [⟨some 3, .aa (.bool false) 256, none⟩]) (.seq (.seq (.reg [⟨some 8, .mv (.s 0), none⟩, ⟨some 9, .ls (.s 8), none⟩, ⟨some 10, .mv (.k (.d (.int .i64 0))), none⟩]) (.block 0 (.loop (.seq (.reg [⟨some 11, .bin .lss (.s 10) (.s 9), none⟩]) (.seq (.cond (.s 11) (.skip) (.exit 0)) (.seq (.block 1 (.seq (.reg [⟨some 12, .mv (.s 10), none⟩, ⟨some 4, .mv (.s 12), none⟩]) (.reg [⟨some 13, .mv (.s 0), none⟩, ⟨some 14, .mv (.s 4), none⟩, ⟨some 15, .ix (.s 13) (.s 14), none⟩, ⟨some 16, .jq (.s 3) (.s 15) 256, none⟩, ⟨none, .st (.s 16) (.k (.d (.bool true))) 1, none⟩]))) (.reg [⟨some 17, .bin .add (.s 10) (.k (.d (.int .i64 1))), none⟩, ⟨some 10, .mv (.s 17), none⟩]))))))) (.seq (.reg [⟨some 5, .nil 1, none⟩]) (.seq (.seq (.reg [⟨some 18, .la (.s 3) 256, none⟩, ⟨some 19, .mv (.k (.d (.int .i64 0))), none⟩]) (.block 2 (.loop (.seq (.reg [⟨some 20, .bin .lss (.s 19) (.k (.d (.int .i64 256))), none⟩]) (.seq (.cond (.s 20) (.skip) (.exit 2)) (.seq (.block 3 (.seq (.reg [⟨some 21, .mv (.s 19), none⟩, ⟨some 22, .ai (.s 18) (.s 19) 256, none⟩, ⟨some 6, .mv (.s 21), none⟩, ⟨some 7, .mv (.s 22), none⟩]) (.seq (.reg [⟨some 23, .mv (.s 7), none⟩, ⟨some 24, .mv (.s 23), none⟩, ⟨some 25, .mv (.s 6), some (24, true)⟩, ⟨some 26, .cv .u8 (.s 25), some (24, true)⟩, ⟨some 27, .mv (.s 5), some (24, true)⟩, ⟨some 28, .cf 178 [.s 26, .s 27], some (24, true)⟩, ⟨some 29, .un .not (.s 28), some (24, true)⟩, ⟨some 30, .pk (.s 24) (.s 29) (.k (.d (.bool false))), none⟩]) (.cond (.s 30) (.reg [⟨some 31, .mv (.s 5), none⟩, ⟨some 32, .mv (.s 6), none⟩, ⟨some 33, .cv .u8 (.s 32), none⟩, ⟨some 34, .bs 1 [.d (.int .u8 0)] 1 [(0, .s 33)], none⟩, ⟨some 35, .ap (.s 31) (.s 34) 1 1, none⟩, ⟨some 5, .mv (.s 35), none⟩]) (.skip))))) (.reg [⟨some 36, .bin .add (.s 19) (.k (.d (.int .i64 1))), none⟩, ⟨some 19, .mv (.s 36), none⟩]))))))) (.seq (.reg [⟨some 37, .mv (.s 5), none⟩, ⟨some 38, .sb (.s 37), none⟩, ⟨some 2, .mv (.s 38), none⟩]) (.ret))))))
theorem c171_ok : comp Tryz.prog Tryz.f171.ntmps ((Tryz.f171.body).getD .skip) = some c171 := by kernel_rfl
def r171 : List RV := [.s 2]
theorem r171_ok : resP Tryz.prog Tryz.f171 = some r171 := by kernel_rfl
/-- lazaretto/prin.Least -/
theorem s171 {keep : Bool} {vs : List V} {h : H} {K : Out → H → Prop} (hl : Nat.ble vs.length 39 = true) (hk : fx (Sat Tryz.prog) ow keep c171 r171 vs h K) : Sat Tryz.prog 171 vs h K :=
  sat_intro ow mixed (fn := Tryz.f171) (by kernel_rfl) (by kernel_rfl) (c := (Tryz.f171.body).getD .skip) (by kernel_rfl) c171_ok r171_ok hl hk
set_option maxRecDepth 100000 in
def c178 : C := .seq (.reg [⟨some 4, .mv (.k (.d (.bool false))), none⟩]) (.seq (.seq (.reg [⟨some 7, .mv (.s 1), none⟩, ⟨some 8, .ln (.s 7), none⟩, ⟨some 9, .mv (.k (.d (.int .i64 0))), none⟩]) (.block 0 (.loop (.seq (.reg [⟨some 10, .bin .lss (.s 9) (.s 8), none⟩]) (.seq (.cond (.s 10) (.skip) (.exit 0)) (.seq (.block 1 (.seq (.reg [⟨some 11, .ia (.s 7) (.s 9) 1, none⟩, ⟨some 12, .ld (.s 11) none, none⟩, ⟨some 6, .mv (.s 12), none⟩]) (.seq (.reg [⟨some 13, .mv (.s 6), none⟩, ⟨some 14, .mv (.s 0), none⟩, ⟨some 15, .cf 185 [.s 13, .s 14], none⟩]) (.cond (.s 15) (.seq (.reg [⟨some 4, .mv (.k (.d (.bool true))), none⟩]) (.ret)) (.skip))))) (.reg [⟨some 16, .bin .add (.s 9) (.k (.d (.int .i64 1))), none⟩, ⟨some 9, .mv (.s 16), none⟩]))))))) (.seq (.reg [⟨some 4, .mv (.k (.d (.bool false))), none⟩]) (.ret)))
theorem c178_ok : comp Tryz.prog Tryz.f178.ntmps ((Tryz.f178.body).getD .skip) = some c178 := by kernel_rfl
def r178 : List RV := [.s 4]
theorem r178_ok : resP Tryz.prog Tryz.f178 = some r178 := by kernel_rfl
/-- lazaretto/prin.holdsOneOf -/
theorem s178 {keep : Bool} {vs : List V} {h : H} {K : Out → H → Prop} (hl : Nat.ble vs.length 17 = true) (hk : fx (Sat Tryz.prog) ow keep c178 r178 vs h K) : Sat Tryz.prog 178 vs h K :=
  sat_intro ow mixed (fn := Tryz.f178) (by kernel_rfl) (by kernel_rfl) (c := (Tryz.f178.body).getD .skip) (by kernel_rfl) c178_ok r178_ok hl hk
set_option maxRecDepth 100000 in
def c185 : C := .seq (.reg [⟨some 4, .mv (.k (.d (.bool false))), none⟩]) (.seq (.reg [⟨some 5, .mv (.s 0), none⟩, ⟨some 6, .mv (.s 1), none⟩, ⟨some 7, .bin .andNot (.s 5) (.s 6), none⟩, ⟨some 8, .bin .eql (.s 7) (.k (.d (.int .u8 0))), none⟩, ⟨some 4, .mv (.s 8), none⟩]) (.ret))
theorem c185_ok : comp Tryz.prog Tryz.f185.ntmps ((Tryz.f185.body).getD .skip) = some c185 := by kernel_rfl
def r185 : List RV := [.s 4]
theorem r185_ok : resP Tryz.prog Tryz.f185 = some r185 := by kernel_rfl
/-- lazaretto/prin.In -/
theorem s185 {keep : Bool} {vs : List V} {h : H} {K : Out → H → Prop} (hl : Nat.ble vs.length 9 = true) (hk : fx (Sat Tryz.prog) ow keep c185 r185 vs h K) : Sat Tryz.prog 185 vs h K :=
  sat_intro ow mixed (fn := Tryz.f185) (by kernel_rfl) (by kernel_rfl) (c := (Tryz.f185.body).getD .skip) (by kernel_rfl) c185_ok r185_ok hl hk
end Go.Proofs.YtoibcfioicdlhaaGreatDoor
