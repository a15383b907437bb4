/- What a throw comes to, and a return. Conditions: lists are not too long. -/
import Derived.Test.YtfllfllfeiaoeaaCore5
namespace Go.Proofs.Ytfllfllfeiaoeaa
open Go.Vx

def num (n : Int) : Va := ⟨1, n, [], [], []⟩
def tryOk (c : Co) (t : Tr) : Bool := decide (1 ≤ t.f) && (decide (t.f ≤ c.fr.length) && (decide (0 ≤ t.h) && decide (t.h ≤ c.st.length)))
def setPC (l : List Fr) (i : Nat) (pc : Int) : List Fr := match l[i]? with
  | some f => l.set i { f with pc := pc }
  | none => l
def throwC (c : Co) (t : Tr) (code : Int) : Co := ⟨setPC (cutn c.fr t.f) (t.f - 1).toNat t.a, cutn c.st t.h ++ [num code], cutn c.tr (c.tr.length - 1)⟩
/-- What is thrown goes on at the last try that is not kept. -/
def throwR (c : Co) (code kp : Int) : V :=
  bif decide ((c.tr.length : Int) - 1 < max kp 0) then .tu [agC c, .d (.bool false)] else
  match c.tr.getLast? with
  | none => .tu [agC c, .d (.bool false)]
  | some t => bif tryOk c t then .tu [agC (throwC c t code), .d (.bool true)] else .tu [agC c, .d (.bool false)]

theorem throw13 (c : Co) (code kp : Int) (hf : c.fr.length < 1000000000) (hs : c.st.length < 1000000000) : SatP Try.prog 13 [agC c, .d (.int .i64 code), .d (.int .i64 kp)] (throwR c code kp) := by
  cases hkp : decide ((c.tr.length : Int) - 1 < max kp 0) with
  | true =>
    have hr : throwR c code kp = .tu [agC c, .d (.bool false)] := by simp only [throwR, hkp, cond_true]
    have hkp' : decide (((c.tr.map encT).length : Int) - 1 < max kp 0) = true := by simpa using hkp
    rw [hr]
    refine s13 (keep := false) rfl ?_
    repeat' (conv => whnf
             first
               | (exact And.intro rfl rfl)
               | (refine And.intro (?_ : _ = Out.ret _) rfl)
               | (intro _)
               | (refine And.intro rfl ?_)
               | (refine apn_own ?_)
               | (refine .inl (And.intro ?_ ?_); focus ((repeat' apply And.intro) <;> first | rfl | omega | (unfold inR; omega) | (simp; done) | (unfold inR; simp at *; omega) | (simp at *; omega) | (intros; contradiction)))
               | (refine And.intro ?_ ?_; focus ((repeat' apply And.intro) <;> first | rfl | omega | (unfold inR; omega) | (simp; done) | (unfold inR; simp at *; omega) | (simp at *; omega) | (intros; contradiction)))
             )
    refine sp_intro (fun hkp2 => ?_) (fun hkp2 => by rw [hkp'] at hkp2; cases hkp2)
    repeat' (conv => whnf
             first
               | (exact And.intro rfl rfl)
               | (refine And.intro (?_ : _ = Out.ret _) rfl)
               | (intro _)
               | (refine And.intro rfl ?_)
               | (refine apn_own ?_)
               | (refine .inl (And.intro ?_ ?_); focus ((repeat' apply And.intro) <;> first | rfl | omega | (unfold inR; omega) | (simp; done) | (unfold inR; simp at *; omega) | (simp at *; omega) | (intros; contradiction)))
               | (refine And.intro ?_ ?_; focus ((repeat' apply And.intro) <;> first | rfl | omega | (unfold inR; omega) | (simp; done) | (unfold inR; simp at *; omega) | (simp at *; omega) | (intros; contradiction)))
             )
  | false =>
    have hkp' : decide (((c.tr.map encT).length : Int) - 1 < max kp 0) = false := by simpa using hkp
    have hpos : 0 < c.tr.length := by simp at hkp; omega
    obtain ⟨t, ht⟩ : ∃ t, c.tr[c.tr.length - 1]? = some t := ⟨_, List.getElem?_eq_getElem (by omega)⟩
    have htl : c.tr.getLast? = some t := by rw [List.getLast?_eq_getElem?]; exact ht
    cases hy : tryOk c t with
    | false =>
      have hr : throwR c code kp = .tu [agC c, .d (.bool false)] := by simp only [throwR, hkp, htl, hy, cond_false]
      rw [hr]
      refine s13 (keep := false) rfl ?_
      repeat' (conv => whnf
               first
                 | (exact And.intro rfl rfl)
                 | (refine And.intro (?_ : _ = Out.ret _) rfl)
                 | (intro _)
                 | (refine And.intro rfl ?_)
                 | (refine apn_own ?_)
                 | (refine .inl (And.intro ?_ ?_); focus ((repeat' apply And.intro) <;> first | rfl | omega | (unfold inR; omega) | (simp; done) | (unfold inR; simp at *; omega) | (simp at *; omega) | (intros; contradiction)))
                 | (refine And.intro ?_ ?_; focus ((repeat' apply And.intro) <;> first | rfl | omega | (unfold inR; omega) | (simp; done) | (unfold inR; simp at *; omega) | (simp at *; omega) | (intros; contradiction)))
               )
      refine sp_intro (fun hkp2 => by rw [hkp'] at hkp2; cases hkp2) (fun hkp2 => ?_)
      repeat' (conv => whnf
               first
                 | (exact And.intro rfl rfl)
                 | (refine And.intro (?_ : _ = Out.ret _) rfl)
                 | (intro _)
                 | (refine And.intro rfl ?_)
                 | (refine apn_own ?_)
                 | (refine .inl (And.intro ?_ ?_); focus ((repeat' apply And.intro) <;> first | rfl | omega | (unfold inR; omega) | (simp; done) | (unfold inR; simp at *; omega) | (simp at *; omega) | (intros; contradiction)))
                 | (refine And.intro ?_ ?_; focus ((repeat' apply And.intro) <;> first | rfl | omega | (unfold inR; omega) | (simp; done) | (unfold inR; simp at *; omega) | (simp at *; omega) | (intros; contradiction)))
               )
      refine ⟨encT t, ⟨by simp; omega, by simp [ht], rfl⟩, ?_⟩
      repeat' (conv => whnf
               first
                 | (exact And.intro rfl rfl)
                 | (refine And.intro (?_ : _ = Out.ret _) rfl)
                 | (intro _)
                 | (refine And.intro rfl ?_)
                 | (refine clone25 _ (by simp at *; omega) ?_)
                 | (refine apn_own ?_)
                 | (refine .inl (And.intro ?_ ?_); focus ((repeat' apply And.intro) <;> first | rfl | omega | (unfold inR; omega) | (simp; done) | (unfold inR; simp at *; omega) | (simp at *; omega) | (intros; contradiction)))
                 | (refine And.intro ?_ ?_; focus ((repeat' apply And.intro) <;> first | rfl | omega | (unfold inR; omega) | (simp; done) | (unfold inR; simp at *; omega) | (simp at *; omega) | (intros; contradiction)))
                 | (refine sp_intro (fun hb => ?_) (fun hb => ?_))
               )
      exfalso
      simp [tryOk] at *
      omega
    | true =>
      have hr : throwR c code kp = .tu [agC (throwC c t code), .d (.bool true)] := by simp only [throwR, hkp, htl, hy, cond_false, cond_true]
      rw [hr]
      have h1 : 1 ≤ t.f ∧ t.f ≤ c.fr.length ∧ 0 ≤ t.h ∧ t.h ≤ c.st.length := by
        simp [tryOk] at hy; omega
      obtain ⟨f, hf⟩ : ∃ f, c.fr[(t.f - 1).toNat]? = some f := ⟨_, List.getElem?_eq_getElem (by omega)⟩
      have hrow : (List.take (min (max t.f 0) (List.map encF c.fr).length).toNat (List.map encF c.fr))[(t.f - 1).toNat]? = some (encF f) := by
        rw [List.getElem?_take, if_pos (by simp; omega), List.getElem?_map, hf]
        rfl
      have hfc : (cutn c.fr t.f)[(t.f - 1).toNat]? = some f := by
        unfold cutn
        rw [List.getElem?_take, if_pos (by omega), hf]
      have hst : setPC (cutn c.fr t.f) (t.f - 1).toNat t.a = (cutn c.fr t.f).set (t.f - 1).toNat { f with pc := t.a } := by simp only [setPC, hfc]
      refine s13 (keep := false) rfl ?_
      repeat' (conv => whnf
               first
                 | (exact And.intro rfl rfl)
                 | (refine And.intro (?_ : _ = Out.ret _) rfl)
                 | (intro _)
                 | (refine And.intro rfl ?_)
                 | (refine apn_own ?_)
                 | (refine .inl (And.intro ?_ ?_); focus ((repeat' apply And.intro) <;> first | rfl | omega | (unfold inR; omega) | (simp; done) | (unfold inR; simp at *; omega) | (simp at *; omega) | (intros; contradiction)))
                 | (refine And.intro ?_ ?_; focus ((repeat' apply And.intro) <;> first | rfl | omega | (unfold inR; omega) | (simp; done) | (unfold inR; simp at *; omega) | (simp at *; omega) | (intros; contradiction)))
               )
      refine sp_intro (fun hkp2 => by rw [hkp'] at hkp2; cases hkp2) (fun hkp2 => ?_)
      repeat' (conv => whnf
               first
                 | (exact And.intro rfl rfl)
                 | (refine And.intro (?_ : _ = Out.ret _) rfl)
                 | (intro _)
                 | (refine And.intro rfl ?_)
                 | (refine apn_own ?_)
                 | (refine .inl (And.intro ?_ ?_); focus ((repeat' apply And.intro) <;> first | rfl | omega | (unfold inR; omega) | (simp; done) | (unfold inR; simp at *; omega) | (simp at *; omega) | (intros; contradiction)))
                 | (refine And.intro ?_ ?_; focus ((repeat' apply And.intro) <;> first | rfl | omega | (unfold inR; omega) | (simp; done) | (unfold inR; simp at *; omega) | (simp at *; omega) | (intros; contradiction)))
               )
      refine ⟨encT t, ⟨by simp; omega, by simp [ht], rfl⟩, ?_⟩
      repeat' (conv => whnf
               first
                 | (exact And.intro rfl rfl)
                 | (refine And.intro (?_ : _ = Out.ret _) rfl)
                 | (intro _)
                 | (refine And.intro rfl ?_)
                 | (refine apn_own ?_)
                 | (refine .inl (And.intro ?_ ?_); focus ((repeat' apply And.intro) <;> first | rfl | omega | (unfold inR; omega) | (simp; done) | (unfold inR; simp at *; omega) | (simp at *; omega) | (intros; contradiction)))
                 | (refine And.intro ?_ ?_; focus ((repeat' apply And.intro) <;> first | rfl | omega | (unfold inR; omega) | (simp; done) | (unfold inR; simp at *; omega) | (simp at *; omega) | (intros; contradiction)))
               )
      refine sp_intro (fun hb => absurd hb (by simp; omega)) (fun hb => ?_)
      repeat' (conv => whnf
               first
                 | (exact And.intro rfl rfl)
                 | (refine And.intro (?_ : _ = Out.ret _) rfl)
                 | (intro _)
                 | (refine And.intro rfl ?_)
                 | (refine apn_own ?_)
                 | (refine .inl (And.intro ?_ ?_); focus ((repeat' apply And.intro) <;> first | rfl | omega | (unfold inR; omega) | (simp; done) | (unfold inR; simp at *; omega) | (simp at *; omega) | (intros; contradiction)))
                 | (refine And.intro ?_ ?_; focus ((repeat' apply And.intro) <;> first | rfl | omega | (unfold inR; omega) | (simp; done) | (unfold inR; simp at *; omega) | (simp at *; omega) | (intros; contradiction)))
               )
      refine sp_intro (fun hb => absurd hb (by simp; omega)) (fun hb => ?_)
      repeat' (conv => whnf
               first
                 | (exact And.intro rfl rfl)
                 | (refine And.intro (?_ : _ = Out.ret _) rfl)
                 | (intro _)
                 | (refine And.intro rfl ?_)
                 | (refine apn_own ?_)
                 | (refine .inl (And.intro ?_ ?_); focus ((repeat' apply And.intro) <;> first | rfl | omega | (unfold inR; omega) | (simp; done) | (unfold inR; simp at *; omega) | (simp at *; omega) | (intros; contradiction)))
                 | (refine And.intro ?_ ?_; focus ((repeat' apply And.intro) <;> first | rfl | omega | (unfold inR; omega) | (simp; done) | (unfold inR; simp at *; omega) | (simp at *; omega) | (intros; contradiction)))
               )
      refine sp_intro (fun hb => absurd hb (by simp; omega)) (fun hb => ?_)
      repeat' (conv => whnf
               first
                 | (exact And.intro rfl rfl)
                 | (refine And.intro (?_ : _ = Out.ret _) rfl)
                 | (intro _)
                 | (refine And.intro rfl ?_)
                 | (refine apn_own ?_)
                 | (refine .inl (And.intro ?_ ?_); focus ((repeat' apply And.intro) <;> first | rfl | omega | (unfold inR; omega) | (simp; done) | (unfold inR; simp at *; omega) | (simp at *; omega) | (intros; contradiction)))
                 | (refine And.intro ?_ ?_; focus ((repeat' apply And.intro) <;> first | rfl | omega | (unfold inR; omega) | (simp; done) | (unfold inR; simp at *; omega) | (simp at *; omega) | (intros; contradiction)))
               )
      refine sp_intro (fun hb => absurd hb (by simp; omega)) (fun hb => ?_)
      repeat' (conv => whnf
               first
                 | (exact And.intro rfl rfl)
                 | (refine And.intro (?_ : _ = Out.ret _) rfl)
                 | (intro _)
                 | (refine And.intro rfl ?_)
                 | (refine clone25 _ (by simp at *; omega) ?_)
                 | (refine ⟨_, cut21 _ _, ?_⟩)
                 | (refine (cut21 _ _).use ?_)
                 | (refine apn_own ?_)
                 | (refine .inl (And.intro ?_ ?_); focus ((repeat' apply And.intro) <;> first | rfl | omega | (unfold inR; omega) | (simp; done) | (unfold inR; simp at *; omega) | (simp at *; omega) | (intros; contradiction)))
                 | (refine And.intro ?_ ?_; focus ((repeat' apply And.intro) <;> first | rfl | omega | (unfold inR; omega) | (simp; done) | (unfold inR; simp at *; omega) | (simp at *; omega) | (intros; contradiction)))
               )
      refine ⟨encF f, hrow, ⟨rfl, rfl, rfl⟩, ?_⟩
      repeat' (conv => whnf
               first
                 | (exact And.intro rfl rfl)
                 | (refine And.intro (?_ : _ = Out.ret _) rfl)
                 | (intro _)
                 | (refine And.intro rfl ?_)
                 | (refine ⟨_, cut22 _ _, ?_⟩)
                 | (refine (cut22 _ _).use ?_)
                 | (refine ⟨_, add24 _ _ _ _ _ _ (by simp; omega), ?_⟩)
                 | (refine (add24 _ _ _ _ _ _ (by simp; omega)).use ?_)
                 | (refine ⟨_, cut23 _ _, ?_⟩)
                 | (refine (cut23 _ _).use ?_)
                 | (refine apn_own ?_)
                 | (refine .inl (And.intro ?_ ?_); focus ((repeat' apply And.intro) <;> first | rfl | omega | (unfold inR; omega) | (simp; done) | (unfold inR; simp at *; omega) | (simp at *; omega) | (intros; contradiction)))
                 | (refine And.intro ?_ ?_; focus ((repeat' apply And.intro) <;> first | rfl | omega | (unfold inR; omega) | (simp; done) | (unfold inR; simp at *; omega) | (simp at *; omega) | (intros; contradiction)))
               )
      show Out.ret (V.tu [V.ag [V.d (.sl 5 ((cutn (c.fr.map encF) t.f).set (t.f - 1).toNat (encF { f with pc := t.a }))), V.d (.sl 5 (cutn (c.st.map encV) t.h ++ [encV (num code)])), V.d (.sl 3 (cutn (c.tr.map encT) ((c.tr.map encT).length - 1)))], V.d (.bool true)]) = _
      rw [cutn_map, cutn_map, cutn_map]
      simp only [agC, throwC, hst, List.map_set, List.map_append, List.map_cons, List.map_nil, List.length_map]

def retOk (c : Co) : Bool := popOk c 1 && decide (0 < c.fr.length)
def zeroV : Va := ⟨0, 0, [], [], []⟩
def retC (c : Co) : Co := ⟨cutn c.fr (c.fr.length - 1), cutn c.st (base c), keep (c.fr.length - 1) c.tr⟩
def retV (c : Co) : Va := ((popL c 1)[0]?).getD zeroV
/-- What is given back. -/
def retR (c : Co) : V := bif retOk c then .tu [agC (retC c), agV (retV c), .d (.bool true)] else .tu [agC c, agV zeroV, .d (.bool false)]

theorem ret14 (c : Co) (hf : c.fr.length < 1000000000) (hs : c.st.length < 1000000000) (ht : c.tr.length < 1000000000) : SatP Try.prog 14 [agC c] (retR c) := by
  refine s14 (keep := false) rfl ?_
  cases hp : popOk c 1 with
  | false =>
    have hr : popR c 1 = .tu [agC c, .d (.sl 5 []), .d (.bool false)] := popR_no hp
    have hpop := pop10 c 1 hs
    rw [hr] at hpop
    repeat' (conv => whnf
             first
               | (exact And.intro rfl rfl)
               | (refine And.intro (?_ : _ = Out.ret _) rfl)
               | (intro _)
               | (refine And.intro rfl ?_)
               | (refine ⟨_, hpop, ?_⟩)
               | (refine (hpop).use ?_)
               | (refine apn_own ?_)
               | (refine .inl (And.intro ?_ ?_); focus ((repeat' apply And.intro) <;> first | rfl | omega | (unfold inR; omega) | (simp; done) | (unfold inR; simp at *; omega) | (simp at *; omega) | (intros; contradiction)))
               | (refine And.intro ?_ ?_; focus ((repeat' apply And.intro) <;> first | rfl | omega | (unfold inR; omega) | (simp; done) | (unfold inR; simp at *; omega) | (simp at *; omega) | (intros; contradiction)))
             )
    simp only [retR, retOk, hp, Bool.false_and, cond_false]
    rfl
  | true =>
    have hr : popR c 1 = .tu [agC (popC c 1), .d (.sl 5 ((popL c 1).map encV)), .d (.bool true)] := popR_yes hp
    have hpop := pop10 c 1 hs
    rw [hr] at hpop
    repeat' (conv => whnf
             first
               | (exact And.intro rfl rfl)
               | (refine And.intro (?_ : _ = Out.ret _) rfl)
               | (intro _)
               | (refine And.intro rfl ?_)
               | (refine ⟨_, hpop, ?_⟩)
               | (refine (hpop).use ?_)
               | (refine apn_own ?_)
               | (refine .inl (And.intro ?_ ?_); focus ((repeat' apply And.intro) <;> first | rfl | omega | (unfold inR; omega) | (simp; done) | (unfold inR; simp at *; omega) | (simp at *; omega) | (intros; contradiction)))
               | (refine And.intro ?_ ?_; focus ((repeat' apply And.intro) <;> first | rfl | omega | (unfold inR; omega) | (simp; done) | (unfold inR; simp at *; omega) | (simp at *; omega) | (intros; contradiction)))
             )
    refine sp_intro (fun hz => ?_) (fun hz => ?_)
    · have hz : c.fr.length = 0 := by simpa using hz
      have hy : retOk c = false := by simp [retOk, hz]
      repeat' (conv => whnf
               first
                 | (exact And.intro rfl rfl)
                 | (refine And.intro (?_ : _ = Out.ret _) rfl)
                 | (intro _)
                 | (refine And.intro rfl ?_)
                 | (refine apn_own ?_)
                 | (refine .inl (And.intro ?_ ?_); focus ((repeat' apply And.intro) <;> first | rfl | omega | (unfold inR; omega) | (simp; done) | (unfold inR; simp at *; omega) | (simp at *; omega) | (intros; contradiction)))
                 | (refine And.intro ?_ ?_; focus ((repeat' apply And.intro) <;> first | rfl | omega | (unfold inR; omega) | (simp; done) | (unfold inR; simp at *; omega) | (simp at *; omega) | (intros; contradiction)))
               )
      simp only [retR, hy, cond_false]
      rfl
    · have hz : 0 < c.fr.length := by
        have : ¬ c.fr.length = 0 := by simpa using hz
        omega
      have hy : retOk c = true := by simp [retOk, hz, hp]
      simp only [retR, hy, cond_true]
      obtain ⟨f, hf1⟩ : ∃ f, c.fr[c.fr.length - 1]? = some f := ⟨_, List.getElem?_eq_getElem (by omega)⟩
      have hb : base c = f.ba := by simp [base, List.getLast?_eq_getElem?, hf1]
      repeat' (conv => whnf
               first
                 | (exact And.intro rfl rfl)
                 | (refine And.intro (?_ : _ = Out.ret _) rfl)
                 | (intro _)
                 | (refine And.intro rfl ?_)
                 | (refine apn_own ?_)
                 | (refine .inl (And.intro ?_ ?_); focus ((repeat' apply And.intro) <;> first | rfl | omega | (unfold inR; omega) | (simp; done) | (unfold inR; simp at *; omega) | (simp at *; omega) | (intros; contradiction)))
                 | (refine And.intro ?_ ?_; focus ((repeat' apply And.intro) <;> first | rfl | omega | (unfold inR; omega) | (simp; done) | (unfold inR; simp at *; omega) | (simp at *; omega) | (intros; contradiction)))
               )
      refine ⟨encF f, ⟨by simp; omega, by simp [hf1], rfl⟩, ?_⟩
      repeat' (conv => whnf
               first
                 | (exact And.intro rfl rfl)
                 | (refine And.intro (?_ : _ = Out.ret _) rfl)
                 | (intro _)
                 | (refine And.intro rfl ?_)
                 | (refine ⟨_, cut22 _ _, ?_⟩)
                 | (refine (cut22 _ _).use ?_)
                 | (refine ⟨_, cut21 _ _, ?_⟩)
                 | (refine (cut21 _ _).use ?_)
                 | (refine clone27 _ (by simp; omega) ?_)
                 | (refine delete26 _ _ ht ?_)
                 | (refine apn_own ?_)
                 | (refine .inl (And.intro ?_ ?_); focus ((repeat' apply And.intro) <;> first | rfl | omega | (unfold inR; omega) | (simp; done) | (unfold inR; simp at *; omega) | (simp at *; omega) | (intros; contradiction)))
                 | (refine And.intro ?_ ?_; focus ((repeat' apply And.intro) <;> first | rfl | omega | (unfold inR; omega) | (simp; done) | (unfold inR; simp at *; omega) | (simp at *; omega) | (intros; contradiction)))
               )
      obtain ⟨v, hv⟩ : ∃ v, (popL c 1)[0]? = some v := by
        refine ⟨_, List.getElem?_eq_getElem ?_⟩
        simp [popL, popOk] at *
        omega
      refine ⟨encV v, ⟨by omega, by simp [hv], rfl⟩, ?_⟩
      repeat' (conv => whnf
               first
                 | (exact And.intro rfl rfl)
                 | (refine And.intro (?_ : _ = Out.ret _) rfl)
                 | (intro _)
                 | (refine And.intro rfl ?_)
                 | (refine apn_own ?_)
                 | (refine .inl (And.intro ?_ ?_); focus ((repeat' apply And.intro) <;> first | rfl | omega | (unfold inR; omega) | (simp; done) | (unfold inR; simp at *; omega) | (simp at *; omega) | (intros; contradiction)))
                 | (refine And.intro ?_ ?_; focus ((repeat' apply And.intro) <;> first | rfl | omega | (unfold inR; omega) | (simp; done) | (unfold inR; simp at *; omega) | (simp at *; omega) | (intros; contradiction)))
               )
      refine Eq.trans (show _ = Out.ret (V.tu [V.ag [V.d (.sl 5 _), V.d (.sl 5 _), V.d (.sl 3 _)], V.ag [V.d _, V.d _, V.d _, V.d _, V.d _], V.d (.bool true)]) from rfl) ?_
      show Out.ret (V.tu [V.ag [V.d (.sl 5 (cutn (c.fr.map encF) ((c.fr.map encF).length - 1))), V.d (.sl 5 (cutn (c.st.map encV) f.ba)), V.d (.sl 3 ((keep ((c.fr.map encF).length - 1) c.tr).map encT))], agV v, V.d (.bool true)]) = _
      rw [cutn_map, cutn_map]
      simp only [agC, retC, retV, hv, hb, List.length_map, Option.getD_some]

def zeros (n : Nat) : List Va := List.replicate n (num 0)
def enterOk (c : Co) : Bool := decide (c.fr.length < 16)
def enterC (c : Co) (fn vs : Int) (l : List Va) (ma : Int) : Co := ⟨c.fr ++ [⟨fn, 0, c.st.length, ma, l ++ zeros (min (max vs 0) 16).toNat⟩], c.st, c.tr⟩
/-- A frame more. -/
def enterR (c : Co) (fn vs : Int) (l : List Va) (ma : Int) : V := bif enterOk c then .tu [agC (enterC c fn vs l ma), .d (.bool true)] else .tu [agC c, .d (.bool false)]
theorem enter7 (c : Co) (fn vs : Int) (l : List Va) (ma : Int) (hf : c.fr.length < 1000000000) (ha : l.length < 1000000000) : SatP Try.prog 7 [agC c, .d (.int .i64 fn), .d (.int .i64 vs), .d (.sl 5 (l.map encV)), .d (.int .u8 ma)] (enterR c fn vs l ma) := by
  refine s7 (keep := false) rfl ?_
  repeat' (conv => whnf
           first
             | (exact And.intro rfl rfl)
             | (refine And.intro (?_ : _ = Out.ret _) rfl)
             | (intro _)
             | (refine And.intro rfl ?_)
             | (refine apn_own ?_)
             | (refine .inl (And.intro ?_ ?_); focus ((repeat' apply And.intro) <;> first | rfl | omega | (unfold inR; omega) | (simp; done) | (unfold inR; simp at *; omega) | (simp at *; omega) | (intros; contradiction)))
             | (refine And.intro ?_ ?_; focus ((repeat' apply And.intro) <;> first | rfl | omega | (unfold inR; omega) | (simp; done) | (unfold inR; simp at *; omega) | (simp at *; omega) | (intros; contradiction)))
           )
  refine sp_intro (fun hno => ?_) (fun hyes => ?_)
  · have hno : 16 ≤ (c.fr.length : Int) := by simpa using hno
    repeat' (conv => whnf
             first
               | (exact And.intro rfl rfl)
               | (refine And.intro (?_ : _ = Out.ret _) rfl)
               | (intro _)
               | (refine And.intro rfl ?_)
               | (refine apn_own ?_)
               | (refine .inl (And.intro ?_ ?_); focus ((repeat' apply And.intro) <;> first | rfl | omega | (unfold inR; omega) | (simp; done) | (unfold inR; simp at *; omega) | (simp at *; omega) | (intros; contradiction)))
               | (refine And.intro ?_ ?_; focus ((repeat' apply And.intro) <;> first | rfl | omega | (unfold inR; omega) | (simp; done) | (unfold inR; simp at *; omega) | (simp at *; omega) | (intros; contradiction)))
             )
    have hy : enterOk c = false := by simp [enterOk]; omega
    simp only [enterR, hy, cond_false]
    rfl
  · have hyes : (c.fr.length : Int) < 16 := by simpa using hyes
    have hy : enterOk c = true := by simp [enterOk]; omega
    have hr : enterR c fn vs l ma = .tu [agC (enterC c fn vs l ma), .d (.bool true)] := by simp only [enterR, hy, cond_true]
    rw [hr]
    repeat' (conv => whnf
             first
               | (exact And.intro rfl rfl)
               | (refine And.intro (?_ : _ = Out.ret _) rfl)
               | (intro _)
               | (refine And.intro rfl ?_)
               | (refine clone15 _ (by simp; omega) ?_)
               | (refine apn_own ?_)
               | (refine .inl (And.intro ?_ ?_); focus ((repeat' apply And.intro) <;> first | rfl | omega | (unfold inR; omega) | (simp; done) | (unfold inR; simp at *; omega) | (simp at *; omega) | (intros; contradiction)))
               | (refine And.intro ?_ ?_; focus ((repeat' apply And.intro) <;> first | rfl | omega | (unfold inR; omega) | (simp; done) | (unfold inR; simp at *; omega) | (simp at *; omega) | (intros; contradiction)))
             )
    conv => whnf
    refine loop_use [12, 18, 19, 23, 24, 25, 26, 27, 28, 29] (fun p : Nat × List Va => p.1 ≤ (min (max vs 0) 16).toNat ∧ p.2 = l ++ zeros p.1) (fun p => [(12, .os 2), (23, .d (.int .i64 p.1))]) (fun p => [.cells [.d (.sl 5 (c.fr.map encF)), .d (.sl 5 (c.st.map encV)), .d (.sl 3 (c.tr.map encT))], .cells [.nl 5, .nl 5, .nl 3], .rows 5 (p.2.map encV)]) (fun p => (min (max vs 0) 16).toNat - p.1) (0, l) ⟨Nat.zero_le _, by simp [zeros]⟩ ?_ ?_ ?_ (fun ⟨i, r⟩ ⟨hi, hr⟩ => ?_)
    · exact (by repeat' (first | exact trivial | exact rfl | exact Or.inl rfl | refine And.intro ?_ ?_ | refine Or.inr ?_))
    · exact (by repeat' (first | exact trivial | exact rfl | exact Or.inl rfl | refine And.intro ?_ ?_ | refine Or.inr ?_))
    · exact rfl
    repeat' (conv => whnf
             first
               | (exact And.intro rfl rfl)
               | (refine And.intro (?_ : _ = Out.ret _) rfl)
               | (intro _)
               | (refine And.intro rfl ?_)
               | (refine apn_own ?_)
               | (refine .inl (And.intro ?_ ?_); focus ((repeat' apply And.intro) <;> first | rfl | omega | (unfold inR; omega) | (simp; done) | (unfold inR; simp at *; omega) | (simp at *; omega) | (intros; contradiction)))
               | (refine And.intro ?_ ?_; focus ((repeat' apply And.intro) <;> first | rfl | omega | (unfold inR; omega) | (simp; done) | (unfold inR; simp at *; omega) | (simp at *; omega) | (intros; contradiction)))
             )
    refine sp_intro (fun hlt => ?_) (fun hge => ?_)
    · have hlt : i < (min (max vs 0) 16).toNat := by simp at hlt; omega
      have hrl : r.length < 1000000100 := by simp at hr; simp [hr, zeros]; omega
      repeat' (conv => whnf
               first
                 | (exact And.intro rfl rfl)
                 | (refine And.intro (?_ : _ = Out.ret _) rfl)
                 | (intro _)
                 | (refine And.intro rfl ?_)
                 | (refine apn_own ?_)
                 | (refine .inl (And.intro ?_ ?_); focus ((repeat' apply And.intro) <;> first | rfl | omega | (unfold inR; omega) | (simp; done) | (unfold inR; simp at *; omega) | (simp at *; omega) | (intros; contradiction)))
                 | (refine And.intro ?_ ?_; focus ((repeat' apply And.intro) <;> first | rfl | omega | (unfold inR; omega) | (simp; done) | (unfold inR; simp at *; omega) | (simp at *; omega) | (intros; contradiction)))
               )
      refine ⟨(i + 1, r ++ [num 0]), ⟨hlt, ?_⟩, Nat.sub_lt_sub_left hlt (Nat.lt_succ_self i), (by repeat' (first | exact trivial | exact rfl | exact Or.inl rfl | refine And.intro ?_ ?_ | refine Or.inr ?_)), ?_, rfl⟩
      · simp at hr
        simp [hr, zeros, List.replicate_succ']
      · refine ⟨.inl rfl, .inl rfl, ?_, trivial⟩
        simp [encV, num]
        rfl
    · have hge : i = (min (max vs 0) 16).toNat := by simp at hge hi; omega
      repeat' (conv => whnf
               first
                 | (exact And.intro rfl rfl)
                 | (refine And.intro (?_ : _ = Out.ret _) rfl)
                 | (intro _)
                 | (refine And.intro rfl ?_)
                 | (refine apn_own ?_)
                 | (refine .inl (And.intro ?_ ?_); focus ((repeat' apply And.intro) <;> first | rfl | omega | (unfold inR; omega) | (simp; done) | (unfold inR; simp at *; omega) | (simp at *; omega) | (intros; contradiction)))
                 | (refine And.intro ?_ ?_; focus ((repeat' apply And.intro) <;> first | rfl | omega | (unfold inR; omega) | (simp; done) | (unfold inR; simp at *; omega) | (simp at *; omega) | (intros; contradiction)))
               )
      conv => whnf
      refine .inr ?_
      repeat' (conv => whnf
               first
                 | (exact And.intro rfl rfl)
                 | (refine And.intro (?_ : _ = Out.ret _) rfl)
                 | (intro _)
                 | (refine And.intro rfl ?_)
                 | (refine ⟨_, add16 _ _ _ _ _ _ (by simp; omega), ?_⟩)
                 | (refine (add16 _ _ _ _ _ _ (by simp; omega)).use ?_)
                 | (refine apn_own ?_)
                 | (refine .inl (And.intro ?_ ?_); focus ((repeat' apply And.intro) <;> first | rfl | omega | (unfold inR; omega) | (simp; done) | (unfold inR; simp at *; omega) | (simp at *; omega) | (intros; contradiction)))
                 | (refine And.intro ?_ ?_; focus ((repeat' apply And.intro) <;> first | rfl | omega | (unfold inR; omega) | (simp; done) | (unfold inR; simp at *; omega) | (simp at *; omega) | (intros; contradiction)))
               )
      show Out.ret (V.tu [V.ag [V.d (.sl 5 (c.fr.map encF ++ [[.int .i64 fn, .int .i64 0, .int .i64 (c.st.map encV).length, .int .u8 ma, .sl 5 (r.map encV)]])), V.d (.sl 5 (c.st.map encV)), V.d (.sl 3 (c.tr.map encT))], V.d (.bool true)]) = _
      simp at hr
      simp [agC, enterC, encF, hr, hge]
end Go.Proofs.Ytfllfllfeiaoeaa
