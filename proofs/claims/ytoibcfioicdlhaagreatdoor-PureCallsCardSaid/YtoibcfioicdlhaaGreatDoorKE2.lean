/- PureCalls in the picture: who calls comes back, or fails at sixteen frames. Conditions: bytes are bytes. -/
import Derived.Test.YtoibcfioicdlhaaGreatDoorKE1
namespace Go.Proofs.YtoibcfioicdlhaaGreatDoor
open Go.Vx

def encU (u : Ou) : List D := [.int .i64 u.k, .int .i64 u.v.k, .int .i64 u.v.n, .str u.v.nm, .str u.v.ls, .str u.v.li, .int .i64 u.o.c, .int .i64 u.o.a]
def outsF (less : Int) (v : Va) (ma : Int) : Nat → List (List D)
  | 0 => []
  | e + 1 => outsF less v ma e ++ [encU (endF less v ma e)]
theorem outsF_len (less : Int) (v : Va) (ma : Int) : ∀ e, (outsF less v ma e).length = e
  | 0 => rfl
  | e + 1 => by simp [outsF, outsF_len less v ma e]
theorem fnC_at (less : Int) {f : Nat} (hf : f < 5) : (imC less).fs[(f : Int).toNat]? = some ((fnC less).getD f ⟨1, 0, []⟩) := by
  match f, hf with
  | 0, _ | 1, _ | 2, _ | 3, _ | 4, _ => rfl
theorem wkb_of {a b : V} (h : a = b) : wkb a b := h ▸ wkb_self a
theorem wkB_of {a b : B} (h : a = b) : wkB a b := by
  subst h
  cases a <;> first | exact rfl | exact Or.inl rfl
def vB (v : Va) : B := .cells [.d (.int .i64 v.k), .d (.int .i64 v.n), .d (.str v.nm), .d (.str v.ls), .d (.str v.li)]
def cgF (less : Int) (v : Va) (ma : Int) (e : Nat) : H := [vB v, imB (imC less), .rows 8 (outsF less v ma e)]
def csF (e : Nat) : T := [(9, .os 2), (10, .d (.int .i64 e))]

theorem sp_t {b : Bool} {p q : Prop} (h : b = true) (hp : p) : sp b p q := by subst h; exact hp
theorem runS_succ (im : Im) (k : Nat) (c : Co) (u : Ou) : runS im (k + 1) (c, u) = bif u.k == 0 then runS im k (stepR im c 0 0) else (c, u) := rfl
theorem q_of {i : Nat} (h : i < 60) : ∃ q, 60 - i = q + 1 ∧ 60 - (i + 1) = q := ⟨59 - i, by omega, by omega⟩
theorem okP_lt {im : Im} {k : Nat} {s : Co × Ou} (h : okP im k s) : s.1.fr.length < 17 := by
  cases k with
  | zero => exact h
  | succ k => exact h.elim (·.1) (·.1)
theorem loop_use2 {t : T} {h : H} {n0 : Nat} {body : T → H → (Ex → T → H → Prop) → Prop} {K : Ex → T → H → Prop} (rest : T) {A : Type} (I : A → Prop) (f : A → T) (g : A → H) (m : A → Nat) (x : A)
    (h1 : I x) (h2 : subs t (f x ++ rest)) (h3 : subh h (g x)) (h4 : lts n0 (f x ++ rest) (g x) = true)
    (hr : ∀ x, I x → fl (f x ++ rest) fun s => body s (g x) fun e t' h' => match e with
        | .nrm => ∃ y, I y ∧ m y < m x ∧ subs t' (f y ++ rest) ∧ subh h' (g y) ∧ lts n0 (f y ++ rest) (g y) = true
        | .ext i => K (.ext i) t' h'
        | .ret => K .ret t' h'
        | .pan v => K (.pan v) t' h') :
    lx n0 body t h K := by
  unfold lx
  refine ⟨A, I, fun a => f a ++ rest, g, m, x, ⟨h1, h2, h3, h4⟩, fun a ha => ?_⟩
  have := hr a ha
  rwa [fl_eq] at this

set_option maxRecDepth 100000 in
set_option maxHeartbeats 4000000 in
theorem calls4 (v0 : Va) (mask less : Int) (h1 : 0 ≤ mask ∧ mask ≤ 255) (h2 : 0 ≤ less ∧ less ≤ 255) : SatP Tryz.prog 4 [agV v0, .d (.int .u8 mask), .d (.int .u8 less)] (.d (.bool true)) := by
  have hf := few14 v0
  generalize fewV v0 = v at hf
  refine s4 (keep := false) rfl ?_
  repeat' (conv => whnf
           first
             | (exact And.intro rfl rfl)
             | (refine And.intro (?_ : _ = Out.ret _) rfl)
             | (intro _)
             | (refine And.intro rfl ?_)
             | (refine ⟨_, examples10, ?_⟩)
             | (refine (examples10).use ?_)
             | (refine ⟨_, hf, ?_⟩)
             | (refine (hf).use ?_)
             | (refine (.inl ⟨by unfold inR; omega, ?_⟩))
             | (refine apn_own ?_)
             | (refine fro_nil ?_)
             | (refine cfo_old ?_)
             | (refine .inl (And.intro ?_ ?_); focus ((repeat' apply And.intro) <;> first | rfl | omega | (unfold inR; omega) | (simp; done) | (unfold inR; simp at *; omega) | (simp at *; omega) | (intros; contradiction)))
             | (refine And.intro ?_ ?_; focus ((repeat' apply And.intro) <;> first | rfl | omega | (unfold inR; omega) | (simp; done) | (unfold inR; simp at *; omega) | (simp at *; omega) | (intros; contradiction)))
             | (fail)
           )
  conv => whnf
  refine loop_use2 [(1, .d (.int .u8 mask)), (2, .d (.int .u8 less)), (3, .p 0 0), (7, .d (.bool true)), (8, .p 1 0)] (fun f : Nat => f ≤ 5) csF (cgF less v mask) (fun f => 5 - f) 0 (Nat.zero_le _) ?_ ?_ ?_ (fun f hf => ?_)
  · exact ⟨wkb_of (by kernel_rfl), wkb_of (by kernel_rfl), wkb_of (by kernel_rfl), wkb_of (by kernel_rfl), wkb_of (by kernel_rfl), wkb_of (by kernel_rfl), wkb_of (by kernel_rfl), trivial⟩
  · exact ⟨wkB_of (by kernel_rfl), .inr ⟨(rfl : (5 : Nat) = 5), wkb_of (by kernel_rfl), trivial⟩, wkB_of (by kernel_rfl), trivial⟩
  · exact (by kernel_rfl)
  have hol := outsF_len less v mask f
  repeat' (conv => whnf
           first
             | (exact And.intro rfl rfl)
             | (refine And.intro (?_ : _ = Out.ret _) rfl)
             | (intro _)
             | (refine And.intro rfl ?_)
             | (refine apn_own ?_)
             | (refine fro_nil ?_)
             | (refine cfo_old ?_)
             | (refine .inl (And.intro ?_ ?_); focus ((repeat' apply And.intro) <;> first | rfl | omega | (unfold inR; omega) | (simp; done) | (unfold inR; simp at *; omega) | (simp at *; omega) | (intros; contradiction)))
             | (refine And.intro ?_ ?_; focus ((repeat' apply And.intro) <;> first | rfl | omega | (unfold inR; omega) | (simp; done) | (unfold inR; simp at *; omega) | (simp at *; omega) | (intros; contradiction)))
             | (fail)
           )
  refine sp_intro (fun hlt => ?_) (fun hge => ?_)
  · have hlt : f < 5 := by simp at hlt; omega
    have hlt' := hlt
    obtain ⟨hok, hend⟩ := run_C v h2 h1 hlt
    obtain ⟨R, hR⟩ : ∃ R, runS (imC less) 60 (begF less v mask f, went) = R := ⟨_, rfl⟩
    rw [hR] at hend
    repeat' (conv => whnf
             first
               | (exact And.intro rfl rfl)
               | (refine And.intro (?_ : _ = Out.ret _) rfl)
               | (intro _)
               | (refine And.intro rfl ?_)
               | (refine ⟨_, begun12 (imC less) f ((fnC less).getD f ⟨1, 0, []⟩) v mask (by omega) (fnC_at less hlt), ?_⟩)
               | (refine (begun12 (imC less) f ((fnC less).getD f ⟨1, 0, []⟩) v mask (by omega) (fnC_at less hlt)).use ?_)
               | (refine apn_own ?_)
               | (refine fro_nil ?_)
               | (refine cfo_old ?_)
               | (refine .inl (And.intro ?_ ?_); focus ((repeat' apply And.intro) <;> first | rfl | omega | (unfold inR; omega) | (simp; done) | (unfold inR; simp at *; omega) | (simp at *; omega) | (intros; contradiction)))
               | (refine And.intro ?_ ?_; focus ((repeat' apply And.intro) <;> first | rfl | omega | (unfold inR; omega) | (simp; done) | (unfold inR; simp at *; omega) | (simp at *; omega) | (intros; contradiction)))
               | (fail)
             )
    conv => whnf
    refine loop_use2 [(1, .d (.int .u8 mask)), (2, .d (.int .u8 less)), (3, .p 0 0), (7, .d (.bool true)), (8, .p 1 0), (9, .os 2), (10, .d (.int .i64 f)), (11, .p 3 0), (12, .p 4 0)] (fun s : Nat × Co × Ou => s.1 ≤ 60 ∧ runS (imC less) (60 - s.1) s.2 = R ∧ okP (imC less) (60 - s.1) s.2) (fun s => [(13, .d (.int .i64 s.1))]) (fun s => [vB v, imB (imC less), .rows 8 (outsF less v mask f), coB s.2.1, ouB s.2.2]) (fun s => 60 - s.1) (0, begF less v mask f, went) ⟨Nat.zero_le _, hR, hok⟩ ?_ ?_ ?_ (fun ⟨i, c, u⟩ ⟨hi, hrun, hok⟩ => ?_)
    · exact ⟨wkb_of (by kernel_rfl), wkb_of (by kernel_rfl), wkb_of (by kernel_rfl), wkb_of (by kernel_rfl), wkb_of (by kernel_rfl), wkb_of (by kernel_rfl), wkb_of (by kernel_rfl), wkb_of (by kernel_rfl), wkb_of (by kernel_rfl), wkb_of (by kernel_rfl), trivial⟩
    · exact ⟨wkB_of (by kernel_rfl), wkB_of (by kernel_rfl), wkB_of (by kernel_rfl), wkB_of (by kernel_rfl), wkB_of (by kernel_rfl), trivial⟩
    · exact (by kernel_rfl)
    repeat' (conv => whnf
             first
               | (exact And.intro rfl rfl)
               | (refine And.intro (?_ : _ = Out.ret _) rfl)
               | (intro _)
               | (refine And.intro rfl ?_)
               | (refine apn_own ?_)
               | (refine fro_nil ?_)
               | (refine cfo_old ?_)
               | (refine .inl (And.intro ?_ ?_); focus ((repeat' apply And.intro) <;> first | rfl | omega | (unfold inR; omega) | (simp; done) | (unfold inR; simp at *; omega) | (simp at *; omega) | (intros; contradiction)))
               | (refine And.intro ?_ ?_; focus ((repeat' apply And.intro) <;> first | rfl | omega | (unfold inR; omega) | (simp; done) | (unfold inR; simp at *; omega) | (simp at *; omega) | (intros; contradiction)))
               | (fail)
             )
    refine sp_intro (fun hlt => ?_) (fun hge => ?_)
    · have hlt : i < 60 := by simp at hlt; omega
      conv => whnf
      refine Exists.elim (q_of hlt) (fun q hz => ?_)
      have hq := hz.1
      have hq2 := hz.2
      have hrun : runS (imC less) (60 - i) (c, u) = R := hrun
      have hok : okP (imC less) (60 - i) (c, u) := hok
      rw [hq] at hrun hok
      rw [runS_succ] at hrun
      refine Or.elim hok (fun hA => ?_) (fun hB => ?_)
      · have hz' : (u.k == 0) = false := hA.2
        rw [hz'] at hrun
        refine sp_intro (fun hb => absurd (hz'.symm.trans hb) Bool.false_ne_true) (fun _ => ?_)
        have hu : u = endF less v mask f := by rw [← hend, ← hrun]; rfl
        repeat' (conv => whnf
                 first
                   | (exact And.intro rfl rfl)
                   | (refine And.intro (?_ : _ = Out.ret _) rfl)
                   | (intro _)
                   | (refine And.intro rfl ?_)
                   | (refine apn_own ?_)
                   | (refine fro_nil ?_)
                   | (refine cfo_old ?_)
                   | (refine .inl (And.intro ?_ ?_); focus ((repeat' apply And.intro) <;> first | rfl | omega | (unfold inR; omega) | (simp; done) | (unfold inR; simp at *; omega) | (simp at *; omega) | (intros; contradiction)))
                   | (refine And.intro ?_ ?_; focus ((repeat' apply And.intro) <;> first | rfl | omega | (unfold inR; omega) | (simp; done) | (unfold inR; simp at *; omega) | (simp at *; omega) | (intros; contradiction)))
                   | (fail)
                 )
        conv => whnf
        refine ⟨f + 1, hlt', Nat.sub_lt_sub_left hlt' (Nat.lt_succ_self f), ?_, ?_, ?_⟩
        · exact ⟨wkb_of (by kernel_rfl), wkb_of (by kernel_rfl), wkb_of (by kernel_rfl), wkb_of (by kernel_rfl), wkb_of (by kernel_rfl), wkb_of (by kernel_rfl), wkb_of (by kernel_rfl), trivial⟩
        · refine ⟨wkB_of (by kernel_rfl), wkB_of (by kernel_rfl), wkB_of ?_, trivial⟩
          show B.rows 8 (outsF less v mask f ++ [encU u]) = B.rows 8 (outsF less v mask (f + 1))
          rw [hu]
          rfl
        · kernel_rfl
      · have hz' : (u.k == 0) = true := hB.2.1
        rw [hz'] at hrun
        refine sp_intro (fun _ => ?_) (fun hb => absurd (hz'.symm.trans hb) Bool.false_ne_true.symm)
        have hs := step13 (fr := 0) (tr := 0) hB.2.2.1
        unfold St at hs
        repeat' (conv => whnf
                 first
                   | (exact And.intro rfl rfl)
                   | (refine And.intro (?_ : _ = Out.ret _) rfl)
                   | (intro _)
                   | (refine And.intro rfl ?_)
                   | (refine ⟨_, hs, ?_⟩)
                   | (refine (hs).use ?_)
                   | (refine apn_own ?_)
                   | (refine fro_nil ?_)
                   | (refine cfo_old ?_)
                   | (refine .inl (And.intro ?_ ?_); focus ((repeat' apply And.intro) <;> first | rfl | omega | (unfold inR; omega) | (simp; done) | (unfold inR; simp at *; omega) | (simp at *; omega) | (intros; contradiction)))
                   | (refine And.intro ?_ ?_; focus ((repeat' apply And.intro) <;> first | rfl | omega | (unfold inR; omega) | (simp; done) | (unfold inR; simp at *; omega) | (simp at *; omega) | (intros; contradiction)))
                   | (fail)
                 )
        refine sp_intro (fun hb => absurd hb (by have h9 : (stepR (imC less) c 0 0).1.fr.length < 17 := okP_lt hB.2.2.2; simp; omega)) (fun _ => ?_)
        repeat' (conv => whnf
                 first
                   | (exact And.intro rfl rfl)
                   | (refine And.intro (?_ : _ = Out.ret _) rfl)
                   | (intro _)
                   | (refine And.intro rfl ?_)
                   | (refine apn_own ?_)
                   | (refine fro_nil ?_)
                   | (refine cfo_old ?_)
                   | (refine .inl (And.intro ?_ ?_); focus ((repeat' apply And.intro) <;> first | rfl | omega | (unfold inR; omega) | (simp; done) | (unfold inR; simp at *; omega) | (simp at *; omega) | (intros; contradiction)))
                   | (refine And.intro ?_ ?_; focus ((repeat' apply And.intro) <;> first | rfl | omega | (unfold inR; omega) | (simp; done) | (unfold inR; simp at *; omega) | (simp at *; omega) | (intros; contradiction)))
                   | (fail)
                 )
        conv => whnf
        refine ⟨(i + 1, stepR (imC less) c 0 0), ⟨Nat.succ_le_of_lt hlt, by rw [hq2]; exact hrun, by rw [hq2]; exact hB.2.2.2⟩, Nat.sub_lt_sub_left hlt (Nat.lt_succ_self i), ?_, ?_, ?_⟩
        · exact ⟨wkb_of (by kernel_rfl), wkb_of (by kernel_rfl), wkb_of (by kernel_rfl), wkb_of (by kernel_rfl), wkb_of (by kernel_rfl), wkb_of (by kernel_rfl), wkb_of (by kernel_rfl), wkb_of (by kernel_rfl), wkb_of (by kernel_rfl), wkb_of (by kernel_rfl), trivial⟩
        · exact ⟨wkB_of (by kernel_rfl), wkB_of (by kernel_rfl), wkB_of (by kernel_rfl), wkB_of (by kernel_rfl), wkB_of (by kernel_rfl), trivial⟩
        · kernel_rfl
    · have hi60 : i = 60 := by simp at hge; omega
      have hrun : runS (imC less) (60 - i) (c, u) = R := hrun
      rw [hi60] at hrun
      have hu : u = endF less v mask f := by rw [← hend, ← hrun]; rfl
      repeat' (conv => whnf
               first
                 | (exact And.intro rfl rfl)
                 | (refine And.intro (?_ : _ = Out.ret _) rfl)
                 | (intro _)
                 | (refine And.intro rfl ?_)
                 | (refine apn_own ?_)
                 | (refine fro_nil ?_)
                 | (refine cfo_old ?_)
                 | (refine .inl (And.intro ?_ ?_); focus ((repeat' apply And.intro) <;> first | rfl | omega | (unfold inR; omega) | (simp; done) | (unfold inR; simp at *; omega) | (simp at *; omega) | (intros; contradiction)))
                 | (refine And.intro ?_ ?_; focus ((repeat' apply And.intro) <;> first | rfl | omega | (unfold inR; omega) | (simp; done) | (unfold inR; simp at *; omega) | (simp at *; omega) | (intros; contradiction)))
                 | (fail)
               )
      conv => whnf
      refine ⟨f + 1, hlt', Nat.sub_lt_sub_left hlt' (Nat.lt_succ_self f), ?_, ?_, ?_⟩
      · exact ⟨wkb_of (by kernel_rfl), wkb_of (by kernel_rfl), wkb_of (by kernel_rfl), wkb_of (by kernel_rfl), wkb_of (by kernel_rfl), wkb_of (by kernel_rfl), wkb_of (by kernel_rfl), trivial⟩
      · refine ⟨wkB_of (by kernel_rfl), wkB_of (by kernel_rfl), wkB_of ?_, trivial⟩
        show B.rows 8 (outsF less v mask f ++ [encU u]) = B.rows 8 (outsF less v mask (f + 1))
        rw [hu]
        rfl
      · kernel_rfl
  · have hge : f = 5 := by simp at hge; omega
    subst hge
    have hw : IntKind.i64.wrap (bitv .and .u8 mask less) = bitv .and .u8 mask less := by
      have := less_in (ma := mask) h2
      rw [less_is h2] at this
      rw [IntKind.wrap_i64]
      omega
    repeat' (conv => whnf
             first
               | (exact And.intro rfl rfl)
               | (refine And.intro (?_ : _ = Out.ret _) rfl)
               | (intro _)
               | (refine And.intro rfl ?_)
               | (refine ⟨_, number11 (-6), ?_⟩)
               | (refine (number11 (-6)).use ?_)
               | (refine ⟨_, number11 mask, ?_⟩)
               | (refine (number11 mask).use ?_)
               | (refine ⟨_, number11 (IntKind.i64.wrap (bitv .and .u8 mask less)), ?_⟩)
               | (refine (number11 (IntKind.i64.wrap (bitv .and .u8 mask less))).use ?_)
               | (refine (.inl ⟨by unfold inR; omega, ?_⟩))
               | (refine (.inr ?_ : (inR .i64 _ ∧ _) ∨ _))
               | (refine (sp_t (by simp [endF, num]; done) ?_))
               | (refine apn_own ?_)
               | (refine fro_nil ?_)
               | (refine cfo_old ?_)
               | (refine .inl (And.intro ?_ ?_); focus ((repeat' apply And.intro) <;> first | rfl | omega | (unfold inR; omega) | (simp; done) | (unfold inR; simp at *; omega) | (simp at *; omega) | (intros; contradiction)))
               | (refine And.intro ?_ ?_; focus ((repeat' apply And.intro) <;> first | rfl | omega | (unfold inR; omega) | (simp; done) | (unfold inR; simp at *; omega) | (simp at *; omega) | (intros; contradiction)))
               | (refine ⟨_, ⟨by decide, rfl, rfl⟩, ?_⟩)
               | (refine ⟨_, rfl, ?_⟩)
               | (fail)
             )
    have he : ((endF less v mask 4).v.k == 1 && ((endF less v mask 4).v.n == IntKind.i64.wrap (bitv .and .u8 mask less) && ((endF less v mask 4).v.nm == [] && ((endF less v mask 4).v.ls == [] && ((endF less v mask 4).v.li == [] && true))))) = true := by simp [endF, num, less_is h2, hw]
    show Out.ret (V.d (D.bool ((endF less v mask 4).v.k == 1 && ((endF less v mask 4).v.n == IntKind.i64.wrap (bitv .and .u8 mask less) && ((endF less v mask 4).v.nm == [] && ((endF less v mask 4).v.ls == [] && ((endF less v mask 4).v.li == [] && true))))))) = Out.ret (.d (.bool true))
    rw [he]
end Go.Proofs.YtoibcfioicdlhaaGreatDoor
