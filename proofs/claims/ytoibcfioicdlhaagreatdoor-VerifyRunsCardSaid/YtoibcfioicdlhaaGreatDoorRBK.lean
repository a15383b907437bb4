/- VerifyRuns' own walk. Conditions: none. -/
import Derived.Test.YtoibcfioicdlhaaGreatDoorRBJ
namespace Go.Proofs.YtoibcfioicdlhaaGreatDoor
open Go.Vx
set_option maxRecDepth 100000

theorem po17 {c : Int} {i : Info} (h : c = 17) (hi : inf c = some i) : i.po = 0 ∧ i.ar = 4 := by
  subst h
  have : ∃ j, inf 17 = some j ∧ j.po = 0 ∧ j.ar = 4 := ⟨_, rfl, rfl, rfl⟩
  obtain ⟨j, e, h1⟩ := this
  rw [hi] at e
  cases e
  exact h1
theorem call_ok {im : Im} (hI : GoodIm im) {fn : Fn} {o : Op} {i : Info} (hi : inf o.c = some i) (hoe : opErr im fn o = none) (hro : rightB o = true) (hc : o.c = 17) : ∃ g, 0 ≤ o.a ∧ im.fs[o.a.toNat]? = some g ∧ g.args = 1 := by
  obtain ⟨_, _, ha, _⟩ := rightB_is hro
  have h4 := (po17 hc hi).2
  have hlt : o.a < im.fs.length := by
    simp only [opErr, hi, opErrA, h4] at hoe
    cases hd : decide (o.a < (im.fs.length : Int)) with
    | true => simpa using hd
    | false => rw [hd] at hoe; simp at hoe
  have hl : o.a.toNat < im.fs.length := by omega
  refine ⟨im.fs[o.a.toNat], ha, List.getElem?_eq_getElem hl, (hI.2.2 _ (List.getElem_mem hl)).1⟩

set_option maxHeartbeats 4000000 in
theorem uses (L : List (List Int)) (hL : ∀ l ∈ L, byts l) (w : Int) (hw : 0 ≤ w ∧ w ≤ 255) (ps : List Int) (_ : byts ps) : SatP Tryz.prog 5 [.d (.sl 1 (L.map fun l => [D.sl 1 (rowsU l)])), .d (.int .u8 w), .d (.sl 1 (rowsU ps))] (.d (.bool true)) := by
  obtain ⟨n, en, hn⟩ := modN hw 3 (by decide)
  refine s5 (keep := false) rfl ?_
  repeat' ((conv => whnf); first | ((with_reducible refine And.intro (?_ : @Eq Out _ _) (?_ : @Eq H _ _)) <;> exact rfl) | ((with_reducible refine And.intro (?_ : @Eq Out _ _) (?_ : @Eq H _ _)); rotate_left; exact rfl) | intro _ | refine And.intro rfl ?_ | refine ⟨_, examples15, ?_⟩ | refine (examples15).use ?_ | refine apn_own ?_ | refine bsn_data ?_ | refine fro_nil ?_ | refine cfo_old ?_ | ((first | refine .inl (And.intro ?_ ?_) | refine And.intro ?_ ?_); focus ((repeat' apply And.intro) <;> first | rfl | omega | (unfold inR; omega) | (simp; done) | (unfold inR; simp at *; omega) | (simp at *; omega) | (intros; contradiction))) | fail)
  refine made16 L hL fun im hI => ?_
  have hch := check17 im (okIm_good hI) 300 _ (check_good hI)
  have hlt : n < im.fs.length := by rw [hI.2.1]; exact hn
  obtain ⟨fn, hf⟩ : ∃ fn, im.fs[n]? = some fn := ⟨_, List.getElem?_eq_getElem hlt⟩
  obtain ⟨s, hd, hs⟩ := depths_ok hI hf
  replace en : w.tmod 3 = (n : Int) := en
  obtain ⟨s1, s2, s3, s4⟩ := hs
  obtain ⟨x0, o0, i0, e0, ho0, _⟩ := s2 _ s3
  obtain rfl : 0 = x0 := by have : (0 : Int) = (x0 : Int) := e0; omega
  have hl0 : 0 < fn.code.length := (List.getElem?_eq_some_iff.1 ho0).1
  have hd0 : (rowsI (depthsV fn.code.length s))[0]? = some [.int .i64 0] := by
    have := depths_get (x := 0) s1 s3 hl0
    simp [rowsI, this]
  have hdl : (rowsI (depthsV fn.code.length s)).length = fn.code.length := by simp [rowsI, depthsV]
  have hcl : (fn.code.map encO).length = fn.code.length := by simp
  have hneq : (((rowsI (depthsV fn.code.length s)).length : Int) != ((fn.code.map encO).length : Int)) = false := by rw [hdl, hcl]; simp
  repeat' ((conv => whnf); first | ((with_reducible refine And.intro (?_ : @Eq Out _ _) (?_ : @Eq H _ _)) <;> exact rfl) | ((with_reducible refine And.intro (?_ : @Eq Out _ _) (?_ : @Eq H _ _)); rotate_left; exact rfl) | intro _ | refine And.intro rfl ?_ | refine ⟨_, hch, ?_⟩ | refine (hch).use ?_ | refine (And.intro (by decide) ?_) | refine (.inl ⟨by rw [en]; unfold inR; omega, ?_⟩) | refine apn_own ?_ | refine bsn_data ?_ | refine fro_nil ?_ | refine cfo_old ?_ | ((first | refine .inl (And.intro ?_ ?_) | refine And.intro ?_ ?_); focus ((repeat' apply And.intro) <;> first | rfl | omega | (unfold inR; omega) | (simp; done) | (unfold inR; simp at *; omega) | (simp at *; omega) | (intros; contradiction))) | fail)
  rw [en]
  repeat' ((conv => whnf); first | ((with_reducible refine And.intro (?_ : @Eq Out _ _) (?_ : @Eq H _ _)) <;> exact rfl) | ((with_reducible refine And.intro (?_ : @Eq Out _ _) (?_ : @Eq H _ _)); rotate_left; exact rfl) | intro _ | refine And.intro rfl ?_ | refine ⟨_, hd, ?_⟩ | refine (hd).use ?_ | refine apn_own ?_ | refine bsn_data ?_ | refine fro_nil ?_ | refine cfo_old ?_ | ((first | refine .inl (And.intro ?_ ?_) | refine And.intro ?_ ?_); focus ((repeat' apply And.intro) <;> first | rfl | omega | (unfold inR; omega) | (simp; done) | (unfold inR; simp at *; omega) | (simp at *; omega) | (intros; contradiction))) | fail)
  refine ⟨encFn fn, ⟨by omega, by simp [hf], rfl⟩, ?_⟩
  repeat' ((conv => whnf); first | ((with_reducible refine And.intro (?_ : @Eq Out _ _) (?_ : @Eq H _ _)) <;> exact rfl) | ((with_reducible refine And.intro (?_ : @Eq Out _ _) (?_ : @Eq H _ _)); rotate_left; exact rfl) | intro _ | refine And.intro rfl ?_ | refine apn_own ?_ | refine bsn_data ?_ | refine fro_nil ?_ | refine cfo_old ?_ | ((first | refine .inl (And.intro ?_ ?_) | refine And.intro ?_ ?_); focus ((repeat' apply And.intro) <;> first | rfl | omega | (unfold inR; omega) | (simp; done) | (unfold inR; simp at *; omega) | (simp at *; omega) | (intros; contradiction))) | fail)
  repeat' ((conv => whnf); first | ((with_reducible refine And.intro (?_ : @Eq Out _ _) (?_ : @Eq H _ _)) <;> exact rfl) | ((with_reducible refine And.intro (?_ : @Eq Out _ _) (?_ : @Eq H _ _)); rotate_left; exact rfl) | intro _ | refine And.intro rfl ?_ | refine (sp_f hneq ?_) | refine apn_own ?_ | refine bsn_data ?_ | refine fro_nil ?_ | refine cfo_old ?_ | ((first | refine .inl (And.intro ?_ ?_) | refine And.intro ?_ ?_); focus ((repeat' apply And.intro) <;> first | rfl | omega | (unfold inR; omega) | (simp; done) | (unfold inR; simp at *; omega) | (simp at *; omega) | (intros; contradiction))) | fail)
  repeat' ((conv => whnf); first | ((with_reducible refine And.intro (?_ : @Eq Out _ _) (?_ : @Eq H _ _)) <;> exact rfl) | ((with_reducible refine And.intro (?_ : @Eq Out _ _) (?_ : @Eq H _ _)); rotate_left; exact rfl) | intro _ | refine And.intro rfl ?_ | refine apn_own ?_ | refine bsn_data ?_ | refine fro_nil ?_ | refine cfo_old ?_ | ((first | refine .inl (And.intro ?_ ?_) | refine And.intro ?_ ?_); focus ((repeat' apply And.intro) <;> first | rfl | omega | (unfold inR; omega) | (simp; done) | (unfold inR; simp at *; omega) | (simp at *; omega) | (intros; contradiction))) | fail)
  refine ⟨_, ⟨by decide, hd0, rfl⟩, ?_⟩
  repeat' ((conv => whnf); first | ((with_reducible refine And.intro (?_ : @Eq Out _ _) (?_ : @Eq H _ _)) <;> exact rfl) | ((with_reducible refine And.intro (?_ : @Eq Out _ _) (?_ : @Eq H _ _)); rotate_left; exact rfl) | intro _ | refine And.intro rfl ?_ | refine apn_own ?_ | refine bsn_data ?_ | refine fro_nil ?_ | refine cfo_old ?_ | ((first | refine .inl (And.intro ?_ ?_) | refine And.intro ?_ ?_); focus ((repeat' apply And.intro) <;> first | rfl | omega | (unfold inR; omega) | (simp; done) | (unfold inR; simp at *; omega) | (simp at *; omega) | (intros; contradiction))) | fail)
  conv => whnf
  refine loop_use2 [(2, .d (.sl 1 (rowsU ps))), (7, .d (.bool true)), (8, .p 0 0), (13, .d (.sl 1 (rowsI (depthsV fn.code.length s)))), (14, .d (.sl 2 (fn.code.map encO)))] (fun q : Nat × Nat × Int × Int => q.1 ≤ 300 ∧ q.1 ≤ q.2.1 ∧ ((q.2.1 : Int), (q.2.2.1, q.2.2.2)) ∈ s) (fun q => [(15, .d (.int .i64 q.2.1)), (16, .d (.int .i64 q.2.2.1)), (17, .d (.int .i64 q.1))]) (fun _ => [.cells [.d (.sl 5 (im.cs.map encV)), .d (.sl 3 (im.fs.map encFn))]]) (fun q => 300 - q.1) (0, 0, 0, 0) ⟨Nat.zero_le _, Nat.zero_le _, s3⟩ ?_ ?_ ?_ (fun q ⟨hk, hkx, hm⟩ => ?_)
  · exact (by repeat' (first | exact trivial | exact rfl | exact Or.inl rfl | refine And.intro ?_ ?_ | refine Or.inr ?_))
  · exact (by repeat' (first | exact trivial | exact rfl | exact Or.inl rfl | refine And.intro ?_ ?_ | refine Or.inr ?_))
  · exact rfl
  obtain ⟨k, x, d, t⟩ := q
  dsimp only at hk hkx hm
  obtain ⟨x', o, i, e1, ho, hi, hoe, hro, hb, htk, ht1, ht2, hsu⟩ := s2 _ hm
  obtain rfl : x = x' := by have : (x : Int) = (x' : Int) := e1; omega
  dsimp only at hb htk ht1 ht2 hsu
  have hx : x < fn.code.length := (List.getElem?_eq_some_iff.1 ho).1
  have hdx : (rowsI (depthsV fn.code.length s))[x]? = some [.int .i64 d] := by
    have := depths_get s1 hm hx
    simp [rowsI, this]
  repeat' ((conv => whnf); first | ((with_reducible refine And.intro (?_ : @Eq Out _ _) (?_ : @Eq H _ _)) <;> exact rfl) | ((with_reducible refine And.intro (?_ : @Eq Out _ _) (?_ : @Eq H _ _)); rotate_left; exact rfl) | intro _ | refine And.intro rfl ?_ | refine apn_own ?_ | refine bsn_data ?_ | refine fro_nil ?_ | refine cfo_old ?_ | ((first | refine .inl (And.intro ?_ ?_) | refine And.intro ?_ ?_); focus ((repeat' apply And.intro) <;> first | rfl | omega | (unfold inR; omega) | (simp; done) | (unfold inR; simp at *; omega) | (simp at *; omega) | (intros; contradiction))) | fail)
  refine sp_intro (fun hlt => ?_) (fun hge => ?_)
  · have hge : decide ((x : Int) ≥ ((fn.code.map encO).length : Int)) = false := by rw [hcl]; simp; omega
    have hcx : (fn.code.map encO)[x]? = some (encO o) := by simp [ho]
    have hdd : (d != d) = false := by simp
    repeat' ((conv => whnf); first | ((with_reducible refine And.intro (?_ : @Eq Out _ _) (?_ : @Eq H _ _)) <;> exact rfl) | ((with_reducible refine And.intro (?_ : @Eq Out _ _) (?_ : @Eq H _ _)); rotate_left; exact rfl) | intro _ | refine And.intro rfl ?_ | refine apn_own ?_ | refine bsn_data ?_ | refine fro_nil ?_ | refine cfo_old ?_ | ((first | refine .inl (And.intro ?_ ?_) | refine And.intro ?_ ?_); focus ((repeat' apply And.intro) <;> first | rfl | omega | (unfold inR; omega) | (simp; done) | (unfold inR; simp at *; omega) | (simp at *; omega) | (intros; contradiction))) | fail)
    repeat' ((conv => whnf); first | ((with_reducible refine And.intro (?_ : @Eq Out _ _) (?_ : @Eq H _ _)) <;> exact rfl) | ((with_reducible refine And.intro (?_ : @Eq Out _ _) (?_ : @Eq H _ _)); rotate_left; exact rfl) | intro _ | refine And.intro rfl ?_ | refine (sp_f hge ?_) | refine apn_own ?_ | refine bsn_data ?_ | refine fro_nil ?_ | refine cfo_old ?_ | ((first | refine .inl (And.intro ?_ ?_) | refine And.intro ?_ ?_); focus ((repeat' apply And.intro) <;> first | rfl | omega | (unfold inR; omega) | (simp; done) | (unfold inR; simp at *; omega) | (simp at *; omega) | (intros; contradiction))) | fail)
    repeat' ((conv => whnf); first | ((with_reducible refine And.intro (?_ : @Eq Out _ _) (?_ : @Eq H _ _)) <;> exact rfl) | ((with_reducible refine And.intro (?_ : @Eq Out _ _) (?_ : @Eq H _ _)); rotate_left; exact rfl) | intro _ | refine And.intro rfl ?_ | refine apn_own ?_ | refine bsn_data ?_ | refine fro_nil ?_ | refine cfo_old ?_ | ((first | refine .inl (And.intro ?_ ?_) | refine And.intro ?_ ?_); focus ((repeat' apply And.intro) <;> first | rfl | omega | (unfold inR; omega) | (simp; done) | (unfold inR; simp at *; omega) | (simp at *; omega) | (intros; contradiction))) | fail)
    refine ⟨_, ⟨by omega, by simpa using hdx, rfl⟩, ?_⟩
    repeat' ((conv => whnf); first | ((with_reducible refine And.intro (?_ : @Eq Out _ _) (?_ : @Eq H _ _)) <;> exact rfl) | ((with_reducible refine And.intro (?_ : @Eq Out _ _) (?_ : @Eq H _ _)); rotate_left; exact rfl) | intro _ | refine And.intro rfl ?_ | refine (sp_f hdd ?_) | refine apn_own ?_ | refine bsn_data ?_ | refine fro_nil ?_ | refine cfo_old ?_ | ((first | refine .inl (And.intro ?_ ?_) | refine And.intro ?_ ?_); focus ((repeat' apply And.intro) <;> first | rfl | omega | (unfold inR; omega) | (simp; done) | (unfold inR; simp at *; omega) | (simp at *; omega) | (intros; contradiction))) | fail)
    repeat' ((conv => whnf); first | ((with_reducible refine And.intro (?_ : @Eq Out _ _) (?_ : @Eq H _ _)) <;> exact rfl) | ((with_reducible refine And.intro (?_ : @Eq Out _ _) (?_ : @Eq H _ _)); rotate_left; exact rfl) | intro _ | refine And.intro rfl ?_ | refine apn_own ?_ | refine bsn_data ?_ | refine fro_nil ?_ | refine cfo_old ?_ | ((first | refine .inl (And.intro ?_ ?_) | refine And.intro ?_ ?_); focus ((repeat' apply And.intro) <;> first | rfl | omega | (unfold inR; omega) | (simp; done) | (unfold inR; simp at *; omega) | (simp at *; omega) | (intros; contradiction))) | fail)
    repeat' ((conv => whnf); first | ((with_reducible refine And.intro (?_ : @Eq Out _ _) (?_ : @Eq H _ _)) <;> exact rfl) | ((with_reducible refine And.intro (?_ : @Eq Out _ _) (?_ : @Eq H _ _)); rotate_left; exact rfl) | intro _ | refine And.intro rfl ?_ | refine apn_own ?_ | refine bsn_data ?_ | refine fro_nil ?_ | refine cfo_old ?_ | ((first | refine .inl (And.intro ?_ ?_) | refine And.intro ?_ ?_); focus ((repeat' apply And.intro) <;> first | rfl | omega | (unfold inR; omega) | (simp; done) | (unfold inR; simp at *; omega) | (simp at *; omega) | (intros; contradiction))) | fail)
    refine ⟨_, ⟨by omega, by simpa using hcx, rfl⟩, ?_⟩
    have hab := about_yes hi
    have hlt3 : k + 1 ≤ 300 := by simp at hlt; omega
    have hpl : (rowsU ps).length = ps.length := by simp [rowsU]
    have hpu := inf_some hi
    have hin : inR .i64 ((k : Int) + 1) := by unfold inR; omega
    have hhi : decide (d > 32) = false := by simp; omega
    repeat' ((conv => whnf); first | ((with_reducible refine And.intro (?_ : @Eq Out _ _) (?_ : @Eq H _ _)) <;> exact rfl) | ((with_reducible refine And.intro (?_ : @Eq Out _ _) (?_ : @Eq H _ _)); rotate_left; exact rfl) | intro _ | refine And.intro rfl ?_ | refine apn_own ?_ | refine bsn_data ?_ | refine fro_nil ?_ | refine cfo_old ?_ | ((first | refine .inl (And.intro ?_ ?_) | refine And.intro ?_ ?_); focus ((repeat' apply And.intro) <;> first | rfl | omega | (unfold inR; omega) | (simp; done) | (unfold inR; simp at *; omega) | (simp at *; omega) | (intros; contradiction))) | fail)
    repeat' ((conv => whnf); first | ((with_reducible refine And.intro (?_ : @Eq Out _ _) (?_ : @Eq H _ _)) <;> exact rfl) | ((with_reducible refine And.intro (?_ : @Eq Out _ _) (?_ : @Eq H _ _)); rotate_left; exact rfl) | intro _ | refine And.intro rfl ?_ | refine ⟨_, hab, ?_⟩ | refine (hab).use ?_ | refine apn_own ?_ | refine bsn_data ?_ | refine fro_nil ?_ | refine cfo_old ?_ | ((first | refine .inl (And.intro ?_ ?_) | refine And.intro ?_ ?_); focus ((repeat' apply And.intro) <;> first | rfl | omega | (unfold inR; omega) | (simp; done) | (unfold inR; simp at *; omega) | (simp at *; omega) | (intros; contradiction))) | fail)
    repeat' ((conv => whnf); first | ((with_reducible refine And.intro (?_ : @Eq Out _ _) (?_ : @Eq H _ _)) <;> exact rfl) | ((with_reducible refine And.intro (?_ : @Eq Out _ _) (?_ : @Eq H _ _)); rotate_left; exact rfl) | intro _ | refine And.intro rfl ?_ | refine apn_own ?_ | refine bsn_data ?_ | refine fro_nil ?_ | refine cfo_old ?_ | ((first | refine .inl (And.intro ?_ ?_) | refine And.intro ?_ ?_); focus ((repeat' apply And.intro) <;> first | rfl | omega | (unfold inR; omega) | (simp; done) | (unfold inR; simp at *; omega) | (simp at *; omega) | (intros; contradiction))) | fail)
    by_cases hc : o.c = 17
    · skip
      have b17 : (o.c == 17) = true := by rw [hc]; rfl
      have b18 : (o.c == 18) = false := by rw [hc]; rfl
      have b19 : (o.c == 19) = false := by rw [hc]; rfl
      have b15 : (o.c == 15) = false := by rw [hc]; rfl
      have b16 : (o.c == 16) = false := by rw [hc]; rfl
      have b20 : (o.c == 20) = false := by rw [hc]; rfl
      have b21 : (o.c == 21) = false := by rw [hc]; rfl
      have hsu' : ∀ q ∈ sucs im o i x d t, q ∈ s ∧ (x : Int) < q.1 := hsu
      simp only [sucs, b18, b19, b15, b16, b20, b21, Bool.or_false, cond_false, List.mem_cons, List.not_mem_nil, or_false, forall_eq] at hsu'
      have hr := hsu'
      obtain ⟨g, hga, hgx, hg1⟩ := call_ok hI hi hoe hro hc
      have hp0 := po17 hc hi
      have htt : takes im o = 1 := by simp only [takes, hi, b17, cond_true, hgx, hp0.1, hg1]; decide
      rw [htt] at htk hr
      obtain ⟨ga, gv, gc⟩ := g
      have e1 : ga = 1 := hg1
      subst e1
      have hgm : (im.fs.map encFn)[o.a.toNat]? = some (encFn ⟨1, gv, gc⟩) := by simp [hgx]
      have hlo : decide (d < 1) = false := by simp; omega
      by_cases hkp : k < ps.length
      · obtain ⟨b, hbk⟩ : ∃ b, ps[k]? = some b := ⟨_, List.getElem?_eq_getElem hkp⟩
        have hkb : (rowsU ps)[k]? = some [.int .u8 b] := by simp [rowsU, hbk]
        have hpt : decide ((k : Int) < ((rowsU ps).length : Int)) = true := by rw [hpl]; simpa using hkp
        repeat' ((conv => whnf); first | ((with_reducible refine And.intro (?_ : @Eq Out _ _) (?_ : @Eq H _ _)) <;> exact rfl) | ((with_reducible refine And.intro (?_ : @Eq Out _ _) (?_ : @Eq H _ _)); rotate_left; exact rfl) | intro _ | refine And.intro rfl ?_ | refine (sp_t b17 ?_) | refine (sp_f b18 ?_) | refine (sp_f b19 ?_) | refine (sp_f b15 ?_) | refine (sp_f b16 ?_) | refine (sp_f b20 ?_) | refine (sp_f hlo ?_) | refine (sp_f hhi ?_) | refine ⟨_, ⟨Int.natCast_nonneg _, hcx, rfl⟩, ?_⟩ | refine ⟨_, ⟨hga, hgm, rfl⟩, ?_⟩ | refine (sp_t hpt ?_) | refine ⟨_, ⟨Int.natCast_nonneg _, hkb, rfl⟩, ?_⟩ | refine (.inl ⟨hin, ?_⟩) | refine apn_own ?_ | refine bsn_data ?_ | refine fro_nil ?_ | refine cfo_old ?_ | ((first | refine .inl (And.intro ?_ ?_) | refine And.intro ?_ ?_); focus ((repeat' apply And.intro) <;> first | rfl | omega | (unfold inR; omega) | (simp; done) | (unfold inR; simp at *; omega) | (simp at *; omega) | (intros; contradiction))) | fail)
        have hinv : k + 1 ≤ 300 ∧ k + 1 ≤ x + 1 ∧ (((x + 1 : Nat) : Int), (d - 1 + i.pu, t)) ∈ s := ⟨hlt3, by have := hr.2; omega, by simpa using hr.1⟩
        conv => whnf
        refine ⟨(k + 1, x + 1, d - 1 + i.pu, t), hinv, Nat.sub_lt_sub_left hlt3 (Nat.lt_succ_self k), (by repeat' (first | exact trivial | exact rfl | exact Or.inl rfl | refine And.intro ?_ ?_ | refine Or.inr ?_)), (by repeat' (first | exact trivial | exact rfl | exact Or.inl rfl | refine And.intro ?_ ?_ | refine Or.inr ?_)), rfl⟩
      · have hpt : decide ((k : Int) < ((rowsU ps).length : Int)) = false := by rw [hpl]; simpa using hkp
        repeat' ((conv => whnf); first | ((with_reducible refine And.intro (?_ : @Eq Out _ _) (?_ : @Eq H _ _)) <;> exact rfl) | ((with_reducible refine And.intro (?_ : @Eq Out _ _) (?_ : @Eq H _ _)); rotate_left; exact rfl) | intro _ | refine And.intro rfl ?_ | refine (sp_t b17 ?_) | refine (sp_f b18 ?_) | refine (sp_f b19 ?_) | refine (sp_f b15 ?_) | refine (sp_f b16 ?_) | refine (sp_f b20 ?_) | refine (sp_f hlo ?_) | refine (sp_f hhi ?_) | refine ⟨_, ⟨Int.natCast_nonneg _, hcx, rfl⟩, ?_⟩ | refine ⟨_, ⟨hga, hgm, rfl⟩, ?_⟩ | refine (sp_f hpt ?_) | refine (.inl ⟨hin, ?_⟩) | refine apn_own ?_ | refine bsn_data ?_ | refine fro_nil ?_ | refine cfo_old ?_ | ((first | refine .inl (And.intro ?_ ?_) | refine And.intro ?_ ?_); focus ((repeat' apply And.intro) <;> first | rfl | omega | (unfold inR; omega) | (simp; done) | (unfold inR; simp at *; omega) | (simp at *; omega) | (intros; contradiction))) | fail)
        have hinv : k + 1 ≤ 300 ∧ k + 1 ≤ x + 1 ∧ (((x + 1 : Nat) : Int), (d - 1 + i.pu, t)) ∈ s := ⟨hlt3, by have := hr.2; omega, by simpa using hr.1⟩
        conv => whnf
        refine ⟨(k + 1, x + 1, d - 1 + i.pu, t), hinv, Nat.sub_lt_sub_left hlt3 (Nat.lt_succ_self k), (by repeat' (first | exact trivial | exact rfl | exact Or.inl rfl | refine And.intro ?_ ?_ | refine Or.inr ?_)), (by repeat' (first | exact trivial | exact rfl | exact Or.inl rfl | refine And.intro ?_ ?_ | refine Or.inr ?_)), rfl⟩
    have b17 : (o.c == 17) = false := by simpa using hc
    clear hc
    by_cases hc : o.c = 18
    · skip
      have b17 : (o.c == 17) = false := by rw [hc]; rfl
      have b18 : (o.c == 18) = true := by rw [hc]; rfl
      have b19 : (o.c == 19) = false := by rw [hc]; rfl
      have b15 : (o.c == 15) = false := by rw [hc]; rfl
      have b16 : (o.c == 16) = false := by rw [hc]; rfl
      have b20 : (o.c == 20) = false := by rw [hc]; rfl
      have b21 : (o.c == 21) = false := by rw [hc]; rfl
      have hsu' : ∀ q ∈ sucs im o i x d t, q ∈ s ∧ (x : Int) < q.1 := hsu
      simp only [sucs, b18, b19, b15, b16, b20, b21, Bool.or_false, cond_true, cond_false, List.not_mem_nil] at hsu'
      have htt : takes im o = i.po := by simp only [takes, hi, b17, cond_false]
      rw [htt] at htk
      have hlo : decide (d < i.po) = false := by simp; omega
      by_cases hkp : k < ps.length
      · obtain ⟨b, hbk⟩ : ∃ b, ps[k]? = some b := ⟨_, List.getElem?_eq_getElem hkp⟩
        have hkb : (rowsU ps)[k]? = some [.int .u8 b] := by simp [rowsU, hbk]
        have hpt : decide ((k : Int) < ((rowsU ps).length : Int)) = true := by rw [hpl]; simpa using hkp
        repeat' ((conv => whnf); first | ((with_reducible refine And.intro (?_ : @Eq Out _ _) (?_ : @Eq H _ _)) <;> exact rfl) | ((with_reducible refine And.intro (?_ : @Eq Out _ _) (?_ : @Eq H _ _)); rotate_left; exact rfl) | intro _ | refine And.intro rfl ?_ | refine (sp_f b17 ?_) | refine (sp_t b18 ?_) | refine (sp_f b19 ?_) | refine (sp_f b15 ?_) | refine (sp_f b16 ?_) | refine (sp_f b20 ?_) | refine (sp_f hlo ?_) | refine (sp_f hhi ?_) | refine ⟨_, ⟨Int.natCast_nonneg _, hcx, rfl⟩, ?_⟩ | refine (sp_t hpt ?_) | refine ⟨_, ⟨Int.natCast_nonneg _, hkb, rfl⟩, ?_⟩ | refine apn_own ?_ | refine bsn_data ?_ | refine fro_nil ?_ | refine cfo_old ?_ | ((first | refine .inl (And.intro ?_ ?_) | refine And.intro ?_ ?_); focus ((repeat' apply And.intro) <;> first | rfl | omega | (unfold inR; omega) | (simp; done) | (unfold inR; simp at *; omega) | (simp at *; omega) | (intros; contradiction))) | fail)
      · have hpt : decide ((k : Int) < ((rowsU ps).length : Int)) = false := by rw [hpl]; simpa using hkp
        repeat' ((conv => whnf); first | ((with_reducible refine And.intro (?_ : @Eq Out _ _) (?_ : @Eq H _ _)) <;> exact rfl) | ((with_reducible refine And.intro (?_ : @Eq Out _ _) (?_ : @Eq H _ _)); rotate_left; exact rfl) | intro _ | refine And.intro rfl ?_ | refine (sp_f b17 ?_) | refine (sp_t b18 ?_) | refine (sp_f b19 ?_) | refine (sp_f b15 ?_) | refine (sp_f b16 ?_) | refine (sp_f b20 ?_) | refine (sp_f hlo ?_) | refine (sp_f hhi ?_) | refine ⟨_, ⟨Int.natCast_nonneg _, hcx, rfl⟩, ?_⟩ | refine (sp_f hpt ?_) | refine apn_own ?_ | refine bsn_data ?_ | refine fro_nil ?_ | refine cfo_old ?_ | ((first | refine .inl (And.intro ?_ ?_) | refine And.intro ?_ ?_); focus ((repeat' apply And.intro) <;> first | rfl | omega | (unfold inR; omega) | (simp; done) | (unfold inR; simp at *; omega) | (simp at *; omega) | (intros; contradiction))) | fail)
    have b18 : (o.c == 18) = false := by simpa using hc
    clear hc
    by_cases hc : o.c = 19
    · skip
      have b17 : (o.c == 17) = false := by rw [hc]; rfl
      have b18 : (o.c == 18) = false := by rw [hc]; rfl
      have b19 : (o.c == 19) = true := by rw [hc]; rfl
      have b15 : (o.c == 15) = false := by rw [hc]; rfl
      have b16 : (o.c == 16) = false := by rw [hc]; rfl
      have b20 : (o.c == 20) = false := by rw [hc]; rfl
      have b21 : (o.c == 21) = false := by rw [hc]; rfl
      have hsu' : ∀ q ∈ sucs im o i x d t, q ∈ s ∧ (x : Int) < q.1 := hsu
      simp only [sucs, b18, b19, b15, b16, b20, b21, Bool.or_true, cond_true, cond_false, List.not_mem_nil] at hsu'
      have htt : takes im o = i.po := by simp only [takes, hi, b17, cond_false]
      rw [htt] at htk
      have hlo : decide (d < i.po) = false := by simp; omega
      by_cases hkp : k < ps.length
      · obtain ⟨b, hbk⟩ : ∃ b, ps[k]? = some b := ⟨_, List.getElem?_eq_getElem hkp⟩
        have hkb : (rowsU ps)[k]? = some [.int .u8 b] := by simp [rowsU, hbk]
        have hpt : decide ((k : Int) < ((rowsU ps).length : Int)) = true := by rw [hpl]; simpa using hkp
        repeat' ((conv => whnf); first | ((with_reducible refine And.intro (?_ : @Eq Out _ _) (?_ : @Eq H _ _)) <;> exact rfl) | ((with_reducible refine And.intro (?_ : @Eq Out _ _) (?_ : @Eq H _ _)); rotate_left; exact rfl) | intro _ | refine And.intro rfl ?_ | refine (sp_f b17 ?_) | refine (sp_f b18 ?_) | refine (sp_t b19 ?_) | refine (sp_f b15 ?_) | refine (sp_f b16 ?_) | refine (sp_f b20 ?_) | refine (sp_f hlo ?_) | refine (sp_f hhi ?_) | refine ⟨_, ⟨Int.natCast_nonneg _, hcx, rfl⟩, ?_⟩ | refine (sp_t hpt ?_) | refine ⟨_, ⟨Int.natCast_nonneg _, hkb, rfl⟩, ?_⟩ | refine apn_own ?_ | refine bsn_data ?_ | refine fro_nil ?_ | refine cfo_old ?_ | ((first | refine .inl (And.intro ?_ ?_) | refine And.intro ?_ ?_); focus ((repeat' apply And.intro) <;> first | rfl | omega | (unfold inR; omega) | (simp; done) | (unfold inR; simp at *; omega) | (simp at *; omega) | (intros; contradiction))) | fail)
      · have hpt : decide ((k : Int) < ((rowsU ps).length : Int)) = false := by rw [hpl]; simpa using hkp
        repeat' ((conv => whnf); first | ((with_reducible refine And.intro (?_ : @Eq Out _ _) (?_ : @Eq H _ _)) <;> exact rfl) | ((with_reducible refine And.intro (?_ : @Eq Out _ _) (?_ : @Eq H _ _)); rotate_left; exact rfl) | intro _ | refine And.intro rfl ?_ | refine (sp_f b17 ?_) | refine (sp_f b18 ?_) | refine (sp_t b19 ?_) | refine (sp_f b15 ?_) | refine (sp_f b16 ?_) | refine (sp_f b20 ?_) | refine (sp_f hlo ?_) | refine (sp_f hhi ?_) | refine ⟨_, ⟨Int.natCast_nonneg _, hcx, rfl⟩, ?_⟩ | refine (sp_f hpt ?_) | refine apn_own ?_ | refine bsn_data ?_ | refine fro_nil ?_ | refine cfo_old ?_ | ((first | refine .inl (And.intro ?_ ?_) | refine And.intro ?_ ?_); focus ((repeat' apply And.intro) <;> first | rfl | omega | (unfold inR; omega) | (simp; done) | (unfold inR; simp at *; omega) | (simp at *; omega) | (intros; contradiction))) | fail)
    have b19 : (o.c == 19) = false := by simpa using hc
    clear hc
    by_cases hc : o.c = 15
    · skip
      have b17 : (o.c == 17) = false := by rw [hc]; rfl
      have b18 : (o.c == 18) = false := by rw [hc]; rfl
      have b19 : (o.c == 19) = false := by rw [hc]; rfl
      have b15 : (o.c == 15) = true := by rw [hc]; rfl
      have b16 : (o.c == 16) = false := by rw [hc]; rfl
      have b20 : (o.c == 20) = false := by rw [hc]; rfl
      have b21 : (o.c == 21) = false := by rw [hc]; rfl
      have hsu' : ∀ q ∈ sucs im o i x d t, q ∈ s ∧ (x : Int) < q.1 := hsu
      simp only [sucs, b18, b19, b15, b16, b20, b21, Bool.or_false, cond_true, cond_false, List.mem_cons, List.not_mem_nil, or_false, forall_eq] at hsu'
      have hq := hsu'
      obtain ⟨y, _, _, ey, _⟩ := s2 _ hq.1
      replace ey : o.a = (y : Int) := ey
      obtain ⟨oc, oa⟩ := o
      dsimp only at hc ey hq
      subst ey
      have htt : takes im ⟨oc, (y : Int)⟩ = i.po := by simp only [takes, hi, b17, cond_false]
      rw [htt] at htk hq
      have hlo : decide (d < i.po) = false := by simp; omega
      by_cases hkp : k < ps.length
      · obtain ⟨b, hbk⟩ : ∃ b, ps[k]? = some b := ⟨_, List.getElem?_eq_getElem hkp⟩
        have hkb : (rowsU ps)[k]? = some [.int .u8 b] := by simp [rowsU, hbk]
        have hpt : decide ((k : Int) < ((rowsU ps).length : Int)) = true := by rw [hpl]; simpa using hkp
        repeat' ((conv => whnf); first | ((with_reducible refine And.intro (?_ : @Eq Out _ _) (?_ : @Eq H _ _)) <;> exact rfl) | ((with_reducible refine And.intro (?_ : @Eq Out _ _) (?_ : @Eq H _ _)); rotate_left; exact rfl) | intro _ | refine And.intro rfl ?_ | refine (sp_f b17 ?_) | refine (sp_f b18 ?_) | refine (sp_f b19 ?_) | refine (sp_t b15 ?_) | refine (sp_f b16 ?_) | refine (sp_f b20 ?_) | refine (sp_f hlo ?_) | refine (sp_f hhi ?_) | refine ⟨_, ⟨Int.natCast_nonneg _, hcx, rfl⟩, ?_⟩ | refine (sp_t hpt ?_) | refine ⟨_, ⟨Int.natCast_nonneg _, hkb, rfl⟩, ?_⟩ | refine (.inl ⟨hin, ?_⟩) | refine apn_own ?_ | refine bsn_data ?_ | refine fro_nil ?_ | refine cfo_old ?_ | ((first | refine .inl (And.intro ?_ ?_) | refine And.intro ?_ ?_); focus ((repeat' apply And.intro) <;> first | rfl | omega | (unfold inR; omega) | (simp; done) | (unfold inR; simp at *; omega) | (simp at *; omega) | (intros; contradiction))) | fail)
        have hinv : k + 1 ≤ 300 ∧ k + 1 ≤ y ∧ (((y : Nat) : Int), (d - i.po + i.pu, t)) ∈ s := ⟨hlt3, by have := hq.2; omega, by simpa using hq.1⟩
        conv => whnf
        refine ⟨(k + 1, y, d - i.po + i.pu, t), hinv, Nat.sub_lt_sub_left hlt3 (Nat.lt_succ_self k), (by repeat' (first | exact trivial | exact rfl | exact Or.inl rfl | refine And.intro ?_ ?_ | refine Or.inr ?_)), (by repeat' (first | exact trivial | exact rfl | exact Or.inl rfl | refine And.intro ?_ ?_ | refine Or.inr ?_)), rfl⟩
      · have hpt : decide ((k : Int) < ((rowsU ps).length : Int)) = false := by rw [hpl]; simpa using hkp
        repeat' ((conv => whnf); first | ((with_reducible refine And.intro (?_ : @Eq Out _ _) (?_ : @Eq H _ _)) <;> exact rfl) | ((with_reducible refine And.intro (?_ : @Eq Out _ _) (?_ : @Eq H _ _)); rotate_left; exact rfl) | intro _ | refine And.intro rfl ?_ | refine (sp_f b17 ?_) | refine (sp_f b18 ?_) | refine (sp_f b19 ?_) | refine (sp_t b15 ?_) | refine (sp_f b16 ?_) | refine (sp_f b20 ?_) | refine (sp_f hlo ?_) | refine (sp_f hhi ?_) | refine ⟨_, ⟨Int.natCast_nonneg _, hcx, rfl⟩, ?_⟩ | refine (sp_f hpt ?_) | refine (.inl ⟨hin, ?_⟩) | refine apn_own ?_ | refine bsn_data ?_ | refine fro_nil ?_ | refine cfo_old ?_ | ((first | refine .inl (And.intro ?_ ?_) | refine And.intro ?_ ?_); focus ((repeat' apply And.intro) <;> first | rfl | omega | (unfold inR; omega) | (simp; done) | (unfold inR; simp at *; omega) | (simp at *; omega) | (intros; contradiction))) | fail)
        have hinv : k + 1 ≤ 300 ∧ k + 1 ≤ y ∧ (((y : Nat) : Int), (d - i.po + i.pu, t)) ∈ s := ⟨hlt3, by have := hq.2; omega, by simpa using hq.1⟩
        conv => whnf
        refine ⟨(k + 1, y, d - i.po + i.pu, t), hinv, Nat.sub_lt_sub_left hlt3 (Nat.lt_succ_self k), (by repeat' (first | exact trivial | exact rfl | exact Or.inl rfl | refine And.intro ?_ ?_ | refine Or.inr ?_)), (by repeat' (first | exact trivial | exact rfl | exact Or.inl rfl | refine And.intro ?_ ?_ | refine Or.inr ?_)), rfl⟩
    have b15 : (o.c == 15) = false := by simpa using hc
    clear hc
    by_cases hc : o.c = 16
    · skip
      have b17 : (o.c == 17) = false := by rw [hc]; rfl
      have b18 : (o.c == 18) = false := by rw [hc]; rfl
      have b19 : (o.c == 19) = false := by rw [hc]; rfl
      have b15 : (o.c == 15) = false := by rw [hc]; rfl
      have b16 : (o.c == 16) = true := by rw [hc]; rfl
      have b20 : (o.c == 20) = false := by rw [hc]; rfl
      have b21 : (o.c == 21) = false := by rw [hc]; rfl
      have hsu' : ∀ q ∈ sucs im o i x d t, q ∈ s ∧ (x : Int) < q.1 := hsu
      simp only [sucs, b18, b19, b15, b16, b20, b21, Bool.or_false, cond_true, cond_false, List.mem_cons, List.not_mem_nil, or_false, forall_eq_or_imp, forall_eq] at hsu'
      obtain ⟨hq, hr⟩ := hsu'
      obtain ⟨y, _, _, ey, _⟩ := s2 _ hq.1
      replace ey : o.a = (y : Int) := ey
      obtain ⟨oc, oa⟩ := o
      dsimp only at hc ey hq hr
      subst ey
      have htt : takes im ⟨oc, (y : Int)⟩ = i.po := by simp only [takes, hi, b17, cond_false]
      rw [htt] at htk hq hr
      have hlo : decide (d < i.po) = false := by simp; omega
      by_cases hkp : k < ps.length
      · obtain ⟨b, hbk⟩ : ∃ b, ps[k]? = some b := ⟨_, List.getElem?_eq_getElem hkp⟩
        have hkb : (rowsU ps)[k]? = some [.int .u8 b] := by simp [rowsU, hbk]
        have hpt : decide ((k : Int) < ((rowsU ps).length : Int)) = true := by rw [hpl]; simpa using hkp
        cases htu : (b.tmod 2 == 1) with
        | true =>
          repeat' ((conv => whnf); first | ((with_reducible refine And.intro (?_ : @Eq Out _ _) (?_ : @Eq H _ _)) <;> exact rfl) | ((with_reducible refine And.intro (?_ : @Eq Out _ _) (?_ : @Eq H _ _)); rotate_left; exact rfl) | intro _ | refine And.intro rfl ?_ | refine (sp_f b17 ?_) | refine (sp_f b18 ?_) | refine (sp_f b19 ?_) | refine (sp_f b15 ?_) | refine (sp_t b16 ?_) | refine (sp_f b20 ?_) | refine (sp_f hlo ?_) | refine (sp_f hhi ?_) | refine ⟨_, ⟨Int.natCast_nonneg _, hcx, rfl⟩, ?_⟩ | refine (sp_t hpt ?_) | refine ⟨_, ⟨Int.natCast_nonneg _, hkb, rfl⟩, ?_⟩ | refine (sp_t htu ?_) | refine (.inl ⟨hin, ?_⟩) | refine apn_own ?_ | refine bsn_data ?_ | refine fro_nil ?_ | refine cfo_old ?_ | ((first | refine .inl (And.intro ?_ ?_) | refine And.intro ?_ ?_); focus ((repeat' apply And.intro) <;> first | rfl | omega | (unfold inR; omega) | (simp; done) | (unfold inR; simp at *; omega) | (simp at *; omega) | (intros; contradiction))) | fail)
          have hinv : k + 1 ≤ 300 ∧ k + 1 ≤ y ∧ (((y : Nat) : Int), (d - i.po + i.pu, t)) ∈ s := ⟨hlt3, by have := hq.2; omega, by simpa using hq.1⟩
          conv => whnf
          refine ⟨(k + 1, y, d - i.po + i.pu, t), hinv, Nat.sub_lt_sub_left hlt3 (Nat.lt_succ_self k), (by repeat' (first | exact trivial | exact rfl | exact Or.inl rfl | refine And.intro ?_ ?_ | refine Or.inr ?_)), (by repeat' (first | exact trivial | exact rfl | exact Or.inl rfl | refine And.intro ?_ ?_ | refine Or.inr ?_)), rfl⟩
        | false =>
          repeat' ((conv => whnf); first | ((with_reducible refine And.intro (?_ : @Eq Out _ _) (?_ : @Eq H _ _)) <;> exact rfl) | ((with_reducible refine And.intro (?_ : @Eq Out _ _) (?_ : @Eq H _ _)); rotate_left; exact rfl) | intro _ | refine And.intro rfl ?_ | refine (sp_f b17 ?_) | refine (sp_f b18 ?_) | refine (sp_f b19 ?_) | refine (sp_f b15 ?_) | refine (sp_t b16 ?_) | refine (sp_f b20 ?_) | refine (sp_f hlo ?_) | refine (sp_f hhi ?_) | refine ⟨_, ⟨Int.natCast_nonneg _, hcx, rfl⟩, ?_⟩ | refine (sp_t hpt ?_) | refine ⟨_, ⟨Int.natCast_nonneg _, hkb, rfl⟩, ?_⟩ | refine (sp_f htu ?_) | refine (.inl ⟨hin, ?_⟩) | refine apn_own ?_ | refine bsn_data ?_ | refine fro_nil ?_ | refine cfo_old ?_ | ((first | refine .inl (And.intro ?_ ?_) | refine And.intro ?_ ?_); focus ((repeat' apply And.intro) <;> first | rfl | omega | (unfold inR; omega) | (simp; done) | (unfold inR; simp at *; omega) | (simp at *; omega) | (intros; contradiction))) | fail)
          have hinv : k + 1 ≤ 300 ∧ k + 1 ≤ x + 1 ∧ (((x + 1 : Nat) : Int), (d - i.po + i.pu, t)) ∈ s := ⟨hlt3, by have := hr.2; omega, by simpa using hr.1⟩
          conv => whnf
          refine ⟨(k + 1, x + 1, d - i.po + i.pu, t), hinv, Nat.sub_lt_sub_left hlt3 (Nat.lt_succ_self k), (by repeat' (first | exact trivial | exact rfl | exact Or.inl rfl | refine And.intro ?_ ?_ | refine Or.inr ?_)), (by repeat' (first | exact trivial | exact rfl | exact Or.inl rfl | refine And.intro ?_ ?_ | refine Or.inr ?_)), rfl⟩
      · have hpt : decide ((k : Int) < ((rowsU ps).length : Int)) = false := by rw [hpl]; simpa using hkp
        repeat' ((conv => whnf); first | ((with_reducible refine And.intro (?_ : @Eq Out _ _) (?_ : @Eq H _ _)) <;> exact rfl) | ((with_reducible refine And.intro (?_ : @Eq Out _ _) (?_ : @Eq H _ _)); rotate_left; exact rfl) | intro _ | refine And.intro rfl ?_ | refine (sp_f b17 ?_) | refine (sp_f b18 ?_) | refine (sp_f b19 ?_) | refine (sp_f b15 ?_) | refine (sp_t b16 ?_) | refine (sp_f b20 ?_) | refine (sp_f hlo ?_) | refine (sp_f hhi ?_) | refine ⟨_, ⟨Int.natCast_nonneg _, hcx, rfl⟩, ?_⟩ | refine (sp_f hpt ?_) | refine (.inl ⟨hin, ?_⟩) | refine apn_own ?_ | refine bsn_data ?_ | refine fro_nil ?_ | refine cfo_old ?_ | ((first | refine .inl (And.intro ?_ ?_) | refine And.intro ?_ ?_); focus ((repeat' apply And.intro) <;> first | rfl | omega | (unfold inR; omega) | (simp; done) | (unfold inR; simp at *; omega) | (simp at *; omega) | (intros; contradiction))) | fail)
        have hinv : k + 1 ≤ 300 ∧ k + 1 ≤ x + 1 ∧ (((x + 1 : Nat) : Int), (d - i.po + i.pu, t)) ∈ s := ⟨hlt3, by have := hr.2; omega, by simpa using hr.1⟩
        conv => whnf
        refine ⟨(k + 1, x + 1, d - i.po + i.pu, t), hinv, Nat.sub_lt_sub_left hlt3 (Nat.lt_succ_self k), (by repeat' (first | exact trivial | exact rfl | exact Or.inl rfl | refine And.intro ?_ ?_ | refine Or.inr ?_)), (by repeat' (first | exact trivial | exact rfl | exact Or.inl rfl | refine And.intro ?_ ?_ | refine Or.inr ?_)), rfl⟩
    have b16 : (o.c == 16) = false := by simpa using hc
    clear hc
    by_cases hc : o.c = 20
    · skip
      have b17 : (o.c == 17) = false := by rw [hc]; rfl
      have b18 : (o.c == 18) = false := by rw [hc]; rfl
      have b19 : (o.c == 19) = false := by rw [hc]; rfl
      have b15 : (o.c == 15) = false := by rw [hc]; rfl
      have b16 : (o.c == 16) = false := by rw [hc]; rfl
      have b20 : (o.c == 20) = true := by rw [hc]; rfl
      have b21 : (o.c == 21) = false := by rw [hc]; rfl
      have hsu' : ∀ q ∈ sucs im o i x d t, q ∈ s ∧ (x : Int) < q.1 := hsu
      simp only [sucs, b18, b19, b15, b16, b20, b21, Bool.or_false, cond_true, cond_false, List.mem_cons, List.not_mem_nil, or_false, forall_eq_or_imp, forall_eq] at hsu'
      obtain ⟨hr, hq⟩ := hsu'
      obtain ⟨y, _, _, ey, _⟩ := s2 _ hq.1
      replace ey : o.a = (y : Int) := ey
      obtain ⟨oc, oa⟩ := o
      dsimp only at hc ey hq hr
      subst ey
      have htt : takes im ⟨oc, (y : Int)⟩ = i.po := by simp only [takes, hi, b17, cond_false]
      rw [htt] at htk hr
      have hlo : decide (d < i.po) = false := by simp; omega
      by_cases hkp : k < ps.length
      · obtain ⟨b, hbk⟩ : ∃ b, ps[k]? = some b := ⟨_, List.getElem?_eq_getElem hkp⟩
        have hkb : (rowsU ps)[k]? = some [.int .u8 b] := by simp [rowsU, hbk]
        have hpt : decide ((k : Int) < ((rowsU ps).length : Int)) = true := by rw [hpl]; simpa using hkp
        cases htu : (b.tmod 2 == 1) with
        | true =>
          repeat' ((conv => whnf); first | ((with_reducible refine And.intro (?_ : @Eq Out _ _) (?_ : @Eq H _ _)) <;> exact rfl) | ((with_reducible refine And.intro (?_ : @Eq Out _ _) (?_ : @Eq H _ _)); rotate_left; exact rfl) | intro _ | refine And.intro rfl ?_ | refine (sp_f b17 ?_) | refine (sp_f b18 ?_) | refine (sp_f b19 ?_) | refine (sp_f b15 ?_) | refine (sp_f b16 ?_) | refine (sp_t b20 ?_) | refine (sp_f hlo ?_) | refine (sp_f hhi ?_) | refine ⟨_, ⟨Int.natCast_nonneg _, hcx, rfl⟩, ?_⟩ | refine (sp_t hpt ?_) | refine ⟨_, ⟨Int.natCast_nonneg _, hkb, rfl⟩, ?_⟩ | refine (sp_t htu ?_) | refine (.inl ⟨hin, ?_⟩) | refine apn_own ?_ | refine bsn_data ?_ | refine fro_nil ?_ | refine cfo_old ?_ | ((first | refine .inl (And.intro ?_ ?_) | refine And.intro ?_ ?_); focus ((repeat' apply And.intro) <;> first | rfl | omega | (unfold inR; omega) | (simp; done) | (unfold inR; simp at *; omega) | (simp at *; omega) | (intros; contradiction))) | fail)
          have hinv : k + 1 ≤ 300 ∧ k + 1 ≤ y ∧ (((y : Nat) : Int), (d + 1, t)) ∈ s := ⟨hlt3, by have := hq.2; omega, by simpa using hq.1⟩
          conv => whnf
          refine ⟨(k + 1, y, d + 1, t), hinv, Nat.sub_lt_sub_left hlt3 (Nat.lt_succ_self k), (by repeat' (first | exact trivial | exact rfl | exact Or.inl rfl | refine And.intro ?_ ?_ | refine Or.inr ?_)), (by repeat' (first | exact trivial | exact rfl | exact Or.inl rfl | refine And.intro ?_ ?_ | refine Or.inr ?_)), rfl⟩
        | false =>
          repeat' ((conv => whnf); first | ((with_reducible refine And.intro (?_ : @Eq Out _ _) (?_ : @Eq H _ _)) <;> exact rfl) | ((with_reducible refine And.intro (?_ : @Eq Out _ _) (?_ : @Eq H _ _)); rotate_left; exact rfl) | intro _ | refine And.intro rfl ?_ | refine (sp_f b17 ?_) | refine (sp_f b18 ?_) | refine (sp_f b19 ?_) | refine (sp_f b15 ?_) | refine (sp_f b16 ?_) | refine (sp_t b20 ?_) | refine (sp_f hlo ?_) | refine (sp_f hhi ?_) | refine ⟨_, ⟨Int.natCast_nonneg _, hcx, rfl⟩, ?_⟩ | refine (sp_t hpt ?_) | refine ⟨_, ⟨Int.natCast_nonneg _, hkb, rfl⟩, ?_⟩ | refine (sp_f htu ?_) | refine (.inl ⟨hin, ?_⟩) | refine apn_own ?_ | refine bsn_data ?_ | refine fro_nil ?_ | refine cfo_old ?_ | ((first | refine .inl (And.intro ?_ ?_) | refine And.intro ?_ ?_); focus ((repeat' apply And.intro) <;> first | rfl | omega | (unfold inR; omega) | (simp; done) | (unfold inR; simp at *; omega) | (simp at *; omega) | (intros; contradiction))) | fail)
          have hinv : k + 1 ≤ 300 ∧ k + 1 ≤ x + 1 ∧ (((x + 1 : Nat) : Int), (d - i.po + i.pu, t + 1)) ∈ s := ⟨hlt3, by have := hr.2; omega, by simpa using hr.1⟩
          conv => whnf
          refine ⟨(k + 1, x + 1, d - i.po + i.pu, t + 1), hinv, Nat.sub_lt_sub_left hlt3 (Nat.lt_succ_self k), (by repeat' (first | exact trivial | exact rfl | exact Or.inl rfl | refine And.intro ?_ ?_ | refine Or.inr ?_)), (by repeat' (first | exact trivial | exact rfl | exact Or.inl rfl | refine And.intro ?_ ?_ | refine Or.inr ?_)), rfl⟩
      · have hpt : decide ((k : Int) < ((rowsU ps).length : Int)) = false := by rw [hpl]; simpa using hkp
        repeat' ((conv => whnf); first | ((with_reducible refine And.intro (?_ : @Eq Out _ _) (?_ : @Eq H _ _)) <;> exact rfl) | ((with_reducible refine And.intro (?_ : @Eq Out _ _) (?_ : @Eq H _ _)); rotate_left; exact rfl) | intro _ | refine And.intro rfl ?_ | refine (sp_f b17 ?_) | refine (sp_f b18 ?_) | refine (sp_f b19 ?_) | refine (sp_f b15 ?_) | refine (sp_f b16 ?_) | refine (sp_t b20 ?_) | refine (sp_f hlo ?_) | refine (sp_f hhi ?_) | refine ⟨_, ⟨Int.natCast_nonneg _, hcx, rfl⟩, ?_⟩ | refine (sp_f hpt ?_) | refine (.inl ⟨hin, ?_⟩) | refine apn_own ?_ | refine bsn_data ?_ | refine fro_nil ?_ | refine cfo_old ?_ | ((first | refine .inl (And.intro ?_ ?_) | refine And.intro ?_ ?_); focus ((repeat' apply And.intro) <;> first | rfl | omega | (unfold inR; omega) | (simp; done) | (unfold inR; simp at *; omega) | (simp at *; omega) | (intros; contradiction))) | fail)
        have hinv : k + 1 ≤ 300 ∧ k + 1 ≤ x + 1 ∧ (((x + 1 : Nat) : Int), (d - i.po + i.pu, t + 1)) ∈ s := ⟨hlt3, by have := hr.2; omega, by simpa using hr.1⟩
        conv => whnf
        refine ⟨(k + 1, x + 1, d - i.po + i.pu, t + 1), hinv, Nat.sub_lt_sub_left hlt3 (Nat.lt_succ_self k), (by repeat' (first | exact trivial | exact rfl | exact Or.inl rfl | refine And.intro ?_ ?_ | refine Or.inr ?_)), (by repeat' (first | exact trivial | exact rfl | exact Or.inl rfl | refine And.intro ?_ ?_ | refine Or.inr ?_)), rfl⟩
    have b20 : (o.c == 20) = false := by simpa using hc
    clear hc
    cases b21 : (o.c == 21) with
    | true =>
      have hsu' : ∀ q ∈ sucs im o i x d t, q ∈ s ∧ (x : Int) < q.1 := hsu
      simp only [sucs, b18, b19, b15, b16, b20, b21, Bool.or_false, cond_true, cond_false, List.mem_cons, List.not_mem_nil, or_false, forall_eq] at hsu'
      have hr := hsu'
      have htt : takes im o = i.po := by simp only [takes, hi, b17, cond_false]
      rw [htt] at htk hr
      have hlo : decide (d < i.po) = false := by simp; omega
      by_cases hkp : k < ps.length
      · obtain ⟨b, hbk⟩ : ∃ b, ps[k]? = some b := ⟨_, List.getElem?_eq_getElem hkp⟩
        have hkb : (rowsU ps)[k]? = some [.int .u8 b] := by simp [rowsU, hbk]
        have hpt : decide ((k : Int) < ((rowsU ps).length : Int)) = true := by rw [hpl]; simpa using hkp
        repeat' ((conv => whnf); first | ((with_reducible refine And.intro (?_ : @Eq Out _ _) (?_ : @Eq H _ _)) <;> exact rfl) | ((with_reducible refine And.intro (?_ : @Eq Out _ _) (?_ : @Eq H _ _)); rotate_left; exact rfl) | intro _ | refine And.intro rfl ?_ | refine (sp_f b17 ?_) | refine (sp_f b18 ?_) | refine (sp_f b19 ?_) | refine (sp_f b15 ?_) | refine (sp_f b16 ?_) | refine (sp_f b20 ?_) | refine (sp_f hlo ?_) | refine (sp_f hhi ?_) | refine ⟨_, ⟨Int.natCast_nonneg _, hcx, rfl⟩, ?_⟩ | refine (sp_t hpt ?_) | refine ⟨_, ⟨Int.natCast_nonneg _, hkb, rfl⟩, ?_⟩ | refine (.inl ⟨hin, ?_⟩) | refine apn_own ?_ | refine bsn_data ?_ | refine fro_nil ?_ | refine cfo_old ?_ | ((first | refine .inl (And.intro ?_ ?_) | refine And.intro ?_ ?_); focus ((repeat' apply And.intro) <;> first | rfl | omega | (unfold inR; omega) | (simp; done) | (unfold inR; simp at *; omega) | (simp at *; omega) | (intros; contradiction))) | fail)
        have hinv : k + 1 ≤ 300 ∧ k + 1 ≤ x + 1 ∧ (((x + 1 : Nat) : Int), (d - i.po + i.pu, t - 1)) ∈ s := ⟨hlt3, by have := hr.2; omega, by simpa using hr.1⟩
        conv => whnf
        refine ⟨(k + 1, x + 1, d - i.po + i.pu, t - 1), hinv, Nat.sub_lt_sub_left hlt3 (Nat.lt_succ_self k), (by repeat' (first | exact trivial | exact rfl | exact Or.inl rfl | refine And.intro ?_ ?_ | refine Or.inr ?_)), (by repeat' (first | exact trivial | exact rfl | exact Or.inl rfl | refine And.intro ?_ ?_ | refine Or.inr ?_)), rfl⟩
      · have hpt : decide ((k : Int) < ((rowsU ps).length : Int)) = false := by rw [hpl]; simpa using hkp
        repeat' ((conv => whnf); first | ((with_reducible refine And.intro (?_ : @Eq Out _ _) (?_ : @Eq H _ _)) <;> exact rfl) | ((with_reducible refine And.intro (?_ : @Eq Out _ _) (?_ : @Eq H _ _)); rotate_left; exact rfl) | intro _ | refine And.intro rfl ?_ | refine (sp_f b17 ?_) | refine (sp_f b18 ?_) | refine (sp_f b19 ?_) | refine (sp_f b15 ?_) | refine (sp_f b16 ?_) | refine (sp_f b20 ?_) | refine (sp_f hlo ?_) | refine (sp_f hhi ?_) | refine ⟨_, ⟨Int.natCast_nonneg _, hcx, rfl⟩, ?_⟩ | refine (sp_f hpt ?_) | refine (.inl ⟨hin, ?_⟩) | refine apn_own ?_ | refine bsn_data ?_ | refine fro_nil ?_ | refine cfo_old ?_ | ((first | refine .inl (And.intro ?_ ?_) | refine And.intro ?_ ?_); focus ((repeat' apply And.intro) <;> first | rfl | omega | (unfold inR; omega) | (simp; done) | (unfold inR; simp at *; omega) | (simp at *; omega) | (intros; contradiction))) | fail)
        have hinv : k + 1 ≤ 300 ∧ k + 1 ≤ x + 1 ∧ (((x + 1 : Nat) : Int), (d - i.po + i.pu, t - 1)) ∈ s := ⟨hlt3, by have := hr.2; omega, by simpa using hr.1⟩
        conv => whnf
        refine ⟨(k + 1, x + 1, d - i.po + i.pu, t - 1), hinv, Nat.sub_lt_sub_left hlt3 (Nat.lt_succ_self k), (by repeat' (first | exact trivial | exact rfl | exact Or.inl rfl | refine And.intro ?_ ?_ | refine Or.inr ?_)), (by repeat' (first | exact trivial | exact rfl | exact Or.inl rfl | refine And.intro ?_ ?_ | refine Or.inr ?_)), rfl⟩
    | false =>
      have hsu' : ∀ q ∈ sucs im o i x d t, q ∈ s ∧ (x : Int) < q.1 := hsu
      simp only [sucs, b18, b19, b15, b16, b20, b21, Bool.or_false, cond_false, List.mem_cons, List.not_mem_nil, or_false, forall_eq] at hsu'
      have hr := hsu'
      have htt : takes im o = i.po := by simp only [takes, hi, b17, cond_false]
      rw [htt] at htk hr
      have hlo : decide (d < i.po) = false := by simp; omega
      by_cases hkp : k < ps.length
      · obtain ⟨b, hbk⟩ : ∃ b, ps[k]? = some b := ⟨_, List.getElem?_eq_getElem hkp⟩
        have hkb : (rowsU ps)[k]? = some [.int .u8 b] := by simp [rowsU, hbk]
        have hpt : decide ((k : Int) < ((rowsU ps).length : Int)) = true := by rw [hpl]; simpa using hkp
        repeat' ((conv => whnf); first | ((with_reducible refine And.intro (?_ : @Eq Out _ _) (?_ : @Eq H _ _)) <;> exact rfl) | ((with_reducible refine And.intro (?_ : @Eq Out _ _) (?_ : @Eq H _ _)); rotate_left; exact rfl) | intro _ | refine And.intro rfl ?_ | refine (sp_f b17 ?_) | refine (sp_f b18 ?_) | refine (sp_f b19 ?_) | refine (sp_f b15 ?_) | refine (sp_f b16 ?_) | refine (sp_f b20 ?_) | refine (sp_f hlo ?_) | refine (sp_f hhi ?_) | refine ⟨_, ⟨Int.natCast_nonneg _, hcx, rfl⟩, ?_⟩ | refine (sp_t hpt ?_) | refine ⟨_, ⟨Int.natCast_nonneg _, hkb, rfl⟩, ?_⟩ | refine (.inl ⟨hin, ?_⟩) | refine apn_own ?_ | refine bsn_data ?_ | refine fro_nil ?_ | refine cfo_old ?_ | ((first | refine .inl (And.intro ?_ ?_) | refine And.intro ?_ ?_); focus ((repeat' apply And.intro) <;> first | rfl | omega | (unfold inR; omega) | (simp; done) | (unfold inR; simp at *; omega) | (simp at *; omega) | (intros; contradiction))) | fail)
        have hinv : k + 1 ≤ 300 ∧ k + 1 ≤ x + 1 ∧ (((x + 1 : Nat) : Int), (d - i.po + i.pu, t)) ∈ s := ⟨hlt3, by have := hr.2; omega, by simpa using hr.1⟩
        conv => whnf
        refine ⟨(k + 1, x + 1, d - i.po + i.pu, t), hinv, Nat.sub_lt_sub_left hlt3 (Nat.lt_succ_self k), (by repeat' (first | exact trivial | exact rfl | exact Or.inl rfl | refine And.intro ?_ ?_ | refine Or.inr ?_)), (by repeat' (first | exact trivial | exact rfl | exact Or.inl rfl | refine And.intro ?_ ?_ | refine Or.inr ?_)), rfl⟩
      · have hpt : decide ((k : Int) < ((rowsU ps).length : Int)) = false := by rw [hpl]; simpa using hkp
        repeat' ((conv => whnf); first | ((with_reducible refine And.intro (?_ : @Eq Out _ _) (?_ : @Eq H _ _)) <;> exact rfl) | ((with_reducible refine And.intro (?_ : @Eq Out _ _) (?_ : @Eq H _ _)); rotate_left; exact rfl) | intro _ | refine And.intro rfl ?_ | refine (sp_f b17 ?_) | refine (sp_f b18 ?_) | refine (sp_f b19 ?_) | refine (sp_f b15 ?_) | refine (sp_f b16 ?_) | refine (sp_f b20 ?_) | refine (sp_f hlo ?_) | refine (sp_f hhi ?_) | refine ⟨_, ⟨Int.natCast_nonneg _, hcx, rfl⟩, ?_⟩ | refine (sp_f hpt ?_) | refine (.inl ⟨hin, ?_⟩) | refine apn_own ?_ | refine bsn_data ?_ | refine fro_nil ?_ | refine cfo_old ?_ | ((first | refine .inl (And.intro ?_ ?_) | refine And.intro ?_ ?_); focus ((repeat' apply And.intro) <;> first | rfl | omega | (unfold inR; omega) | (simp; done) | (unfold inR; simp at *; omega) | (simp at *; omega) | (intros; contradiction))) | fail)
        have hinv : k + 1 ≤ 300 ∧ k + 1 ≤ x + 1 ∧ (((x + 1 : Nat) : Int), (d - i.po + i.pu, t)) ∈ s := ⟨hlt3, by have := hr.2; omega, by simpa using hr.1⟩
        conv => whnf
        refine ⟨(k + 1, x + 1, d - i.po + i.pu, t), hinv, Nat.sub_lt_sub_left hlt3 (Nat.lt_succ_self k), (by repeat' (first | exact trivial | exact rfl | exact Or.inl rfl | refine And.intro ?_ ?_ | refine Or.inr ?_)), (by repeat' (first | exact trivial | exact rfl | exact Or.inl rfl | refine And.intro ?_ ?_ | refine Or.inr ?_)), rfl⟩
  · have : (300 : Int) ≤ (k : Int) := by simpa using hge
    omega
end Go.Proofs.YtoibcfioicdlhaaGreatDoor
