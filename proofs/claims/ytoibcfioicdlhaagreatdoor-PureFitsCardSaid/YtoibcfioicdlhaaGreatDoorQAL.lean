/- Rows of operations, code, whole functions, in the picture. Conditions: none; lemmas on the definitions before. -/
import Derived.Test.YtoibcfioicdlhaaGreatDoorQAK
namespace Go.Vx
section
variable {P : Program} {E : Ent} {n : Nat} {G : Nat → Prop} {ρ : List Value} {t : T} {h : H} {a : Act} {w : World} {o : Oper} {nxt : Act → World → Prop} {Q : Exit → Act → World → Prop} {K KP : V → T → H → Prop}
variable (ow : Nat → Bool)
theorem opt_o {P : Program} {lo : Option Operand} {olo : Option O} (h : (match lo with | none => some none | some x => (opd P 0 x).map some) = some olo) : (lo = none ∧ olo = none) ∨ ∃ y oy ty', lo = some y ∧ olo = some oy ∧ opd P ty' y = some oy := by
  cases lo with
  | none => cases h; exact .inl ⟨rfl, rfl⟩
  | some y =>
    simp only [Option.map_eq_some_iff] at h
    obtain ⟨oy, h1, rfl⟩ := h
    exact .inr ⟨y, oy, 0, rfl, rfl, h1⟩
theorem mapM_get {α β : Type} {f : α → Option β} : ∀ {l : List α} {r : List β}, l.mapM f = some r → r.length = l.length ∧ ∀ (k : Nat) (x : α) (y : β), l[k]? = some x → r[k]? = some y → f x = some y := by
  intro l
  induction l with
  | nil => intro r h; simp at h; subst h; simp
  | cons x l ih =>
    intro r h
    simp only [List.mapM_cons, Option.bind_eq_bind, Option.bind_eq_some_iff, Option.pure_def, Option.some.injEq] at h
    obtain ⟨y, hy, ys, hys, rfl⟩ := h
    obtain ⟨h1, h2⟩ := ih hys
    refine ⟨by simp [h1], fun k x' y' hx hy' => ?_⟩
    cases k with
    | zero => simp at hx hy'; subst hx hy'; exact hy
    | succ k => exact h2 k x' y' (by simpa using hx) (by simpa using hy')
theorem str_ext (s : ByteArray) (l u : Nat) : (s.extract l u).data.toList = (s.data.toList.take u).drop l := by
  rw [ByteArray.data_extract, Array.toList_extract]
  rw [List.extract_eq_take_drop]
  rw [List.drop_take]
theorem op_ss (hC : Conc E n G ρ t h a w) (hn : Nxt E n a o K nxt) {ty t1 : TypeId} {x : Operand} {lo hi : Option Operand} {ox : O} {olo ohi : Option O} (ho : o.op = .slice ty x lo hi none) (hu : P.underlying ty = some .string)
    (hx : opd P t1 x = some ox) (hlo : (lo = none ∧ olo = none) ∨ ∃ y oy ty', lo = some y ∧ olo = some oy ∧ opd P ty' y = some oy) (hhi : (hi = none ∧ ohi = none) ∨ ∃ y oy ty', hi = some y ∧ ohi = some oy ∧ opd P ty' y = some oy)
    (hk : opx (Sat P) ow (.ss ox olo ohi) t h K KP) : o.wp P a w nxt Q := by
  have hvx := opd_ok hC hx
  have hL : ∀ l : Int, (∃ k, (match olo with | some lo => gv t lo | none => .d (.int .i64 0)) = .d (.int k l)) → (lo = none ∧ l = 0) ∨ ∃ y k, lo = some y ∧ a.eval y = .int k l := by
    rintro l ⟨k, hl⟩
    rcases hlo with ⟨h1, h2⟩ | ⟨y, oy, ty', h1, h2, h3⟩
    · subst h2; simp at hl; exact .inl ⟨h1, hl.2.symm⟩
    · subst h2
      have := opd_ok hC h3
      simp only at hl
      rw [hl] at this
      exact .inr ⟨y, k, h1, this.int⟩
  have fin : ∀ (r : List UInt8) (l u : Int), gv t ox = .d (.str r) → 0 ≤ l → l ≤ u → u ≤ r.length → K (.d (.str ((r.take u.toNat).drop l.toNat))) t h →
      (∀ s : ByteArray, a.eval x = .string s → s.size = r.length → (execOp a.eval o).run P w = .ok (.value (.string (s.extract l.toNat u.toNat))) w) → o.wp P a w nxt Q := by
    intro r l u hg h0 h1 h2 hk hrun
    rw [hg] at hvx
    obtain ⟨s, hv, rfl, hm⟩ := hvx.str
    refine wp_quiet hC hn (hrun s hv (size_list s)) (.d ?_) hk
    rw [← str_ext]
    refine .str _ (Nat.le_trans ?_ hm)
    rw [size_list, str_ext, size_list]
    simp only [List.length_drop, List.length_take]
    omega
  simp only [opx] at hk
  split at hk
  · rename_i kl l hl
    have hL := hL l ⟨kl, hl⟩
    rcases hhi with ⟨rfl, _⟩ | ⟨_, _, _, _, h2, _⟩
    rotate_left
    · cases h2
    split at hk
    · rename_i r hg
      obtain ⟨⟨g1, g2⟩, hk⟩ := hk
      refine fin r l r.length hg g1 g2 (Int.le_refl _) (by rw [Int.toNat_natCast, List.take_length]; exact hk) (fun s hv hs => ?_)
      rw [Int.toNat_natCast, ← hs]
      rcases hL with ⟨rfl, rfl⟩ | ⟨y, k, rfl, hy⟩
      · simp [execOp, ho, hv, run_sliceAt_string w ty _ _ _ _ hu, Instr.slice, run_underlying hu, Instr.sliceBounds]
      · have hl1 := run_sliceBound (P := P) w k l s.size .sliceB g1 (by rw [hs]; exact g2)
        simp [execOp, ho, hv, hy, run_sliceAt_string w ty _ _ _ _ hu, Instr.slice, run_underlying hu, Instr.sliceBounds, hl1]
    · exact hk.elim
  · rename_i kl l ohi hl
    have hL := hL l ⟨kl, hl⟩
    rcases hhi with ⟨_, h2⟩ | ⟨yh, oyh, tyh, rfl, h2, hyh⟩
    · cases h2
    cases h2
    split at hk
    · rename_i ku u hgu
      have hvu := opd_ok hC hyh
      rw [hgu] at hvu
      have hvu := hvu.int
      split at hk
      · rename_i r hg
        obtain ⟨⟨g1, g2, g3⟩, hk⟩ := hk
        refine fin r l u hg g1 g2 g3 hk (fun s hv hs => ?_)
        have hu1 := run_sliceBound (P := P) w ku u s.size .sliceAlen (by omega) (by rw [hs]; exact g3)
        have hun : (u.toNat : Int) = u := Int.toNat_of_nonneg (by omega)
        rcases hL with ⟨rfl, rfl⟩ | ⟨y, k, rfl, hy⟩
        · simp [execOp, ho, hv, hvu, run_sliceAt_string w ty _ _ _ _ hu, Instr.slice, run_underlying hu, Instr.sliceBounds, hu1]
        · have hl1 := run_sliceBound (P := P) w k l u.toNat .sliceB g1 (by omega)
          simp [execOp, ho, hv, hvu, hy, run_sliceAt_string w ty _ _ _ _ hu, Instr.slice, run_underlying hu, Instr.sliceBounds, hu1, hl1]
      · exact hk.elim
    · exact hk.elim
  · exact hk.elim
theorem arr_of {α : Type} {a : Array α} {l : List α} (h : a.toList = l) : a = l.toArray := by rw [← h]
theorem op_all (hC : Conc E n G ρ t h a w) (hn : Nxt E n a o K nxt) (hp : Pnc E n a KP Q) {x : X} (hx : compO P o.type o.op = some x ∨ x = .bad) (hk : opx (Sat P) ow x t h K KP) : o.wp P a w nxt Q := by
  rcases hx with hx | rfl
  case inr => exact hk.elim
  cases ho : o.op <;> rw [ho] at hx <;> simp only [compO] at hx <;> try (cases hx; done)
  case move y =>
    split at hx
    · cases hx
      simp only [opx, fl_eq, fnat_eq] at hk
      exact op_nil hC hn (.inl ho) hk
    · simp only [Option.map_eq_some_iff] at hx
      obtain ⟨oy, hy, rfl⟩ := hx
      exact op_mv hC hn (.inl ho) hy hk
  case assign y =>
    split at hx
    · cases hx
      simp only [opx, fl_eq, fnat_eq] at hk
      exact op_nil hC hn (.inr ho) hk
    · simp only [Option.map_eq_some_iff] at hx
      obtain ⟨oy, hy, rfl⟩ := hx
      exact op_mv hC hn (.inr ho) hy hk
  case pick c y z =>
    simp only [Option.bind_eq_bind, Option.bind_eq_some_iff, Option.some.injEq] at hx
    obtain ⟨oc, hc, oy, hy, oz, hz, rfl⟩ := hx
    simp only [opx] at hk
    split at hk
    · exact op_pk hC hn ho hc hy hz ‹_› hk
    · exact hk.elim
  case alloc ty =>
    have al : (zer P ty).map X.al = some x → o.wp P a w nxt Q := fun hx => by
      simp only [Option.map_eq_some_iff] at hx
      obtain ⟨zs, hz, rfl⟩ := hx
      simp only [opx, fl_eq, fnat_eq] at hk
      exact op_al hC hn ho hz hk
    split at hx
    · split at hx
      · rename_i m e hu hm
        simp only [Option.bind_eq_bind, Option.bind_eq_some_iff] at hx
        obtain ⟨zs, hz, hx⟩ := hx
        split at hx
        · split at hx
          · rename_i d r hc
            simp only [Bool.and_eq_true, decide_eq_true_eq] at hc hm
            cases hx
            simp only [opx, fl_eq, fnat_eq] at hk
            exact op_aa hC hn ho hz hc.1 hm.2 hc.2 hk
          · cases hx
        · cases hx
      · exact al hx
    · exact al hx
  case box ty y =>
    simp only [Option.map_eq_some_iff] at hx
    obtain ⟨oy, hy, rfl⟩ := hx
    simp only [opx, fl_eq, fnat_eq] at hk
    exact op_bx hC hn ho hy hk
  case build ty ps =>
    split at hx
    · rename_i fs hu
      simp only [Option.bind_eq_bind, Option.bind_eq_some_iff, Option.some.injEq] at hx
      obtain ⟨pl, hpl, qs, hqs, zs, hz, rfl⟩ := hx
      obtain ⟨g1, g2⟩ := mapM_get hqs
      refine op_bd (Sat P) ow hC hn ho hu hpl hz ⟨by simpa using g1, fun k p q hp hq => ?_⟩ hk
      have := g2 k p q (by simpa using hp) hq
      simp only [Option.bind_eq_some_iff, Option.some.injEq] at this
      obtain ⟨f, hf, q', hq', oy, hy, rfl⟩ := this
      exact ⟨hq', _, hy⟩
    · cases hx
  case buildSlice ty m ps =>
    split at hx
    · rename_i e hu
      simp only [Option.bind_eq_bind, Option.bind_eq_some_iff] at hx
      obtain ⟨qs, hqs, zs, hz, hx⟩ := hx
      split at hx
      · rename_i hc
        cases hx
        simp only [Bool.and_eq_true, decide_eq_true_eq, List.isEmpty_iff] at hc
        obtain ⟨⟨⟨rfl, hq0⟩, _⟩, _⟩ := hc
        subst hq0
        obtain ⟨g1, _⟩ := mapM_get hqs
        have hps : ps = #[] := Array.eq_empty_of_size_eq_zero (by simpa using g1.symm)
        subst hps
        exact op_ns (Sat P) ow hC hn ho hu hz hk
      · split at hx
        · cases hx
        · rename_i hc
          cases hx
          simp only [Bool.or_eq_true, decide_eq_true_eq, bne_iff_ne, ne_eq, not_or, Decidable.not_not] at hc
          obtain ⟨⟨⟨c1, c2⟩, c3⟩, c4⟩ := hc
          obtain ⟨g1, g2⟩ := mapM_get hqs
          refine op_bs (Sat P) ow hC hn ho hu hz c4 c1 (by omega) c3 ⟨by simpa using g1, fun k p q hp hq => ?_⟩ hk
          have := g2 k p q (by simpa using hp) hq
          simp only [Option.bind_eq_some_iff, Option.some.injEq] at this
          obtain ⟨oy, hy, rfl⟩ := this
          exact ⟨rfl, _, hy⟩
    · cases hx
  case load ty y =>
    have ld : (do some (X.ld (← opd P ty y) (← ldn P ty))) = some x → o.wp P a w nxt Q := fun hx => by
      simp only [Option.bind_eq_bind, Option.bind_eq_some_iff, Option.some.injEq] at hx
      obtain ⟨oy, hy, m, hm, rfl⟩ := hx
      exact op_ld (Sat P) ow hC hn ho hy hm hk
    split at hx
    · split at hx
      · split at hx
        · simp only [Option.bind_eq_bind, Option.bind_eq_some_iff] at hx
          obtain ⟨k, hl, oy, hy, hx⟩ := hx
          split at hx
          · rename_i hkm
            subst hkm
            cases hx
            exact op_la (Sat P) ow hC hn ho hy hl hk
          · cases hx
        · cases hx
      · exact ld hx
    · exact ld hx
  case store ty y z =>
    simp only [Option.bind_eq_bind, Option.bind_eq_some_iff, Option.some.injEq] at hx
    obtain ⟨oy, hy, oz, hz, m, hm, rfl⟩ := hx
    exact op_st (Sat P) ow hC hn ho hy hz hm hk
  case fieldAddr ty y f =>
    split at hx
    · rename_i fs hu
      simp only [Option.bind_eq_bind, Option.bind_eq_some_iff] at hx
      obtain ⟨fd, hf, hx⟩ := hx
      split at hx
      · cases hx
      · rename_i hz
        simp only [Option.bind_eq_some_iff, Option.some.injEq] at hx
        obtain ⟨oy, hy, rfl⟩ := hx
        exact op_fa (Sat P) ow hC hn ho hu hf hz hy hk
    · cases hx
  case indexAddr ty y z =>
    split at hx
    · rename_i e hu
      split at hx
      · cases hx
      · rename_i hc
        simp only [Option.bind_eq_bind, Option.bind_eq_some_iff, Option.some.injEq] at hx
        obtain ⟨oy, hy, oz, hz, rfl⟩ := hx
        exact op_ia (Sat P) ow hC hn ho hu hc hy hz hk
    · rename_i m e hu
      split at hx
      · cases hx
      · rename_i hc
        split at hx
        · split at hx
          · rename_i hc1
            simp only [Option.bind_eq_bind, Option.bind_eq_some_iff, Option.some.injEq] at hx
            obtain ⟨oy, hy, oz, hz, rfl⟩ := hx
            exact op_jq (Sat P) ow hC hn ho hu hc1 hy hz hk
          · cases hx
        · simp only [Option.bind_eq_bind, Option.bind_eq_some_iff, Option.some.injEq] at hx
          obtain ⟨oy, hy, oz, hz, rfl⟩ := hx
          exact op_ja (Sat P) ow hC hn ho hu hc hy hz hk
    · cases hx
  case makeMap ty r =>
    cases r with
    | some r => cases hx
    | none =>
      simp only at hx
      split at hx
      · cases hx; exact op_mm (Sat P) ow hC hn ho hk
      · cases hx
  case lookup ty y k ok =>
    split at hx
    · rename_i kt e hu
      simp only [Option.bind_eq_bind, Option.bind_eq_some_iff, Option.some.injEq] at hx
      obtain ⟨oy, hy, oz, hz, ks, hks, zv, hzv, rfl⟩ := hx
      exact op_ml (Sat P) ow hC hn ho hu hy hz hks hzv hk
    · cases hx
  case mapUpdate ty y k v =>
    split at hx
    · rename_i kt e hu
      simp only [Option.bind_eq_bind, Option.bind_eq_some_iff, Option.some.injEq] at hx
      obtain ⟨oy, hy, oz, hz, ov, hv, ks, hks, rfl⟩ := hx
      exact op_mu (Sat P) ow hC hn (.inl ho) hu hy hz hv hks hk
    · cases hx
  case insert ty y k v =>
    split at hx
    · rename_i kt e hu
      simp only [Option.bind_eq_bind, Option.bind_eq_some_iff, Option.some.injEq] at hx
      obtain ⟨oy, hy, oz, hz, ov, hv, ks, hks, rfl⟩ := hx
      exact op_mu (Sat P) ow hC hn (.inr ho) hu hy hz hv hks hk
    · cases hx
  case binOp b ty y z u =>
    split at hx
    · simp only [Option.bind_eq_bind, Option.bind_eq_some_iff, Option.some.injEq] at hx
      obtain ⟨oy, hy, oz, hz, rfl⟩ := hx
      exact op_bin (Sat P) ow hC hn ho hy hz hk
    · rename_i e hu
      split at hx
      · rename_i y
        simp only [Option.map_eq_some_iff] at hx
        obtain ⟨oy, hy, rfl⟩ := hx
        exact op_nq (Sat P) ow hC hn (ne := false) ho hu hy hk
      · rename_i y
        simp only [Option.map_eq_some_iff] at hx
        obtain ⟨oy, hy, rfl⟩ := hx
        exact op_nq (Sat P) ow hC hn (ne := true) ho hu hy hk
      · cases hx
    · rename_i ms hu
      split at hx
      · simp only [Option.map_eq_some_iff] at hx
        obtain ⟨oy, hy, rfl⟩ := hx
        exact op_pu (Sat P) ow hC hn hy (pu_iq hC (ne := false) ho hu hy) hk
      · simp only [Option.map_eq_some_iff] at hx
        obtain ⟨oy, hy, rfl⟩ := hx
        exact op_pu (Sat P) ow hC hn hy (pu_iq hC (ne := true) ho hu hy) hk
      · cases hx
    · rename_i hni _ _
      split at hx
      · split at hx
        · simp only [Option.bind_eq_bind, Option.bind_eq_some_iff, Option.some.injEq] at hx
          obtain ⟨oy, hy, oz, hz, rfl⟩ := hx
          exact op_bin (Sat P) ow hC hn ho hy hz hk
        · cases hx
      · split at hx
        · cases hx
        · rename_i hg
          simp only [Option.bind_eq_bind, Option.bind_eq_some_iff, Option.some.injEq] at hx
          obtain ⟨ks, hf, st, ha, oy, hy, oz, hz, rfl⟩ := hx
          exact op_eq (Sat P) ow hC hn (ne := false) ho hy hz (fun k e => hni k e) (by simpa using hg) hf ha hk
      · split at hx
        · cases hx
        · rename_i hg
          simp only [Option.bind_eq_bind, Option.bind_eq_some_iff, Option.some.injEq] at hx
          obtain ⟨ks, hf, st, ha, oy, hy, oz, hz, rfl⟩ := hx
          exact op_eq (Sat P) ow hC hn (ne := true) ho hy hz (fun k e => hni k e) (by simpa using hg) hf ha hk
      · cases hx
  case unOp u ty y =>
    simp only [Option.bind_eq_bind, Option.bind_eq_some_iff, Option.some.injEq] at hx
    obtain ⟨oy, hy, rfl⟩ := hx
    exact op_un (Sat P) ow hC hn ho hy hk
  case convert s d y =>
    split at hx
    · rename_i hs hd
      simp only [Option.map_eq_some_iff] at hx
      obtain ⟨oy, hy, rfl⟩ := hx
      exact op_cv (Sat P) ow hC hn ho hs hd hy hk
    · rename_i e hs hd
      split at hx
      · rename_i he
        simp only [Option.map_eq_some_iff] at hx
        obtain ⟨oy, hy, rfl⟩ := hx
        exact op_sb (Sat P) ow hC hn ho hs he hd hy hk
      · cases hx
    · cases hx
  case slice ty y lo hi m =>
    simp only [Option.bind_eq_bind] at hx
    split at hx
    · rename_i e hu
      split at hx
      · cases hx
      · rename_i hc
        simp only [Option.bind_eq_some_iff, Option.some.injEq] at hx
        obtain ⟨oy, hy, olo, hlo, ohi, hhi, om, hm, rfl⟩ := hx
        exact op_s3 (Sat P) ow hC hn ho hu hc hy (opt_o hlo) (opt_o hhi) (opt_o hm) hk
    · rename_i hu
      split at hx
      · simp only [Option.bind_eq_some_iff, Option.some.injEq] at hx
        obtain ⟨oy, hy, olo, hlo, ohi, hhi, rfl⟩ := hx
        exact op_ss ow hC hn ho hu hy (opt_o hlo) (opt_o hhi) hk
      · cases hx
    · cases hx
  case nilCheck y =>
    simp only [Option.map_eq_some_iff] at hx
    obtain ⟨oy, hy, rfl⟩ := hx
    exact op_nc (Sat P) ow hC hn ho hy hk
  case index ty y i =>
    split at hx
    · rename_i hu
      simp only [Option.bind_eq_bind, Option.bind_eq_some_iff, Option.some.injEq] at hx
      obtain ⟨oy, hy, oz, hz, rfl⟩ := hx
      exact op_ix (Sat P) ow hC hn ho hu hy hz hk
    · rename_i m e hu
      split at hx
      · rename_i hc
        simp only [Bool.and_eq_true, decide_eq_true_eq] at hc
        simp only [Option.bind_eq_bind, Option.bind_eq_some_iff, Option.some.injEq] at hx
        obtain ⟨oy, hy, oz, hz, rfl⟩ := hx
        exact op_ai (Sat P) ow hC hn ho hu hc.1 hc.2 hy hz hk
      · cases hx
    · cases hx
  case extract y i =>
    simp only [Option.bind_eq_bind, Option.bind_eq_some_iff, Option.some.injEq] at hx
    obtain ⟨oy, hy, rfl⟩ := hx
    exact op_ex (Sat P) ow hC hn ho hy hk
  case makeInterface ty y =>
    split at hx
    · cases hx
    · rename_i u hni hu
      simp only [Option.bind_eq_bind, Option.bind_eq_some_iff] at hx
      obtain ⟨ag, _, hx⟩ := hx
      split at hx
      · rename_i hty
        simp only [Option.bind_eq_some_iff, Option.some.injEq] at hx
        obtain ⟨oy, hy, rfl⟩ := hx
        exact op_pu (Sat P) ow hC hn hy (pu_mi hC ho (fun ms h => by rw [hu] at h; cases h; exact hni ms rfl) hu hty hy) hk
      · cases hx
    · cases hx
  case typeAssert y xt ty ok =>
    split at hx
    · cases hx
    · rename_i u hni hu
      simp only [Option.bind_eq_bind, Option.bind_eq_some_iff] at hx
      obtain ⟨ag, _, hx⟩ := hx
      split at hx
      · rename_i hty
        simp only [Option.bind_eq_some_iff, Option.some.injEq] at hx
        obtain ⟨zv, hz, oy, hy, rfl⟩ := hx
        exact op_pu (Sat P) ow hC hn hy (pu_ta hC ho (fun ms h => by rw [hu] at h; cases h; exact hni ms rfl) hu hty hz hy) hk
      · cases hx
    · cases hx
  case field ty y f =>
    split at hx
    · rename_i fs hu
      simp only [Option.bind_eq_bind, Option.bind_eq_some_iff, Option.some.injEq] at hx
      obtain ⟨fd, hf, m, hl, oy, hy, rfl⟩ := hx
      exact op_pu (Sat P) ow hC hn hy (pu_fd hC ho hu hf hl hy) hk
    · cases hx
  case panic y =>
    simp only [Option.map_eq_some_iff] at hx
    obtain ⟨oy, hy, rfl⟩ := hx
    exact op_pn (Sat P) ow hC hp ho hy hk
  case makeSlice ty l c =>
    split at hx
    · rename_i e hu
      simp only [Option.bind_eq_bind, Option.bind_eq_some_iff] at hx
      obtain ⟨zs, hz, ds, hd, i, hi, hx⟩ := hx
      split at hx
      · cases hx
      · rename_i hc
        simp only [Option.bind_eq_some_iff, Option.some.injEq] at hx
        obtain ⟨ol, hl, oc, hoc, rfl⟩ := hx
        simp only [ne_eq, Bool.or_eq_true, decide_eq_true_eq, not_or, Decidable.not_not] at hc
        exact op_mk (Sat P) ow hC hn ho hu hz hd hi hc.1 hl hoc hk
    · cases hx
  case makeFunc fn first caps =>
    cases fn <;> simp only at hx <;> try (cases hx; done)
    rename_i f
    have key : ∀ (xs : List Operand) (oc : List O), args P xs [] = some oc → oc.length = xs.length ∧ ∀ (i : Nat) (x : O), oc[i]? = some x → ∃ y ty, xs[i]? = some y ∧ opd P ty y = some x := by
      intro xs
      induction xs with
      | nil => intro oc h; simp only [args] at h; cases h; simp
      | cons x xs ih =>
        intro oc h
        simp only [args, Option.bind_eq_bind, Option.bind_eq_some_iff] at h
        obtain ⟨y, hy, ys, hys, he⟩ := h
        cases he
        obtain ⟨g1, g2⟩ := ih ys hys
        refine ⟨by simp [g1], fun i z hz => ?_⟩
        cases i with
        | zero => simp at hz; subst hz; exact ⟨x, 0, rfl, hy⟩
        | succ i => simpa using g2 i z (by simpa using hz)
    split at hx
    · rename_i hf
      split at hx
      · rename_i hfirst
        rw [Option.map_eq_some_iff] at hx
        obtain ⟨oc, hoc, rfl⟩ := hx
        simp only [opx, fl_eq] at hk
        obtain ⟨g1, g2⟩ := key _ _ hoc
        exact op_mf hC hn ho hf (.inl ⟨rfl, Array.eq_empty_of_size_eq_zero hfirst, rfl⟩) ⟨by simpa using g1, fun i x hi => by simpa using g2 i x hi⟩ hk
      · split at hx
        · rename_i hcap
          rw [Option.map_eq_some_iff] at hx
          obtain ⟨oc, hoc, rfl⟩ := hx
          simp only [opx, fl_eq] at hk
          obtain ⟨g1, g2⟩ := key _ _ hoc
          exact op_mf hC hn ho hf (.inr ⟨rfl, Array.eq_empty_of_size_eq_zero hcap, rfl⟩) ⟨by simpa using g1, fun i x hi => by simpa using g2 i x hi⟩ hk
        · cases hx
    · cases hx
  case call c =>
    obtain ⟨callee, as, ts⟩ := c
    cases callee with
    | value f =>
      cases f <;> simp only at hx
      case func f =>
        split at hx
        · rename_i hlt
          simp only [Option.map_eq_some_iff] at hx
          obtain ⟨oa, ha, rfl⟩ := hx
          exact op_cf ow hC hn hp hlt ho rfl ha hk
        · cases hx
      all_goals
        simp only [Option.bind_eq_bind, Option.bind_eq_some_iff, Option.some.injEq] at hx
        obtain ⟨oy, hy, oa, ha, rfl⟩ := hx
        exact op_cc ow hC hn hp ho rfl hy ha hk
    | invoke r m => cases hx
    | builtin b =>
      cases b <;> simp only at hx <;> try (cases hx; done)
      case len =>
        split at hx
        · rename_i y u h1 h2
          have e1 := arr_of h1
          have e2 := arr_of h2
          subst e1 e2
          split at hx
          · simp only [Option.map_eq_some_iff] at hx
            obtain ⟨oy, hy, rfl⟩ := hx
            exact op_ln (Sat P) ow hC hn ho ‹_› hy hk
          · simp only [Option.map_eq_some_iff] at hx
            obtain ⟨oy, hy, rfl⟩ := hx
            exact op_lm (Sat P) ow hC hn ho ‹_› hy hk
          · simp only [Option.map_eq_some_iff] at hx
            obtain ⟨oy, hy, rfl⟩ := hx
            exact op_ls (Sat P) ow hC hn ho ‹_› hy hk
          · cases hx
        · cases hx
      case delete =>
        split at hx
        · rename_i y z u v h1 h2
          have e1 := arr_of h1
          have e2 := arr_of h2
          subst e1 e2
          split at hx
          · rename_i kt e hu
            simp only [Option.bind_eq_bind, Option.bind_eq_some_iff, Option.some.injEq] at hx
            obtain ⟨oy, hy, oz, hz, ks, hks, rfl⟩ := hx
            exact op_md (Sat P) ow hC hn ho hu hy hz hks hk
          · cases hx
        · cases hx
      case clear =>
        split at hx
        · rename_i y u h1 h2
          have e1 := arr_of h1
          have e2 := arr_of h2
          subst e1 e2
          split at hx
          · rename_i e hu
            simp only [Option.bind_eq_bind, Option.bind_eq_some_iff] at hx
            obtain ⟨zs, hz, ds, hd, hx⟩ := hx
            split at hx
            · cases hx
            · rename_i hc
              simp only [Option.bind_eq_some_iff, Option.some.injEq] at hx
              obtain ⟨oy, hy, rfl⟩ := hx
              simp only [ne_eq, Bool.or_eq_true, decide_eq_true_eq, not_or, Decidable.not_not] at hc
              exact op_clr (Sat P) ow hC hn ho hu hz hd hc.1 hc.2 hy hk
          · cases hx
        · cases hx
      case min =>
        split at hx
        · rename_i y z h1
          have e1 := arr_of h1
          subst e1
          simp only [Option.bind_eq_bind, Option.bind_eq_some_iff, Option.some.injEq] at hx
          obtain ⟨oy, hy, oz, hz, rfl⟩ := hx
          exact op_mn (Sat P) ow hC hn ho hy hz hk
        · cases hx
      case max =>
        split at hx
        · rename_i y z h1
          have e1 := arr_of h1
          subst e1
          simp only [Option.bind_eq_bind, Option.bind_eq_some_iff, Option.some.injEq] at hx
          obtain ⟨oy, hy, oz, hz, rfl⟩ := hx
          exact op_mx (Sat P) ow hC hn ho hy hz hk
        · cases hx
      case append =>
        split at hx
        · rename_i y z u v h1 h2
          have e1 := arr_of h1
          have e2 := arr_of h2
          subst e1 e2
          split at hx
          · rename_i e _ hu hv
            simp only [Option.bind_eq_bind, Option.bind_eq_some_iff] at hx
            obtain ⟨zs, hz, hx⟩ := hx
            split at hx
            · cases hx
            · rename_i hc
              simp only [Option.bind_eq_some_iff, Option.some.injEq, Option.map_eq_some_iff] at hx
              obtain ⟨oy, hy, oz, hoz, by_, ⟨i, hi, rfl⟩, rfl⟩ := hx
              have hci : P.cellsOf e = i.size := by simp [Program.cellsOf, hi]
              simp only [ne_eq, Bool.or_eq_true, decide_eq_true_eq, not_or, Decidable.not_not] at hc
              rw [hci] at hk
              exact op_ap (Sat P) ow hC hn ho hu hv hi hz (by rw [← hci]; exact hc.1) hy hoz hk
          · cases hx
        · cases hx
end
end Go.Vx
