/- PureFits' own walk. Conditions: none. -/
import Derived.Test.YtoibcfioicdlhaaGreatDoorQBH
import Derived.Test.YtoibcfioicdlhaaGreatDoorQBI
namespace Go.Proofs.YtoibcfioicdlhaaGreatDoor
open Go.Vx
set_option maxRecDepth 100000
theorem begin_at {im : Im} {S : Nat → Sn} (E : Env im S) {n : Nat} {g : Fn} (hg : im.fs[n]? = some g) (v : Va) {ma : Int} (hma : 0 ≤ ma ∧ ma ≤ 255) : Inv S (begC n g (fewV v) ma) := by
  have hl := (List.getElem?_eq_some_iff.1 hg).1
  have h3 := E.hI.2.1
  have hgg := E.hI.2.2 g (List.mem_of_getElem? hg)
  have e7 : (min (max g.vars 0) 16).toNat = 7 := by rw [hgg.2.1]; rfl
  refine ⟨[], (⟨n, 0, 0, ma, [fewV v] ++ zeros (min (max g.vars 0) 16).toNat⟩ : Fr), [], [], 0, 0, 0, rfl, rfl, .nil, ⟨⟨by show (0 : Int) ≤ (n : Int); omega, by show (n : Int) < 3; omega⟩, rfl, Int.le_refl 0, (E.dp _ _ hg).2.st, ?_, hma, fun w hw => ?_, rfl, fun j u hu => by cases hu⟩, rfl, by show 1 ≤ 16; decide, fun w hw => by cases hw⟩
  · rw [e7]; rfl
  · rcases List.mem_append.1 hw with hw | hw
    · rw [List.mem_singleton.1 hw]
      exact ⟨show (v.ls.take 6).length ≤ 140737488355328 by rw [List.length_take]; omega, show (v.li.take 6).length ≤ 140737488355328 by rw [List.length_take]; omega⟩
    · rw [List.eq_of_mem_replicate hw]; exact smL_num 0
theorem st_lim {im : Im} {S : Nat → Sn} (E : Env im S) {c : Co} {frs : List Fr} {F : Fr} {ts us : List Tr} {b d t : Int} (h : At S c frs F ts us b d t) : c.st.length < 2000 ∧ 0 ≤ b ∧ b < 2000 := by
  have h1 := h.lo.bnd E
  have h2 := h.tp.b32 E
  have h4 := h.hh
  have h5 := h.l16
  have h6 : c.fr.length = frs.length + 1 := by rw [h.fr]; simp
  omega
set_option maxHeartbeats 4000000 in
theorem fits (L : List (List Int)) (hL : ∀ l ∈ L, byts l) (v : Va) (ma : Int) (hma : 0 ≤ ma ∧ ma ≤ 255) (w : Int) (hw : 0 ≤ w ∧ w ≤ 255) : SatP Tryz.prog 9 [.d (.sl 1 (L.map fun l => [D.sl 1 (rowsU l)])), agV v, .d (.int .u8 ma), .d (.int .u8 w)] (.d (.bool true)) := by
  obtain ⟨n, en, hn⟩ := modN hw 3 (by decide)
  refine s9 (keep := false) rfl ?_
  repeat' ((conv => whnf); first | exact zf | refine zg ?_ | intro _ | refine And.intro rfl ?_ | refine ⟨_, examples10, ?_⟩ | refine (examples10).use ?_ | refine za ?_ | refine zl ?_ | fail)
  refine made20 L hL fun im hI => ?_
  obtain ⟨S, E⟩ := env_of hI
  have hch := check17 im (okIm_good hI) 300 _ (check_good hI)
  have hlt : n < im.fs.length := by rw [hI.2.1]; exact hn
  obtain ⟨g, hg⟩ : ∃ g, im.fs[n]? = some g := ⟨_, List.getElem?_eq_getElem hlt⟩
  have hb := begun12 im n g (fewV v) ma (by omega) hg
  replace en : w.tmod 3 = (n : Int) := en
  rw [← en] at hb
  repeat' ((conv => whnf); first | exact zf | refine zg ?_ | intro _ | refine And.intro rfl ?_ | refine ⟨_, hch, ?_⟩ | refine (hch).use ?_ | refine (And.intro (by decide) ?_) | refine (.inl ⟨by rw [en]; unfold inR; omega, ?_⟩) | refine ⟨_, few14 v, ?_⟩ | refine (few14 v).use ?_ | refine ⟨_, hb, ?_⟩ | refine (hb).use ?_ | refine za ?_ | refine zl ?_ | fail)
  conv => whnf
  refine loop_use2 [(9, .d (.bool true)), (10, .p 1 0), (14, .p 2 0)] (fun q : Nat × Co => q.1 ≤ 200 ∧ Inv S q.2) (fun q => [(15, .d (.int .i64 q.1))]) (fun q => [.no, .cells [.d (.sl 5 (im.cs.map encV)), .d (.sl 3 (im.fs.map encFn))], .cells [.d (.sl 5 (q.2.fr.map encF)), .d (.sl 5 (q.2.st.map encV)), .d (.sl 3 (q.2.tr.map encT))]]) (fun q => 200 - q.1) (0, begC (w.tmod 3) g (fewV v) ma) ⟨Nat.zero_le _, by rw [en]; exact begin_at E hg v hma⟩ ?_ ?_ ?_ (fun q ⟨hk, hinv⟩ => ?_)
  · exact (by repeat' (first | exact trivial | exact rfl | exact Or.inl rfl | refine And.intro ?_ ?_ | refine Or.inr ?_))
  · exact (by repeat' (first | exact trivial | exact rfl | exact Or.inl rfl | refine And.intro ?_ ?_ | refine Or.inr ?_))
  · exact rfl
  obtain ⟨k, c⟩ := q
  dsimp only at hk hinv
  obtain ⟨frs, F, ts, us, b, d, t, h⟩ := hinv
  obtain ⟨fn, x, o, i, hn⟩ := h.nx E
  have hdp := E.dp _ _ hn.hfn
  have hfu : ((F.fu.toNat : Nat) : Int) = F.fu := by have := h.tp.fu; omega
  have hdep := hdp.1
  rw [hfu] at hdep
  have hlim := st_lim E h
  have hok := h.ok E
  have hfit := fit21 im c hok.hI (by omega)
  rw [fitR_some hn.hfit] at hfit
  have hstep := step13x (fr := 0) (tr := 0) hok
  have hsx : stepX im c 0 0 = opX im c 0 0 o F := by simp only [stepX, hn.hfit, h.last]
  rw [hsx] at hstep
  have hres := h.step E hn
  have hfl : (c.fr.map encF).length = frs.length + 1 := by rw [List.length_map, h.fr]; simp
  have hf16 : frs.length + 1 ≤ 16 := by have := h.l16; rw [h.fr] at this; simpa using this
  have hrow : (c.fr.map encF)[(((c.fr.map encF).length : Int) - 1).toNat]? = some (encF F) := by
    have e : (((c.fr.map encF).length : Int) - 1).toNat = frs.length := by rw [hfl]; omega
    rw [e, h.fr]
    simp
  repeat' ((conv => whnf); first | exact zf | refine zg ?_ | intro _ | refine And.intro rfl ?_ | refine za ?_ | refine zl ?_ | fail)
  refine sp_intro (fun hlt => ?_) (fun hge => ?_)
  · have hin1 : inR .i64 (((c.fr.map encF).length : Int) - 1) := by unfold inR; omega
    have h0n : 0 ≤ ((c.fr.map encF).length : Int) - 1 := by omega
    have hneg : decide (((c.fr.map encF).length : Int) - 1 < 0) = false := by simp only [decide_eq_false_iff_not]; omega
    have hxl : x < fn.code.length := (List.getElem?_eq_some_iff.1 hn.hop).1
    have h0p : 0 ≤ F.pc := by rw [hn.pc]; omega
    have hdl : (rowsI (depthsV fn.code.length (S F.fu.toNat))).length = fn.code.length := by simp [rowsI, depthsV]
    have hpcl : decide (F.pc ≥ ((rowsI (depthsV fn.code.length (S F.fu.toNat))).length : Int)) = false := by rw [hdl, hn.pc]; simp; omega
    have hdx : (rowsI (depthsV fn.code.length (S F.fu.toNat)))[F.pc.toNat]? = some [.int .i64 d] := by
      have hm := h.tp.pc
      rw [hn.pc] at hm
      have := depths_get hdp.2.nd hm hxl
      rw [hn.pc]
      simp [rowsI, this]
    have hsl : ((c.st.map encV).length : Int) - F.ba = d := by rw [List.length_map, h.tp.ba]; have := h.hh; omega
    have hin2 : inR .i64 (((c.st.map encV).length : Int) - F.ba) := by rw [hsl]; have := h.tp.b32 E; unfold inR; omega
    have hdd : ((((c.st.map encV).length : Int) - F.ba) != d) = false := by rw [hsl]; simp
    have hin3 : inR .i64 ((k : Int) + 1) := by unfold inR; omega
    have hlt3 : k + 1 ≤ 200 := by simp at hlt; omega
    repeat' ((conv => whnf); first | exact zf | refine zg ?_ | intro _ | refine And.intro rfl ?_ | refine ⟨_, hfit, ?_⟩ | refine (hfit).use ?_ | refine (.inl ⟨hin1, ?_⟩) | refine (sp_f hneg ?_) | refine ⟨_, ⟨h0n, hrow, rfl⟩, ?_⟩ | refine ⟨_, hdep, ?_⟩ | refine (hdep).use ?_ | refine za ?_ | refine zl ?_ | fail)
    repeat' ((conv => whnf); first | exact zf | refine zg ?_ | intro _ | refine And.intro rfl ?_ | refine ⟨_, hfit, ?_⟩ | refine (hfit).use ?_ | refine (.inl ⟨hin1, ?_⟩) | refine (sp_f hneg ?_) | refine ⟨_, ⟨h0n, hrow, rfl⟩, ?_⟩ | refine ⟨_, hdep, ?_⟩ | refine (hdep).use ?_ | refine (sp_f hpcl ?_) | refine (.inl ⟨hin2, ?_⟩) | refine ⟨_, ⟨h0p, hdx, rfl⟩, ?_⟩ | refine (sp_f hdd ?_) | refine za ?_ | refine zl ?_ | fail)
    repeat' ((conv => whnf); first | exact zf | refine zg ?_ | intro _ | refine And.intro rfl ?_ | refine (.inl ⟨hin1, ?_⟩) | refine ⟨_, ⟨h0n, hrow, rfl⟩, ?_⟩ | refine (sp_f hpcl ?_) | refine (.inl ⟨hin2, ?_⟩) | refine ⟨_, ⟨h0p, hdx, rfl⟩, ?_⟩ | refine (sp_f hdd ?_) | refine za ?_ | refine zl ?_ | fail)
    generalize opX im c 0 0 o F = r at hstep hres
    obtain ⟨c', uk, uv, uo⟩ := r
    have hst : SatP Tryz.prog 13 [agI im, agC c, .d (.int .i64 0), .d (.int .i64 0)] (.tu [agC c', agOu ⟨uk, uv, uo⟩]) := hstep
    rcases hres with ⟨h0, hi⟩ | h1 | h2 | ⟨hr, h17, hi⟩
    · obtain rfl : uk = 0 := h0
      repeat' ((conv => whnf); first | exact zf | refine zg ?_ | intro _ | refine And.intro rfl ?_ | refine ⟨_, hst, ?_⟩ | refine (hst).use ?_ | refine (.inl ⟨hin3, ?_⟩) | refine za ?_ | refine zl ?_ | fail)
      conv => whnf
      refine ⟨(k + 1, c'), ⟨hlt3, hi⟩, Nat.sub_lt_sub_left hlt3 (Nat.lt_succ_self k), (by repeat' (first | exact trivial | exact rfl | exact Or.inl rfl | refine And.intro ?_ ?_ | refine Or.inr ?_)), (by repeat' (first | exact trivial | exact rfl | exact Or.inl rfl | refine And.intro ?_ ?_ | refine Or.inr ?_)), rfl⟩
    · obtain rfl : uk = 1 := h1
      repeat' ((conv => whnf); first | exact zf | refine zg ?_ | intro _ | refine And.intro rfl ?_ | refine ⟨_, hst, ?_⟩ | refine (hst).use ?_ | refine za ?_ | refine zl ?_ | fail)
    · obtain rfl : uk = 2 := h2
      repeat' ((conv => whnf); first | exact zf | refine zg ?_ | intro _ | refine And.intro rfl ?_ | refine ⟨_, hst, ?_⟩ | refine (hst).use ?_ | refine za ?_ | refine zl ?_ | fail)
    · cases hr
      have hpo : popOk c i.po = true := by
        obtain ⟨_, _, _, _, _, _, _, _, _, hp⟩ := fit_some hn.hfit
        rwa [takes_po hn.hin h17] at hp
      have hskip := skip22 c o i F hn.hin h.last hpo (by omega) h.l16 ⟨h0p, by rw [hn.pc]; have := hdp.2.ln; omega⟩
      repeat' ((conv => whnf); first | exact zf | refine zg ?_ | intro _ | refine And.intro rfl ?_ | refine ⟨_, hst, ?_⟩ | refine (hst).use ?_ | refine ⟨_, hskip, ?_⟩ | refine (hskip).use ?_ | refine (.inl ⟨hin3, ?_⟩) | refine za ?_ | refine zl ?_ | fail)
      conv => whnf
      refine ⟨(k + 1, skipC c o i F), ⟨hlt3, hi⟩, Nat.sub_lt_sub_left hlt3 (Nat.lt_succ_self k), (by repeat' (first | exact trivial | exact rfl | exact Or.inl rfl | refine And.intro ?_ ?_ | refine Or.inr ?_)), (by repeat' (first | exact trivial | exact rfl | exact Or.inl rfl | refine And.intro ?_ ?_ | refine Or.inr ?_)), rfl⟩
  · skip
    repeat' ((conv => whnf); first | exact zf | refine zg ?_ | intro _ | refine And.intro rfl ?_ | refine za ?_ | refine zl ?_ | fail)
end Go.Proofs.YtoibcfioicdlhaaGreatDoor
