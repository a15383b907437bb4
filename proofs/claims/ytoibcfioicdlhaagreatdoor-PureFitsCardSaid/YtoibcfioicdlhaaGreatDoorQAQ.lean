/- Ranges over functions; code is walked. Conditions: none; lemmas on the definitions before. -/
import Derived.Test.YtoibcfioicdlhaaGreatDoorQAP
namespace Go.Vx
section
variable {P : Program} {E : Ent} {n : Nat} {G : Nat → Prop} {ρ : List Value} {t : T} {h : H} {a : Act} {w : World} (ow : Nat → Bool)
theorem Ok.self (hr : HR G w ρ h) {ds : List Deferred} {ms : List Nat} (hm : ∀ r ∈ ms, w.heap[r]? = some (.deferred (some [])) ∧ ¬ G r ∧ ¬ own ρ h r) : Ok ⟨w, G, ρ, h, ds, ms⟩ G w ρ h :=
  ⟨hr, fun _ h => h, fun _ h => .inl h, fun _ h => .inr h, fun _ _ _ => rfl, Nat.le_refl _, rfl, rfl, rfl, fun _ _ h _ => h, Nat.le_refl _, hm⟩
theorem round_ok {ca cb : Code} {xa xb : C} (hA : WK P ow n ca xa) (hB : WK P ow n cb xb) {T0 : T} (hC : Conc E n G ρ T0 h a w) {l : Nat} {rec : Loop} (hl : w.heap[l]? = some (.loop rec)) (hrec : rec.state = .ready)
    (hEl : E.w.heap.size ≤ l) (hEG : ¬ E.G l) (hst : (T0.all fun p => !(sl2 p.2)) = true) {ps : List Nat} {row : List D} (hps : ∀ p ∈ ps, p < n) (hrow : ∀ d ∈ row, rwd d) {KB : Ex → H → Prop} (hpan : ∀ v h, ¬ KB (.pan v) h)
    (hk : wx (Sat P) ow h.length xa (lys ps row T0) h fun e t h => match e with
      | .nrm => wx (Sat P) ow h.length xb t h fun e _ h => KB e h
      | _ => False) {R : Ending → World → Prop}
    (hR1 : ∀ (G' : Nat → Prop) (ρ' : List Value) (h' : H) (w' : World), Conc E n G' ρ' T0 h' a w' → w'.heap[l]? = some (.loop { rec with state := .ready, pending := none }) → Stay G w ρ G' w' ρ' → KB .nrm h' → R (.returned (.bool true)) w')
    (hR2 : ∀ (G' : Nat → Prop) (ρ' : List Value) (h' : H) (w' : World) (c : Code), Conc E n G' ρ' T0 h' a w' → w'.heap[l]? = some (.loop { rec with state := .done, pending := some c }) → ((c = .ret ∧ KB .ret h') ∨ ∃ j, c = .exit j ∧ KB (.ext j) h') → R (.returned (.bool false)) w') :
    ca.wpIn (Fw (some l)) 0 P (Exit.then (fun a₁ w₁ => ∃ w₂, (Instr.beginRound l).run P w₁ = .ok () w₂ ∧ cb.wpIn (Fw (some l)) 0 P (roundPost P l R) a₁ w₂) (fun _ _ _ => False))
      { tmps := (ps.zip (row.map encD)).foldl (fun t (p, v) => t.setIfInBounds p v) a.tmps, defers := [] } w := by
  have hr := hC.ok.hr
  have hrl : rcb w l := .inl ⟨_, hl⟩
  have hGl : ¬ G l := hC.ok.ng hrl hEG
  have hml : ∀ r ∈ E.ms, r ∈ E.ms ∧ r ≠ l := fun r hr => ⟨hr, fun e => by
    subst e
    have := (hC.ok.mks r hr).1
    rw [hl] at this
    cases this⟩
  have hC1 : Conc ⟨w, G, ρ, h, [], E.ms⟩ n G ρ (lys ps row T0) h { tmps := (ps.zip (row.map encD)).foldl (fun t (p, v) => t.setIfInBounds p v) a.tmps, defers := [] } w :=
    ⟨.self hr hC.ok.mks, rfl, (fold_size _ _).trans hC.sz, lys_ok ps row T0 a.tmps (fun p hp => by rw [hC.sz]; exact hps p hp) hrow hC.tm⟩
  refine wpIn_mono (hA (some l) 0 ⟨w, G, ρ, h, [], E.ms⟩ hr.len (fun l' e => by cases e; exact ⟨⟨_, hl⟩, hr.nrec hrl⟩) G ρ _ _ _ _ _ hC1 hk) ?_
  rintro e a1 w1 ⟨E1, ⟨l1, rfl, _, _⟩, _, G1, ρ1, t1, h1, hC2, hk2⟩
  cases e with
  | normal =>
    have hl1 : w1.heap[l]? = some (.loop rec) := (hC2.ok.frame l hrl.lt (hr.nrec hrl)).trans hl
    have hrl1 : rcb w1 l := .inl ⟨_, hl1⟩
    refine ⟨_, run_beginRound hl1 hrec, ?_⟩
    have hG1 : ¬ G1 l := hC2.ok.ng hrl1 hGl
    have hOa : Ok E G1 w1 ρ1 h1 := hC.ok.comp (fun r hr => by simp [hr]) hC2.ok
    have hOb : Ok E G1 (w1.putObj l (.loop { rec with state := .busy })) ρ1 h1 := hOa.putr hrl1 hEl hG1 hml _
    have hSa : Stay G w ρ G1 w1 ρ1 := hC2.ok.stay hr
    have hl2 : (w1.putObj l (.loop { rec with state := .busy })).heap[l]? = some (.loop { rec with state := .busy }) := World.putObj_heap_same hrl1.lt
    have hrl2 : rcb (w1.putObj l (.loop { rec with state := .busy })) l := .inl ⟨_, hl2⟩
    have hSb : Stay G w ρ G1 (w1.putObj l (.loop { rec with state := .busy })) ρ1 := hSa.trans (.put hG1 _)
    have hC3 : Conc ⟨w1.putObj l (.loop { rec with state := .busy }), G1, ρ1, h1, a1.defers, E.ms⟩ n G1 ρ1 t1 h1 a1 (w1.putObj l (.loop { rec with state := .busy })) :=
      ⟨.self hOb.hr hOb.mks, rfl, hC2.sz, fun i => rep_putr (hC2.tm i) hG1 _⟩
    generalize w1.putObj l (.loop { rec with state := .busy }) = w2 at *
    refine wpIn_mono (hB (some l) 0 ⟨w2, G1, ρ1, h1, a1.defers, E.ms⟩ hOb.hr.len (fun l' e => by cases e; exact ⟨⟨_, hl2⟩, hOb.hr.nrec hrl2⟩) G1 ρ1 _ _ _ _ _ hC3 hk2) ?_
    rintro e a2 w3 ⟨E2, ⟨l2, rfl, _, _⟩, _, G2, ρ2, t2, h2, hC4, hk4⟩
    have hl3 : w3.heap[l]? = some (.loop { rec with state := .busy }) := (hC4.ok.frame l hrl2.lt (hOb.hr.nrec hrl2)).trans hl2
    have hrl3 : rcb w3 l := .inl ⟨_, hl3⟩
    have hG2 : ¬ G2 l := hC4.ok.ng hrl3 hG1
    have hOc : Ok E G2 w3 ρ2 h2 := hOb.comp (fun r hr => by simp [hr]) hC4.ok
    have hSc : ∀ o, Stay G w ρ G2 (w3.putObj l o) ρ2 := fun o => (hSb.trans (hC4.ok.stay hOb.hr)).trans (.put hG2 _)
    have fin : ∀ o, Conc E n G2 ρ2 T0 h2 a (w3.putObj l o) := fun o => ⟨hOc.putr hrl3 hEl hG2 hml _, hC.df, hC.sz, fun i => (hSc o).rep (hC.tm i) (gs_memb hst i)⟩
    have hsame : ∀ o, (w3.putObj l o).heap[l]? = some o := fun o => World.putObj_heap_same hrl3.lt
    cases e with
    | normal => exact ⟨_, _, run_endRound none hl3, hR1 G2 ρ2 h2 _ (fin _) (hsame _) (hSc _) hk4⟩
    | ret => exact ⟨_, _, run_endRound (some .ret) hl3, hR2 G2 ρ2 h2 _ .ret (fin _) (hsame _) (.inl ⟨rfl, hk4⟩)⟩
    | exit j => exact ⟨_, _, run_endRound (some (.exit j)) hl3, hR2 G2 ρ2 h2 _ (.exit j) (fin _) (hsame _) (.inr ⟨j, rfl, hk4⟩)⟩
    | panic ch => obtain ⟨_, _, _, _, hk4⟩ := hk4; exact absurd hk4 (hpan _ _)
    | goto l => exact hk4.elim
    | outgrown => exact hk4.elim
  | panic ch => obtain ⟨_, _, _, _, hk2⟩ := hk2; exact hk2.elim
  | exit j => exact hk2.elim
  | ret => exact hk2.elim
  | goto l => exact hk2.elim
  | outgrown => exact hk2.elim
theorem enter_ok {r : Option Nat} (hrd : Rnd r E) {T0 : T} (hC : Conc E n G ρ T0 h a w) (fn : FuncId) (ps : Array Tmp) (ca cb : Code) :
    ∃ (l dd : Nat) (mark : List Deferred) (w1 : World) (rec : Loop) (E1 : Ent), (Instr.enterLoop fn a.tmps ps ca cb r).run P w = .ok (l, mark) w1 ∧ rec = { state := .ready, pending := none, fn, tmps := a.tmps, params := ps, assign := ca, body := cb, defers := dd } ∧
      w1.heap[l]? = some (.loop rec) ∧ w.heap.size ≤ l ∧ Grw w w1 ∧ MkOf E E1 ∧ Conc E1 n G ρ T0 h { a with defers := mark ++ a.defers } w1 := by
  cases r with
  | none =>
    have hg : ∀ rec, Grw w ((w.alloc (.deferred (some []))).alloc (.loop rec)) := fun rec => (Grw.alloc w _).trans (Grw.alloc _ _)
    refine ⟨w.heap.size + 1, w.heap.size, _, _, _, { E with ds := [w.heap.size].map mkD ++ E.ds, ms := [w.heap.size] ++ E.ms }, run_enterLoop_outer fn a.tmps ps ca cb, rfl, ?_, by omega, hg _, ⟨_, rfl, fun hn => ?_, fun r hr => ?_⟩, ?_⟩
    · have := World.alloc_heap_new (w.alloc (.deferred (some []))) (.loop { state := .ready, pending := none, fn, tmps := a.tmps, params := ps, assign := ca, body := cb, defers := w.heap.size })
      rwa [World.size_alloc] at this
    · refine List.nodup_cons.2 ⟨fun hm => ?_, hn⟩
      have := (Array.getElem?_eq_some_iff.1 (hC.ok.mks _ hm).1).1
      omega
    · simp at hr; subst hr; exact hC.ok.size
    · have h1 := hC.grow (G' := G) (hg { state := .ready, pending := none, fn, tmps := a.tmps, params := ps, assign := ca, body := cb, defers := w.heap.size }) (fun _ h => h) (fun _ h => .inl h)
      refine ⟨⟨h1.ok.hr, h1.ok.gm, h1.ok.go, h1.ok.oo, h1.ok.frame, h1.ok.size, h1.ok.os, h1.ok.tape, h1.ok.out, h1.ok.hand, h1.ok.hl, fun r hr => ?_⟩, ?_, h1.sz, h1.tm⟩
      · rcases List.mem_append.1 hr with hr | hr
        · simp at hr; subst hr
          refine ⟨?_, fun hG => ?_, fun ho => ?_⟩
          · exact ((Grw.alloc _ _).old w.heap.size (by simp)).trans (World.alloc_heap_new w _)
          · have := hC.ok.hr.gl _ hG; omega
          · have := hC.ok.hr.ownlt ho; omega
        · exact h1.ok.mks r hr
      · simp [hC.df, mkD]
  | some l0 =>
    obtain ⟨⟨r0, h0⟩, h2⟩ := hrd l0 rfl
    have hl0 : w.heap[l0]? = some (.loop r0) := (hC.ok.frame l0 (Array.getElem?_eq_some_iff.1 h0).1 h2).trans h0
    refine ⟨w.heap.size, r0.defers, [], _, _, E, run_enterLoop_inner hl0 fn a.tmps ps ca cb, rfl, World.alloc_heap_new w _, Nat.le_refl _, Grw.alloc w _, .refl E, ?_⟩
    exact hC.grow (Grw.alloc w _) (fun _ h => h) (fun _ h => .inl h)
theorem callOk_lt {f : Nat} (h : callOk P f = true) : f < P.funcs.size := by
  unfold callOk at h
  split at h
  · rename_i fn hf
    exact (Array.getElem?_eq_some_iff.1 hf).1
  · cases h
theorem rf_ok {r : Option Nat} {N : Nat} (hE : E.ρ.length = E.h.length) (hrd : Rnd r E) {ca cb : Code} {xa xb : C} (hA : WK P ow n ca xa) (hB : WK P ow n cb xb) {g : Operand} {og : O} (hg : opd P 0 g = some og) {ps : Array Tmp} (hps : ∀ p ∈ ps.toList, p < n)
    (hP : P.funcs.size ≤ 5000000) {b : Bool} (hb : b = false) {K : Ex → T → H → Prop} (hC : Conc E n G ρ t h a w) (hk : wx (Sat P) ow E.h.length (.rf og ps.toList xa xb) t h K) : (Code.rangeFunc g ps ca cb).wpIn (Fw r) N P (QM b E n K) a w := by
  subst hb
  rw [wx_rf] at hk
  unfold rfx at hk
  obtain ⟨f, caps, ids, T0, A, I, Hs, x0, n1, z, xs, ⟨hgv, hf, hchk, hcs, hpl⟩, hS, ⟨hz, hxs⟩, ⟨hs1, ⟨hi0, hs2⟩, hs3⟩, hH, hRd, hD⟩ := hk
  have hf := (Nat.blt_eq ..).mp hf
  have hz := nbq hz
  obtain ⟨z', hI⟩ : ∃ z' : Nat, IterP P f (caps.map (rnc (pos ids))) (ids.map fun i => rnB (pos ids) ((get? h i).getD .no)) xs := by
    rcases hS with h1 | ⟨_, z', xs', h1, h2⟩
    · have := callOk_lt h1.ok; omega
    · have e : xs' = xs := by
        have := h2.1
        simp only [Out.ret.injEq, V.d.injEq, D.sl.injEq] at this
        exact this.2
      rw [Nat.add_sub_cancel_left, e] at h1
      exact ⟨z', h1⟩
  obtain ⟨ρ0, hρ0, hC0⟩ := hC.less hE hs1 hs2 (hH x0).2.1
  simp only [chk, Bool.and_eq_true, List.all_eq_true] at hchk
  obtain ⟨⟨c1, c2⟩, c3⟩ := hchk
  have hgetH : ∀ (i : A), ∀ j ∈ ids, get? (Hs i) j = get? h j := fun i j hj => List.map_inj_left.1 (hH i).2.2 j hj
  have hcell : ∀ j ∈ ids, ∃ cs, h[j]? = some (.cells cs) ∧ (cs.all fun x => !(sl0 x)) = true := fun j hj => by
    have := List.all_eq_true.1 hpl j hj
    rw [get?_eq] at this
    cases hc : h[j]? with
    | none => rw [hc] at this; cases this
    | some x =>
      rw [hc] at this
      cases x <;> first | exact ⟨_, rfl, this⟩ | cases this
  have hid : ∀ j ∈ ids, j < n1 := fun j hj => by
    obtain ⟨cs, h1, _⟩ := hcell j hj
    have := hgetH x0 j hj
    rw [get?_eq, get?_eq, h1] at this
    rw [← (hH x0).1]
    exact (List.getElem?_eq_some_iff.1 this).1
  have hρ0' : ∀ j ∈ ids, ρ0[j]? = ρ[j]? := fun j hj => by rw [hρ0, List.getElem?_take, (hH x0).1, if_pos (hid j hj)]
  have hnsl : ∀ j ∈ ids, ∃ u, ρ0[j]? = some u ∧ isSl u = false := fun j hj => by
    obtain ⟨cs, h1, _⟩ := hcell j hj
    have hjl := hid j hj
    have hl0 : ρ0.length = n1 := by rw [hC0.ok.hr.len, (hH x0).1]
    refine ⟨ρ0[j], List.getElem?_eq_getElem (by omega), ?_⟩
    have hx : (Hs x0)[j]? = some (.cells cs) := by rw [← get?_eq, hgetH x0 j hj, get?_eq, h1]
    obtain ⟨bb, arr, ty, e, _⟩ := hC0.ok.hr.rep j _ _ (List.getElem?_eq_getElem (by omega)) hx
    rw [e]; rfl
  have hv := opd_ok hC hg
  rw [hgv] at hv
  obtain ⟨cs, hfc, hcl, hcr⟩ : ∃ cs : Array Value, fcv f (a.eval g) cs ∧ cs.size = caps.length ∧ ∀ (i : Nat) (x : V), caps[i]? = some x → RepK G w ρ (cs.getD i undef) x := by
    generalize a.eval g = v at hv
    cases hv with
    | o h => cases h with
      | c h => cases h with
        | k h => cases h
        | fc _ _ cs _ g1 g2 g3 => exact ⟨cs, g1, g2, g3⟩
  have hfv := fcv_fn hfc hf
  have hmem : ∀ (i : Nat) (x : V), caps[i]? = some x → ∀ j ∈ idc x, j ∈ ids := fun i x hx j hj => has_iff.1 (c3 j (List.mem_flatMap.2 ⟨x, List.mem_of_getElem? hx, hj⟩))
  have hcr0 : ∀ (i : Nat) (x : V), caps[i]? = some x → RepK G w ρ0 (cs.getD i undef) x := fun i x hx => (hcr i x hx).mono (fun _ h => h) (fun _ _ => rfl) (fun j hj => hρ0' j (hmem i x hx j hj))
  have hcsl : ∀ (i : Nat) (x : V), caps[i]? = some x → slc x = false := fun i x hx => by
    have := List.all_eq_true.1 hcs x (List.mem_of_getElem? hx)
    simpa using this
  refine wpIn_rangeFunc fun fn _ => ?_
  obtain ⟨l, dd, mark, w1, rec, E1, hent, hrec, hl, hlw, hgr, hM, hC1⟩ := enter_ok (P := P) hrd hC0 fn ps ca cb
  refine ⟨l, mark, w1, { target := .fn (.func f) cs, args := #[.func (.yield l) #[] #[]] }, w1, f, #[.func (.yield l) #[] #[]] ++ cs, w1, hent, ?_, fun _ _ => trivial, ?_, Fw.depth _ _, ?_⟩
  · simp only [resolve, hfv]
    simp [go_sem]
  · have := callFunc_ok (P := P) (w := w1) (as := #[.func (.yield l) #[] #[]] ++ cs) hI.ok
    simp [invoke, go_sem, this]
  have hSt0 : Stay G w ρ0 G w1 ρ0 := ⟨fun b hb => ⟨hb, hgr.old b (hC0.ok.hr.gl b hb)⟩, fun _ _ h _ => h⟩
  have hE1w : E1.w = E.w := hM.ew
  have hEl : E1.w.heap.size ≤ l := by rw [hE1w]; exact Nat.le_trans hC.ok.size hlw
  have hEG : ¬ E1.G l := by
    rw [hM.eG]
    intro h1
    have := hC.ok.hr.gl l (hC.ok.gm l h1)
    omega
  generalize ha' : ({ a with defers := mark ++ a.defers } : Act) = a' at *
  have ha't : a'.tmps = a.tmps := by rw [← ha']
  have hrunI := hI.run (ids.map fun j => (ρ0[j]?).getD undef) cs.toList l
    (fun i W => ∃ (x : A) (G' : Nat → Prop) (ρ' : List Value), I i x ∧ Conc E1 n G' ρ' T0 (Hs x) a' W ∧ Stay G w1 ρ0 G' W ρ' ∧ W.heap[l]? = some (.loop rec))
    (fun W => ∃ (c : Code) (G' : Nat → Prop) (ρ' : List Value) (h' : H), Conc E1 n G' ρ' T0 h' a' W ∧ W.heap[l]? = some (.loop { rec with state := .done, pending := some c }) ∧ ((c = .ret ∧ K .ret T0 h') ∨ ∃ j, c = .exit j ∧ K (.ext j) T0 h'))
    (by simpa using hcl) ?_ ?_ ?_ ?_ w1 ⟨x0, G, ρ0, hi0, hC1, .refl, hl⟩
  · have hrun2 : CallsIn (Fw r) (N - 1) P f (#[.func (.yield l) #[] #[]] ++ cs) w1 _ := calls_in (in_calls (by rw [Array.toArray_toList] at hrunI; exact hrunI))
    refine hrun2.mono ?_
    rintro e W ⟨⟨v, rfl⟩, ⟨x, G', ρ', hi, hc, hs, hlr⟩ | ⟨c, G', ρ', h', hc, hlr, hj⟩⟩
    · have hrc : rcb W l := .inl ⟨_, hlr⟩
      have hng := hc.ok.ng hrc hEG
      have hml : ∀ r ∈ E1.ms, r ∈ E1.ms ∧ r ≠ l := fun r hr => ⟨hr, fun e => by
        subst e
        have := (hc.ok.mks r hr).1
        rw [hlr] at this
        cases this⟩
      have hend := run_endLoop (P := P) hlr (by rw [hrec]; simp)
      have hpe : rec.pending = none := by rw [hrec]
      rw [hpe] at hend
      refine ⟨none, _, hend, ?_⟩
      · exact ⟨E1, hM, nofun, G', ρ', T0, Hs x, ⟨hc.ok.putr hrc hEl hng hml _, hc.df, hc.sz, fun i => rep_putr (hc.tm i) hng _⟩, hD x hi⟩
    · have hrc : rcb W l := .inl ⟨_, hlr⟩
      have hng := hc.ok.ng hrc hEG
      have hml : ∀ r ∈ E1.ms, r ∈ E1.ms ∧ r ≠ l := fun r hr => ⟨hr, fun e => by
        subst e
        have := (hc.ok.mks r hr).1
        rw [hlr] at this
        cases this⟩
      have hc2 : ∀ o, Conc E1 n G' ρ' T0 h' a' (W.putObj l o) := fun o => ⟨hc.ok.putr hrc hEl hng hml _, hc.df, hc.sz, fun i => rep_putr (hc.tm i) hng _⟩
      refine ⟨some c, _, run_endLoop (P := P) hlr (by simp), ?_⟩
      rcases hj with ⟨rfl, hj⟩ | ⟨j, rfl, hj⟩
      · exact wpIn_ret ⟨E1, hM, nofun, G', ρ', T0, h', hc2 _, hj⟩
      · exact wpIn_exit ⟨E1, hM, nofun, G', ρ', T0, h', hc2 _, hj⟩
  · rintro i W W' ⟨x, G', ρ', hi, hc, hs, hlr⟩ hgw
    exact ⟨x, G', ρ', hi, hc.grow hgw (fun _ h => h) (fun _ h => .inl h), hs.trans ⟨fun b hb => ⟨hb, hgw.old b (hc.ok.hr.gl b hb)⟩, fun _ _ h _ => h⟩, (hgw.old l (Array.getElem?_eq_some_iff.1 hlr).1).trans hlr⟩
  · rintro W W' ⟨c, G', ρ', h', hc, hlr, hj⟩ hgw
    exact ⟨c, G', ρ', h', hc.grow hgw (fun _ h => h) (fun _ h => .inl h), (hgw.old l (Array.getElem?_eq_some_iff.1 hlr).1).trans hlr, hj⟩
  · rintro i W ⟨x, G', ρ', _, hc, hs, hlr⟩
    have hρj : ∀ j ∈ ids, ρ'[j]? = ρ0[j]? := fun j hj => by
      obtain ⟨u, h1, h2⟩ := hnsl j hj
      rw [h1]
      exact hs.2 j u h1 h2
    have hlen : ∀ j ∈ ids, j < (Hs x).length := fun j hj => by rw [(hH x).1]; exact hid j hj
    have hcl2 : ∀ j ∈ ids, ∀ y, (Hs x)[j]? = some y → ∀ k ∈ idB y, k ∈ ids := fun j hj y hx k hk => by
      have := (c2 j hj).2 k
      rw [← hgetH x j hj, get?_eq, hx] at this
      exact has_iff.1 (this hk)
    obtain ⟨p1, _⟩ := hc.ok.hr.part (nodup_of c1) hlen hcl2
    refine ⟨G', ?_, fun j y hx => ?_⟩
    · have e1 : (ids.map fun j => (ρ'[j]?).getD undef) = ids.map fun j => (ρ0[j]?).getD undef := List.map_congr_left fun j hj => by rw [hρj j hj]
      have e2 : (ids.map fun j => rnB (pos ids) ((get? (Hs x) j).getD .no)) = ids.map fun j => rnB (pos ids) ((get? h j).getD .no) := List.map_congr_left fun j hj => by rw [hgetH x j hj]
      rw [e1, e2] at p1
      exact p1
    · rw [List.getElem?_map, Option.map_eq_some_iff] at hx
      obtain ⟨y0, hx0, rfl⟩ := hx
      have h1 := (hSt0.trans hs).repk (hcr0 j y0 hx0) (hcsl j y0 hx0)
      have h2 : cs.toList.getD j undef = cs.getD j undef := by simp [List.getD_eq_getElem?_getD, Array.getD_eq_getD_getElem?]
      rw [h2]
      have h3 := h1.ren (ρ' := ids.map fun j => (ρ0[j]?).getD undef) (f := pos ids) (fun k hk => by
        have hkm := hmem j y0 hx0 k hk
        obtain ⟨u, g1, _⟩ := hnsl k hkm
        rw [List.getElem?_map, pos_get hkm, Option.map_some, hρj k hkm, g1]
        rfl)
      exact .o (.c (.k h3))
  · rintro i row W hrow ⟨x, G', ρ', hi, hc, hs, hlr⟩
    have hrow2 := hxs row (List.mem_of_getElem? hrow)
    have hy := run_yield (P := P) (args := (row.map encD).toArray) hlr (by rw [hrec]; simp [hrow2.1, hz])
    have hfold : (ps.zip (row.map encD).toArray).foldl (fun tmps (x : Tmp × Value) => tmps.setIfInBounds x.1 x.2) a.tmps = (ps.toList.zip (row.map encD)).foldl (fun t (p, v) => t.setIfInBounds p v) a'.tmps := by
      rw [ha't, ← Array.foldl_toList, Array.toList_zip]
    have hy' : (Instr.yield l (row.map encD).toArray).run P W = .ok (.round l fn ((ps.zip (row.map encD).toArray).foldl (fun tmps (x : Tmp × Value) => tmps.setIfInBounds x.1 x.2) a.tmps) ca cb) W := by
      rw [hrec] at hy
      exact hy
    refine ⟨fn, _, ca, cb, hy', ?_⟩
    have hb := round_ok (R := fun e W2 => (e = .returned (.bool true) ∧ ∃ (x : A) (G' : Nat → Prop) (ρ' : List Value), I (i + 1) x ∧ Conc E1 n G' ρ' T0 (Hs x) a' W2 ∧ Stay G w1 ρ0 G' W2 ρ' ∧ W2.heap[l]? = some (.loop rec)) ∨ (e = .returned (.bool false) ∧
        ∃ (c : Code) (G' : Nat → Prop) (ρ' : List Value) (h' : H), Conc E1 n G' ρ' T0 h' a' W2 ∧ W2.heap[l]? = some (.loop { rec with state := .done, pending := some c }) ∧ ((c = .ret ∧ K .ret T0 h') ∨ ∃ j, c = .exit j ∧ K (.ext j) T0 h')))
      (KB := fun e h => match e with
        | .nrm => ∃ y, I (i + 1) y ∧ subh h (Hs y)
        | .ext j => K (.ext j) T0 h
        | .ret => K .ret T0 h
        | .pan _ => False) ow hA hB hc hlr (by rw [hrec]) hEl hEG hs3 hps hrow2.2 (fun _ _ h => h) (by rw [(hH x).1]; exact hRd i row x hrow hi)
      (fun G2 ρ2 h2 W2 g1 g2 g3 ⟨y, hy1, g4⟩ => by
        have hle : lts E1.h.length T0 (Hs y) = true := by rw [hM.eh]; exact (hH y).2.1
        obtain ⟨ρ3, e3, g5⟩ := g1.lessH (by rw [hM.er, hM.eh]; exact hE) g4 hle
        refine .inl ⟨rfl, y, G2, ρ3, hy1, g5, ⟨fun b hb => (hs.trans g3).1 b hb, fun j u hj hu => ?_⟩, by rw [g2, hrec]⟩
        have hjl : j < (Hs y).length := by
          rw [(hH y).1, ← (hH x0).1, ← hC0.ok.hr.len]
          exact (List.getElem?_eq_some_iff.1 hj).1
        rw [e3, List.getElem?_take, if_pos hjl]
        exact (hs.trans g3).2 j u hj hu)
      (fun G2 ρ2 h2 W2 c g1 g2 g3 => .inr ⟨rfl, c, G2, ρ2, h2, g1, g2, g3⟩)
    refine roundIn_of_wpIn trivial ?_
    show ca.wpIn (Fw (some l)) 0 P _ { tmps := (ps.zip (row.map encD).toArray).foldl (fun tmps (x : Tmp × Value) => tmps.setIfInBounds x.1 x.2) a.tmps, defers := [] } W
    rw [hfold]
    exact hb
theorem wk_ok (hm : P.follows .mixedOrders = true) : ∀ (c : Code) (x : C), comp P n c = some x → WK P ow n c x := by
  intro c
  induction c with
  | skip =>
    intro x hx r N E hE hrd G ρ t h a w K hC hk
    cases hx
    exact wpIn_skip (.of ⟨G, ρ, t, h, hC, hk⟩)
  | region id ops draw =>
    intro x hx r N E hE hrd G ρ t h a w K hC hk
    cases draw with
    | false =>
      simp only [comp] at hx
      cases hnd : ops.toList.all nod with
      | false =>
        rw [hnd] at hx
        cases hx
        exact hk.elim
      | true =>
        rw [hnd, cond_true] at hx
        simp only [Option.map_eq_some_iff] at hx
        obtain ⟨is, his, rfl⟩ := hx
        exact wpIn_mono (region_in qk_nl (nod_all hnd) (reg_ok ow _ _ his G ρ t h a w hC hk)) fun _ _ _ => .of
    | true =>
      refine wpIn_mono (rgd_ok ow hm hE hx hC fun n0 => ?_) fun _ _ _ => .of
      simp only [comp] at hx
      cases hnd : ops.toList.all nod with
      | false =>
        rw [hnd] at hx
        cases hx
        exact hk.elim
      | true =>
        rw [hnd, Bool.not_true, cond_false] at hx
        simp only [Option.bind_eq_bind, Option.bind_eq_some_iff] at hx
        obtain ⟨is, his, hx⟩ := hx
        split at hx
        · cases hx; exact hk
        · cases hx; exact hk.elim
  | seq c d ih1 ih2 =>
    intro x hx r N E hE hrd G ρ t h a w K hC hk
    simp only [comp, Option.bind_eq_bind, Option.bind_eq_some_iff, Option.some.injEq] at hx
    obtain ⟨y, hy, z, hz, rfl⟩ := hx
    simp only [wx_seq] at hk
    refine wpIn_seq (wpIn_mono (ih1 y hy r N E hE hrd G ρ t h a w _ hC hk) fun e a' w' hq => ?_)
    obtain ⟨E1, hM, hb1, G', ρ', t', h', hC', hk'⟩ := hq
    have hb2 : nrf (.seq c d) = true → E1 = E := fun h => hb1 (by simp only [nrf, Bool.and_eq_true] at h; exact h.1)
    cases e with
    | normal =>
      refine wpIn_mono (ih2 z hz r N E1 (by rw [hM.er, hM.eh]; exact hE) (hrd.mk hM) G' ρ' t' h' a' w' K hC' (by rw [hM.eh]; exact hk')) fun e a'' w'' hq => ?_
      obtain ⟨E2, hM2, hb3, hq⟩ := hq
      exact ⟨E2, hM.trans hM2, fun h => by simp only [nrf, Bool.and_eq_true] at h; rw [hb3 h.2, hb1 h.1], hq⟩
    | exit id => exact ⟨E1, hM, hb2, G', ρ', t', h', hC', hk'⟩
    | ret => exact ⟨E1, hM, hb2, G', ρ', t', h', hC', hk'⟩
    | panic ch => exact ⟨E1, hM, hb2, G', ρ', t', h', hC', hk'⟩
    | goto l => exact hk'.elim
    | outgrown => exact hk'.elim
  | cond c x y ih1 ih2 =>
    intro z hz r N E hE hrd G ρ t h a w K hC hk
    simp only [comp, Option.bind_eq_bind, Option.bind_eq_some_iff, Option.some.injEq] at hz
    obtain ⟨oc, hoc, x', hx, y', hy, rfl⟩ := hz
    simp only [wx_cond] at hk
    split at hk
    · rename_i b hb
      have hv := (hb ▸ opd_ok hC hoc).bool
      cases b
      · exact wpIn_cond_false hv (wpIn_mono (ih2 y' hy r N E hE hrd G ρ t h a w K hC hk) fun _ _ _ ⟨E1, hM, hb1, hq⟩ => ⟨E1, hM, fun h => hb1 (by simp only [nrf, Bool.and_eq_true] at h; exact h.2), hq⟩)
      · exact wpIn_cond_true hv (wpIn_mono (ih1 x' hx r N E hE hrd G ρ t h a w K hC hk) fun _ _ _ ⟨E1, hM, hb1, hq⟩ => ⟨E1, hM, fun h => hb1 (by simp only [nrf, Bool.and_eq_true] at h; exact h.1), hq⟩)
    · exact hk.elim
  | block id c ih =>
    intro x hx r N E hE hrd G ρ t h a w K hC hk
    simp only [comp, Option.bind_eq_bind, Option.bind_eq_some_iff, Option.some.injEq] at hx
    obtain ⟨y, hy, rfl⟩ := hx
    simp only [wx_block] at hk
    refine wpIn_block (wpIn_mono (ih y hy r N E hE hrd G ρ t h a w _ hC hk) fun e a' w' hq => ?_)
    obtain ⟨E1, hM, hb1, G', ρ', t', h', hC', hk'⟩ := hq
    cases e with
    | normal => exact ⟨E1, hM, hb1, G', ρ', t', h', hC', hk'⟩
    | exit i =>
      simp only at hk'
      unfold Exit.inBlock
      simp only
      by_cases e : i = id
      · rw [if_pos e]
        rw [e, Nat.beq_refl] at hk'
        exact ⟨E1, hM, hb1, G', ρ', t', h', hC', hk'⟩
      · rw [if_neg e]
        rw [nbeq e] at hk'
        exact ⟨E1, hM, hb1, G', ρ', t', h', hC', hk'⟩
    | ret => exact ⟨E1, hM, hb1, G', ρ', t', h', hC', hk'⟩
    | panic ch => exact ⟨E1, hM, hb1, G', ρ', t', h', hC', hk'⟩
    | goto l => exact hk'.elim
    | outgrown => exact hk'.elim
  | loop c ih =>
    intro x hx r N E hE hrd G ρ t h a w K hC hk
    simp only [comp, Option.bind_eq_bind, Option.bind_eq_some_iff, Option.some.injEq] at hx
    obtain ⟨y, hy, rfl⟩ := hx
    simp only [wx_loop, lx] at hk
    obtain ⟨A, I, S1, S2, m, x, ⟨i1, i2, i3, i4⟩, hk⟩ := hk
    obtain ⟨ρ1, _, hC1⟩ := hC.less hE i2 i3 i4
    refine wpIn_loopx (fun x a w => I x ∧ ∃ E1 G ρ, MkOf E E1 ∧ (nrf c = true → E1 = E) ∧ Conc E1 n G ρ (S1 x) (S2 x) a w) m x ⟨i1, E, G, ρ1, .refl E, fun _ => rfl, hC1⟩ fun x a w hI => ?_
    obtain ⟨hI, E1, G, ρ, hM, hb, hC⟩ := hI
    have hE1 : E1.ρ.length = E1.h.length := by rw [hM.er, hM.eh]; exact hE
    refine wpIn_mono (ih y hy r N E1 hE1 (hrd.mk hM) G ρ _ _ a w _ hC (by rw [hM.eh]; exact hk x hI)) fun e a' w' hq => ?_
    obtain ⟨E2, hM2, hb2, G', ρ', t', h', hC', hk'⟩ := hq
    have hb3 : nrf c = true → E2 = E := fun h => by rw [hb2 h, hb h]
    have hM3 := hM.trans hM2
    cases e with
    | normal =>
      obtain ⟨z, z1, z2, z3, z4, z5⟩ := hk'
      obtain ⟨ρ2, _, hC2⟩ := hC'.less (by rw [hM3.er, hM3.eh]; exact hE) z3 z4 (by rw [hM3.eh]; exact z5)
      exact ⟨z, ⟨z1, E2, G', ρ2, hM3, hb3, hC2⟩, z2⟩
    | exit i => exact ⟨E2, hM3, hb3, G', ρ', t', h', hC', hk'⟩
    | ret => exact ⟨E2, hM3, hb3, G', ρ', t', h', hC', hk'⟩
    | panic ch => exact ⟨E2, hM3, hb3, G', ρ', t', h', hC', hk'⟩
    | goto l => exact hk'.elim
    | outgrown => exact hk'.elim
  | exit id =>
    intro x hx r N E hE hrd G ρ t h a w K hC hk
    cases hx
    exact wpIn_exit (.of ⟨G, ρ, t, h, hC, hk⟩)
  | ret =>
    intro x hx r N E hE hrd G ρ t h a w K hC hk
    cases hx
    exact wpIn_ret (.of ⟨G, ρ, t, h, hC, hk⟩)
  | rangeFunc g ps ca cb ih1 ih2 =>
    intro x hx r N E hE hrd G ρ t h a w K hC hk
    simp only [comp] at hx
    cases hcnd : Nat.ble P.funcs.size 5000000 && ps.toList.all (fun p => Nat.blt p n) with
    | false => rw [hcnd] at hx; cases hx; exact hk.elim
    | true =>
      rw [hcnd, cond_true] at hx
      simp only [Bool.and_eq_true, List.all_eq_true] at hcnd
      split at hx
      · rename_i og hg
        simp only [Option.bind_eq_bind, Option.bind_eq_some_iff, Option.some.injEq] at hx
        obtain ⟨xa, hxa, xb, hxb, rfl⟩ := hx
        exact rf_ok ow hE hrd (ih1 xa hxa) (ih2 xb hxb) hg (fun p hp => (Nat.blt_eq ..).mp (hcnd.2 p hp)) (Nat.le_of_ble_eq_true hcnd.1) rfl hC hk
      · cases hx; exact hk.elim
  | _ =>
    intro x hx r N E hE hrd G ρ t h a w K hC hk
    cases hx
    exact hk.elim
theorem wx_okM (hm : P.follows .mixedOrders = true) (hE : E.ρ.length = E.h.length) (c : Code) (x : C) (hx : comp P n c = some x) (G : Nat → Prop) (ρ : List Value) (t : T) (h : H) (a : Act) (w : World) (K : Ex → T → H → Prop) (hC : Conc E n G ρ t h a w)
    (hk : wx (Sat P) ow E.h.length x t h K) : c.wpIn (Fw none) 0 P (QM (nrf c) E n K) a w :=
  wk_ok ow hm c x hx none 0 E hE (.none E) G ρ t h a w K hC hk
theorem wx_ok (hm : P.follows .mixedOrders = true) (hE : E.ρ.length = E.h.length) (c : Code) (x : C) (hx : comp P n c = some x) (hr : nrf c = true) (G : Nat → Prop) (ρ : List Value) (t : T) (h : H) (a : Act) (w : World) (K : Ex → T → H → Prop) (hC : Conc E n G ρ t h a w)
    (hk : wx (Sat P) ow E.h.length x t h K) : c.wp P (QK E n K) a w :=
  wpIn_wide.1 (wpIn_mono (wx_okM ow hm hE c x hx G ρ t h a w K hC hk) fun _ _ _ hq => by rw [hr] at hq; exact hq.qk)
end
end Go.Vx
namespace Go.Vx
section
variable {P : Program} {E : Ent} {n : Nat} {G : Nat → Prop} {ρ : List Value} {t : T} {h : H} {a : Act} {w : World} (ow : Nat → Bool)
theorem Ok.refl (hr : HR G w ρ h) : Ok ⟨w, G, ρ, h, [], []⟩ G w ρ h :=
  ⟨hr, fun _ h => h, fun _ h => .inl h, fun _ h => .inr h, fun _ _ _ => rfl, Nat.le_refl _, rfl, rfl, rfl, fun _ _ h _ => h, Nat.le_refl _, fun _ h => nomatch h⟩
theorem Ok.part (hO : Ok E G w ρ h) (hE : E.ρ.length = E.h.length) {ids : List Nat} (hn : ids.Nodup) (hlt : ∀ i ∈ ids, i < h.length) (hcl : ∀ i ∈ ids, ∀ x, h[i]? = some x → ∀ j ∈ idB x, j ∈ ids) (hp : ids.take E.h.length = List.range E.h.length) :
    Ok E G w (ids.map fun i => (ρ[i]?).getD undef) (ids.map fun i => rnB (pos ids) ((get? h i).getD .no)) := by
  obtain ⟨h1, h2⟩ := hO.hr.part hn hlt hcl
  have h3 : ∀ b, own (ids.map fun i => (ρ[i]?).getD undef) (ids.map fun i => rnB (pos ids) ((get? h i).getD .no)) b → own ρ h b := fun b hb => by
    obtain ⟨i, v, x, _, g1, g2, g3, g4⟩ := h2 b hb
    exact ⟨i, v, x, g1, g2, g3, g4⟩
  have hle : E.h.length ≤ ids.length := by
    have := congrArg List.length hp
    simp at this
    omega
  refine ⟨h1, hO.gm, hO.go, fun b hb => hO.oo b (h3 b hb), hO.frame, hO.size, hO.os, hO.tape, hO.out, fun i v hv hs => ?_, by simpa using hle, fun r hr => let ⟨g1, g2, g3⟩ := hO.mks r hr; ⟨g1, g2, fun g4 => g3 (h3 r g4)⟩⟩
  have hi : i < E.h.length := by have := (List.getElem?_eq_some_iff.1 hv).1; omega
  have hid : ids[i]? = some i := by
    have : (ids.take E.h.length)[i]? = some i := by rw [hp, List.getElem?_range hi]
    rwa [List.getElem?_take, if_pos hi] at this
  rw [List.getElem?_map, hid, Option.map_some, hO.hand i v hv hs]
  rfl
theorem nlc_k {v : Value} {x : V} (hv : RepK G w ρ v x) : RepK G w ρ v (nlc x) := by
  cases hv with
  | nl z => exact .d (.slz z)
  | cl a n z rows h => exact .cl a n z rows h
  | un => exact .un _
  | ud => exact .ud
  | d h => exact .d h
  | p id off b h => exact .p id off b h
  | e b o off row U h1 h2 h3 => exact .e b o off row U h1 h2 h3
  | os id a n c h => exact .os id a n c h
  | q id z i off b n c h => exact .q id z i off b n c h
  | mp id r h => exact .mp id r h
  | ov id z i _ a n c h hv => exact .ov id z i _ a n c h hv
theorem nlc_c {v : Value} {x : V} (hv : RepC G w ρ v x) : RepC G w ρ v (nlc x) := by
  cases hv with
  | k h => exact .k (nlc_k h)
  | fc f u cs caps h0 h1 h2 => exact .fc f _ cs caps h0 h1 h2
theorem nl1_ok {v : Value} {x : V} (hv : Rep2 G w ρ v x) : Rep2 G w ρ v (nl1 x) := by
  cases hv with
  | o h => cases h with
    | c h =>
      have : nl1 x = nlc x := by
        cases h with
        | k h => cases h <;> rfl
        | fc => rfl
      rw [this]
      exact .o (.c (nlc_c h))
    | ag cs vs h1 h2 =>
      refine .o (.ag cs _ (by simpa using h1) (fun i x hx => ?_))
      rw [List.getElem?_map] at hx
      cases hc : vs[i]? with
      | none => rw [hc] at hx; cases hx
      | some x0 => rw [hc] at hx; cases hx; exact clean_c (h2 i x0 hc)
  | tu cs vs h1 h2 => exact .tu cs vs h1 h2
def Vals (G : Nat → Prop) (w : World) (ρ : List Value) (U : Nat → Value) (vs : List V) : Prop :=
  ∀ (i : Nat) (x : V), vs[i]? = some x → Rep2 G w ρ (U i) x
theorem ntu_sub {id : Nat} {y : D} {x : V} (h : ntu x = true) : ntu (sub2 id (.d y) x) = true := by
  cases x <;> simp_all [ntu, sub2, sub1, subC, sub0]
  rename_i j
  cases Nat.beq j id <;> rfl
theorem ntu_nl {x : V} (h : ntu x = true) : ntu (nl1 x) = true := by
  cases x <;> simp_all [ntu, nl1, nlc]
theorem ntu_rn {f : Nat → Nat} {x : V} (h : ntu x = true) : ntu (rn2 f x) = true := by
  cases x <;> simp_all [ntu, rn2, rn1, rn0, rnc]
theorem give_ntu {K : T → H → List V → Prop} : ∀ (ids : List Nat) (t : T) (h : H) (vs : List V), vs.all ntu = true → give ids t h vs K → give ids t h vs fun t h vs => vs.all ntu = true ∧ K t h vs := by
  intro ids
  induction ids with
  | nil => intro t h vs hv hk; exact ⟨hv, hk⟩
  | cons id ids ih =>
    intro t h vs hv hk
    simp only [give_cons, give1] at hk ⊢
    split at hk
    · rename_i z rs hg
      simp only [flv_eq, flt_eq, flb_eq] at hk ⊢
      refine ih _ _ _ ?_ hk
      simp only [List.all_map, List.all_eq_true] at hv ⊢
      exact fun x hx => ntu_sub (hv x hx)
    · exact hk.elim
theorem fin_ok {K : Out → H → Prop} (hC : Conc E n G ρ t h a w) (hE : E.ρ.length = E.h.length) {keep : Bool} {vs : List V} {U : Nat → Value} (hU : Vals G w ρ U vs) (hk : fin keep E.h.length vs t h K) :
    ∃ (G' : Nat → Prop) (ρ' : List Value) (h' : H) (us : List V), Ok E G' w ρ' h' ∧ us.length = vs.length ∧ us.all ntu = true ∧ Vals G' w ρ' U us ∧ K (outs us) h' := by
  obtain ⟨hnt, hk⟩ := hk
  simp only [fl_eq, flb_eq, fln_eq] at hk
  have hU1 : Vals G w ρ U (vs.map nl1) := fun i x hi => by
    rw [List.getElem?_map] at hi
    cases hc : vs[i]? with
    | none => rw [hc] at hi; cases hi
    | some x0 => rw [hc] at hi; cases hi; exact nl1_ok (hU i x0 hc)
  have hnt1 : (vs.map nl1).all ntu = true := by
    simp only [List.all_map, List.all_eq_true] at hnt ⊢
    exact fun x hx => ntu_nl (hnt x hx)
  obtain ⟨G', t', h', vs', hC', hl, hU', hnt', hk'⟩ := give_ok _ G t h _ U hC hU1 (give_ntu _ _ _ _ hnt1 hk)
  rw [List.length_map] at hl
  split at hk'
  · rename_i hn0 hid
    have hO := hC'.ok.part hE (ids := []) (by simp) (by simp) (by simp) (by simp [hn0])
    refine ⟨G', _, _, vs', hO, hl, hnt', fun i x hi => ?_, hk'⟩
    have := hU' i x hi
    have hx : id2 x = [] := (List.flatMap_eq_nil_iff.1 hid) x (List.mem_of_getElem? hi)
    have h1 := this.ren (ρ' := ([] : List Value)) (f := fun i => i) (fun j hj => by rw [hx] at hj; cases hj)
    rwa [rn2_id hx] at h1
  · generalize reach h' 100 _ _ = ids at hk'
    obtain ⟨hchk, hpre, hk'⟩ := hk'
    simp only [Bool.and_eq_true, List.all_eq_true] at hchk
    obtain ⟨⟨c1, c2⟩, c3⟩ := hchk
    have hlt : ∀ i ∈ ids, i < h'.length := fun i hi => (Nat.blt_eq ..).mp (c2 i hi).1
    have hcl : ∀ i ∈ ids, ∀ x, h'[i]? = some x → ∀ j ∈ idB x, j ∈ ids := fun i hi x hx j hj => by
      have := (c2 i hi).2 j
      rw [get?_eq, hx] at this
      exact has_iff.1 (this hj)
    have hO := hC'.ok.part hE (nodup_of c1) hlt hcl hpre
    refine ⟨G', _, _, vs'.map (rn2 (pos ids)), hO, by simpa using hl, ?_, fun i x hi => ?_, hk'⟩
    · simp only [List.all_map, List.all_eq_true] at hnt' ⊢
      exact fun x hx => ntu_rn (hnt' x hx)
    · rw [List.getElem?_map] at hi
      cases hc : vs'[i]? with
      | none => rw [hc] at hi; cases hi
      | some x0 =>
        rw [hc] at hi; cases hi
        refine (hU' i x0 hc).ren fun j hj => ?_
        have hjm : j ∈ ids := has_iff.1 (c3 j (by rw [List.mem_flatMap]; exact ⟨x0, List.mem_of_getElem? hc, hj⟩))
        have hjl := hlt j hjm
        rw [List.getElem?_map, pos_get hjm, Option.map_some, List.getElem?_eq_getElem (by rw [hC'.ok.hr.len]; exact hjl)]
        rfl
def rdR (a : Act) : ResultVar → Sem Value
  | .tmp t => pure (a.tmps.getD t undef)
  | .cell b t => do loadVar t (← asAddr (a.tmps.getD b undef))
def rvP (P : Program) : ResultVar → Option RV
  | .tmp t => some (.s t)
  | .cell a t => (ldn P t).map (.c a)
theorem rvx_ok (hC : Conc E n G ρ t h a w) {r : ResultVar} {x : RV} (hx : rvP P r = some x) {K : V → Prop} (hk : rvx x t h K) :
    ∃ (u : Value) (v : V), (rdR a r).run P w = .ok u w ∧ Rep2 G w ρ u v ∧ K v := by
  cases r with
  | tmp i =>
    cases hx
    exact ⟨_, _, rfl, hC.tm i, hk⟩
  | cell b ty =>
    simp only [rvP, Option.map_eq_some_iff] at hx
    obtain ⟨m, hl, rfl⟩ := hx
    have hv := hC.tm b
    simp only [rvx] at hk
    split at hk
    · rename_i id off hg
      rw [hg] at hv
      obtain ⟨bb, hp, hρ⟩ := hv.pt
      rw [get?_eq] at hk
      split at hk
      · rename_i cs hcs
        obtain ⟨b', arr, ty', hb, h1, h2, h3⟩ := hC.ok.hr.rep id _ _ hρ hcs
        simp only [Value.pointer.injEq, Option.some.injEq, Addr.mk.injEq, and_true] at hb
        obtain ⟨rfl, _⟩ := hb
        cases m with
        | none =>
          simp only [get?_eq] at hk
          split at hk
          · rename_i v hvv
            have hol : off < arr.size := by rw [h2]; exact (List.getElem?_eq_some_iff.1 hvv).1
            have hcell : w.cell? ⟨bb, off, none⟩ = some arr[off] := by rw [cell_arr h1]; exact Array.getElem?_eq_getElem hol
            refine ⟨arr[off], v, ?_, ?_, hk⟩
            · simp [rdR, hp, asAddr, ldn_none hl, hcell]
            · have := h3 off v hvv
              exact .o (.c (by simpa [Array.getD_eq_getD_getElem?, hol] using this))
          · exact hk.elim
        | some k =>
          simp only [fl_eq] at hk
          have hlen := nbq hk.1
          have hlen' : k ≤ cs.length - off := by
            have := hlen
            simp at this
            omega
          have hrun := ldn_some (w := w) hl ⟨bb, off, none⟩ ((List.range k).map fun j => arr.getD (off + j) undef) (by simp) (fun j v hv => by
            rw [add_off, cell_arr h1]
            simp only [List.getElem?_map, Option.map_eq_some_iff] at hv
            obtain ⟨j', hj', rfl⟩ := hv
            have hjl : j < k := by
              have := (List.getElem?_eq_some_iff.1 hj').1
              simpa using this
            rw [List.getElem?_range hjl] at hj'
            cases hj'
            have hol : off + j < arr.size := by omega
            rw [Array.getD_eq_getD_getElem?, Array.getElem?_eq_getElem hol]; rfl)
          refine ⟨_, _, by simp [rdR, hp, asAddr, hrun]; rfl, .o (.ag _ _ (by simpa using hlen.symm) (fun j y hy => ?_)), hk.2⟩
          have hj : j < k := by rw [← hlen]; exact (List.getElem?_eq_some_iff.1 hy).1
          rw [List.getElem?_take, if_pos hj, List.getElem?_drop] at hy
          have hol : off + j < arr.size := by rw [h2]; exact (List.getElem?_eq_some_iff.1 hy).1
          have := h3 (off + j) y hy
          simpa [Array.getD_eq_getD_getElem?, hol, hj] using this
      · exact hk.elim
    · exact hk.elim
theorem rvs_ok (hC : Conc E n G ρ t h a w) : ∀ (rs : List ResultVar) (xs : List RV), rs.mapM (rvP P) = some xs → ∀ (K : List V → Prop), rvs xs t h K →
    ∃ (us : List Value) (vs : List V), (rs.mapM (rdR a)).run P w = .ok us w ∧
      us.length = vs.length ∧ Vals G w ρ (fun i => us.getD i undef) vs ∧ K vs := by
  intro rs
  induction rs with
  | nil =>
    intro xs hm K hk
    simp at hm
    subst hm
    exact ⟨[], [], by simp, rfl, fun i x hi => by simp at hi, hk⟩
  | cons r rs ih =>
    intro xs hm K hk
    simp only [List.mapM_cons, Option.bind_eq_bind, Option.bind_eq_some_iff, Option.pure_def, Option.some.injEq] at hm
    obtain ⟨x, hx, ys, hys, rfl⟩ := hm
    simp only [rvs_cons] at hk
    obtain ⟨u, v, g1, g2, g3⟩ := rvx_ok hC hx hk
    obtain ⟨us, vs, k1, k2, k3, k4⟩ := ih ys hys _ g3
    refine ⟨u :: us, v :: vs, ?_, by simp [k2], fun i x hi => ?_, k4⟩
    · rw [List.mapM_cons, Sem.run_bind, g1, Result.andThen_ok, Sem.run_bind, k1, Result.andThen_ok]
      rfl
    · cases i with
      | zero => simp at hi; subst hi; simpa using g2
      | succ i => simpa using k3 i x (by simpa using hi)
theorem resP_eq {fn : Func} : resP P fn = fn.results.toList.mapM (rvP P) := by
  unfold resP
  congr 1
theorem results_eq {fn : Func} : results fn a.tmps = (do let vs ← fn.results.mapM (rdR a); pure (if h : vs.size = 1 then vs[0] else .tuple vs)) := by
  unfold results
  congr 1
theorem gs_ini : ∀ (vs : List V) (k i : Nat), gs (ini k vs) i = if k ≤ i then (vs[i - k]?).getD .un else .un := by
  intro vs
  induction vs with
  | nil => intro k i; simp [ini, gs_nil]
  | cons v vs ih =>
    intro k i
    simp only [ini, gs_cons]
    by_cases e : k = i
    · subst e; simp
    · rw [nbeq e, cond_false, ih]
      by_cases hk : k + 1 ≤ i
      · rw [if_pos hk, if_pos (by omega)]
        have : i - k = (i - (k + 1)) + 1 := by omega
        rw [this, List.getElem?_cons_succ]
      · rw [if_neg hk, if_neg (by omega)]
theorem Ok.ds {d1 d2 : List Deferred} {m : List Nat} (hO : Ok { E with ds := d1, ms := m } G w ρ h) : Ok { E with ds := d2, ms := m } G w ρ h :=
  ⟨hO.hr, hO.gm, hO.go, hO.oo, hO.frame, hO.size, hO.os, hO.tape, hO.out, hO.hand, hO.hl, hO.mks⟩
theorem marks_ok {F : Fence} {N : Nat} {fn : Func} {tmps : Array Value} {R : Ending → World → Prop} {u : FrameMode} (hu : u ≠ .run) : ∀ (l : List Nat) (w : World), l.Nodup → (∀ r ∈ l, E.w.heap.size ≤ r) → Ok { E with ds := [], ms := l } G w ρ h →
    (∀ w', Ok { E with ds := [], ms := [] } G w' ρ h → (∀ v x, Rep2 G w ρ v x → Rep2 G w' ρ v x) → LeavesIn F N P fn tmps R [] u w') → LeavesInM F N P fn tmps R (l.map mkD) u w := by
  intro l
  induction l with
  | nil => intro w _ _ hO hk; exact hk w hO fun _ _ h => h
  | cons r l ih =>
    intro w hn hs hO hk
    obtain ⟨hn1, hn2⟩ := List.nodup_cons.1 hn
    obtain ⟨g1, g2, _⟩ := hO.mks r (by simp)
    refine ⟨hu, .inl ⟨r, _, rfl, run_takeDeferred g1, ih _ hn2 (fun x hx => hs x (by simp [hx])) (hO.putr (.inr ⟨_, g1⟩) (hs r (by simp)) g2 (fun x hx => ⟨by simp [hx], fun e => hn1 (e ▸ hx)⟩) _) fun w' hO' hr => hk w' hO' fun v x hv => hr v x (rep_putr hv g2 _)⟩⟩
theorem sat_intro {f : Nat} {fn : Func} {c : Code} {x : C} {rs : List RV} {keep : Bool} {vs : List V} {K : Out → H → Prop} (hm : P.follows .mixedOrders = true) (hf : P.funcs[f]? = some fn) (hname : (fn.name != "runtime.NumGoroutine") = true) (hb : fn.body = some c)
    (hx : comp P fn.ntmps c = some x) (hr : resP P fn = some rs) (hl : Nat.ble vs.length fn.ntmps = true) (hk : fx (Sat P) ow keep x rs vs h K) : Sat P f vs h K := by
  have hl := Nat.le_of_ble_eq_true hl
  refine .inl ⟨by simp [callOk, hf, hname, hb], fun G w ρ as hR hlen hv => in_calls (r := none) (N := 0) (callsIn_of_wp_marks hf hb (Fw.fn none f) ?_)⟩
  have hC : Conc ⟨w, G, ρ, h, [], []⟩ fn.ntmps G ρ (ini 0 vs) h { tmps := as.toArray ++ Array.replicate (fn.ntmps - as.toArray.size) undef, defers := [] } w := by
    refine ⟨Ok.refl hR, rfl, by simp; omega, fun i => ?_⟩
    rw [gs_ini, if_pos (Nat.zero_le _), Nat.sub_zero]
    cases hc : vs[i]? with
    | none => exact .k (.un _)
    | some v =>
      have hil : i < vs.length := (List.getElem?_eq_some_iff.1 hc).1
      have := hv i v hc
      rw [List.getD_eq_getElem?_getD, List.getElem?_eq_getElem (by omega)] at this
      rw [Array.getD_eq_getD_getElem?, Array.getElem?_append_left (by simp; omega)]
      simpa [hlen, hil] using this
  have hE : (⟨w, G, ρ, h, [], []⟩ : Ent).ρ.length = (⟨w, G, ρ, h, [], []⟩ : Ent).h.length := hR.len
  have norm : ∀ (G' : Nat → Prop) (ρ' : List Value) (t' : T) (h' : H) (a' : Act) (w' : World), Conc ⟨w, G, ρ, h, [], []⟩ fn.ntmps G' ρ' t' h' a' w' → (rvs rs t' h' fun vs => fin keep h.length vs t' h' K) →
      ∃ v, (results fn a'.tmps).run P w' = .ok v w' ∧ ∃ (G'' : Nat → Prop) (ρ'' : List Value) (h'' : H) (out : Out), Ok ⟨w, G, ρ, h, [], []⟩ G'' w' ρ'' h'' ∧ RepO G'' w' ρ'' (.returned v) out ∧ K out h'' := by
    intro G' ρ' t' h' a' w' hC' hk'
    obtain ⟨us, vs', g1, g2, g3, g4⟩ := rvs_ok hC' _ _ (resP_eq ▸ hr) _ hk'
    obtain ⟨G'', ρ'', h'', us', k1, k2, k3, k4, k5⟩ := fin_ok hC' hE g3 g4
    have harr : (fn.results.mapM (rdR a')).run P w' = .ok us.toArray w' := by
      rw [← Array.toArray_toList (xs := fn.results), List.mapM_toArray]
      rw [map_eq_pure_bind, Sem.run_bind, g1, Result.andThen_ok]
      rfl
    refine ⟨if h : us.toArray.size = 1 then us.toArray[0] else .tuple us.toArray, ?_, G'', ρ'', h'', _, k1, ?_, k5⟩
    · rw [results_eq, Sem.run_bind, harr, Result.andThen_ok]
      rfl
    · by_cases h1 : us.length = 1
      · obtain ⟨u, rfl⟩ := List.length_eq_one_iff.1 h1
        obtain ⟨v, rfl⟩ := List.length_eq_one_iff.1 (show us'.length = 1 by omega)
        exact ⟨u, rfl, by simpa using k4 0 v rfl⟩
      · rw [dif_neg (by simpa using h1)]
        have : outs us' = .ret (.tu us') := by
          match us', (show us'.length ≠ 1 by omega) with
          | [], _ => rfl
          | [_], h => exact absurd rfl h
          | _ :: _ :: _, _ => rfl
        rw [this]
        refine ⟨_, rfl, .tu _ _ (by simp; omega) (fun i x hi => ?_)⟩
        have h2 := k4 i x hi
        have h3 : ntu x = true := (List.all_eq_true.1 k3) x (List.mem_of_getElem? hi)
        have h4 : (us.toArray).getD i undef = us.getD i undef := by
          rw [Array.getD_eq_getD_getElem?, List.getD_eq_getElem?_getD]; simp
        rw [h4]
        simp only at h2
        generalize us.getD i undef = u at h2
        cases h2 with
        | o h => exact h
        | tu => simp [ntu] at h3
  refine wpIn_mono (wx_okM ow hm hE c x hx G ρ _ h _ w _ hC hk) fun e a' w' hq => ?_
  obtain ⟨E1, ⟨l, rfl, hnd, hsz⟩, _, G', ρ', t', h', hC', hk'⟩ := hq
  have hdf : a'.defers = l.map mkD := by rw [hC'.df]; simp
  have hn : l.Nodup := by simpa using hnd List.nodup_nil
  have hO : Ok { (⟨w, G, ρ, h, [], []⟩ : Ent) with ds := [], ms := l } G' w' ρ' h' := by
    have := hC'.ok
    simp only [List.append_nil] at this
    exact this.ds
  have go : ∀ w'', Ok { (⟨w, G, ρ, h, [], []⟩ : Ent) with ds := [], ms := [] } G' w'' ρ' h' → (∀ v x, Rep2 G' w' ρ' v x → Rep2 G' w'' ρ' v x) → Conc ⟨w, G, ρ, h, [], []⟩ fn.ntmps G' ρ' t' h' { a' with defers := [] } w'' :=
    fun w'' h1 h2 => ⟨h1, rfl, hC'.sz, fun i => h2 _ _ (hC'.tm i)⟩
  cases e with
  | normal =>
    show LeavesInM _ _ _ _ _ _ a'.defers _ _
    rw [hdf]
    exact marks_ok (u := .returning) (fun e => by cases e) l w' hn hsz hO fun w'' h1 h2 => norm G' ρ' t' h' { a' with defers := [] } w'' (go w'' h1 h2) hk'
  | ret =>
    show LeavesInM _ _ _ _ _ _ a'.defers _ _
    rw [hdf]
    exact marks_ok (u := .returning) (fun e => by cases e) l w' hn hsz hO fun w'' h1 h2 => norm G' ρ' t' h' { a' with defers := [] } w'' (go w'' h1 h2) hk'
  | panic ch =>
    obtain ⟨v, v', rfl, hv', hk'⟩ := hk'
    show LeavesInM _ _ _ _ _ _ a'.defers _ _
    rw [hdf]
    refine marks_ok (u := .panicking [{ v := v', recovered := false }]) (fun e => by cases e) l w' hn hsz hO fun w'' h1 h2 => ?_
    obtain ⟨G'', ρ'', h'', us', k1, k2, k3, k4, k5⟩ := fin_ok (go w'' h1 h2) hE (U := fun _ => v') (vs := [v]) (fun i x hi => by
      cases i with
      | zero => simp at hi; subst hi; exact h2 _ _ hv'
      | succ i => simp at hi) hk'
    obtain ⟨u, rfl⟩ := List.length_eq_one_iff.1 (show us'.length = 1 by simpa using k2)
    exact ⟨G'', ρ'', h'', .pan u, k1, ⟨v', rfl, k4 0 u rfl⟩, k5⟩
  | exit id => exact hk'.elim
  | goto l => exact hk'.elim
  | outgrown => exact hk'.elim
end
end Go.Vx
