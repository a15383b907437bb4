/- A function, from its entry to its results. Conditions: none; lemmas on the definitions before. -/
import Derived.Test.YtjpgfgajkjhonaaGreatDoorQTAR
namespace Go.Vx
section
variable {P : Program} {E : Ent} {n : Nat} {G : Nat → Prop} {ρ : List Value} {t : T} {h : H} {a : Act} {w : World} (ow : Nat → Bool)
theorem Ok.refl (hr : HR G w ρ h) : Ok ⟨w, G, ρ, h, [], []⟩ G w ρ h :=
 ⟨hr, fun _ h => h, fun _ h => .inl h, fun _ h => .inr h, fun _ _ _ => rfl, Nat.le_refl _, rfl, rfl, rfl, fun _ _ h _ => h, Nat.le_refl _, fun _ h => nomatch h⟩
theorem Ok.part (hO : Ok E G w ρ h) (hE : E.ρ.length = E.h.length) {ids : List Nat} (hn : ids.Nodup) (hlt : ∀ i ∈ ids, i < h.length) (hcl : ∀ i ∈ ids, ∀ x, h[i]? = some x → ∀ j ∈ idB x, j ∈ ids) (hp : ids.take E.h.length = List.range E.h.length) :
  Ok E G w (ids.map fun i => (ρ[i]?).getD undef) (ids.map fun i => rnB (pos ids) ((get? h i).getD .no)) := by
 obtain ⟨h1, h2⟩ := hO.hr.part hn hlt hcl
 have h3 : ∀ b, own (ids.map fun i => (ρ[i]?).getD undef) (ids.map fun i => rnB (pos ids) ((get? h i).getD .no)) b → own ρ h b := fun b hb => by
  obtain ⟨i, v, x, _, g1, g2, g3, g4⟩ := h2 b hb
  exact ⟨i, v, x, g1, g2, g3, g4⟩
 have hle : E.h.length ≤ ids.length := by
  have := congrArg List.length hp
  simp at this
  omega
 refine ⟨h1, hO.gm, hO.go, fun b hb => hO.oo b (h3 b hb), hO.frame, hO.size, hO.os, hO.tape, hO.out, fun i v hv hs => ?_, by simpa using hle, fun r hr => let ⟨g1, g2, g3⟩ := hO.mks r hr; ⟨g1, g2, fun g4 => g3 (h3 r g4)⟩⟩
 have hi : i < E.h.length := by have := (List.getElem?_eq_some_iff.1 hv).1; omega
 have hid : ids[i]? = some i := by
  have : (ids.take E.h.length)[i]? = some i := by rw [hp, List.getElem?_range hi]
  rwa [List.getElem?_take, if_pos hi] at this
 rw [List.getElem?_map, hid, Option.map_some, hO.hand i v hv hs]
 rfl
theorem nlc_k {v : Value} {x : V} (hv : RepK G w ρ v x) : RepK G w ρ v (nlc x) := by
 cases hv with
 | nl z => exact .d (.slz z)
 | cl a n z rows h => exact .cl a n z rows h
 | un => exact .un _
 | ud => exact .ud
 | d h => exact .d h
 | p id off b h => exact .p id off b h
 | e b o off row U h1 h2 h3 => exact .e b o off row U h1 h2 h3
 | os id a n c h => exact .os id a n c h
 | q id z i off b n c h => exact .q id z i off b n c h
 | mp id r h => exact .mp id r h
 | ov id z i _ a n c h hv => exact .ov id z i _ a n c h hv
 | it id r m h => exact .it id r m h
theorem nlc_c {v : Value} {x : V} (hv : RepC G w ρ v x) : RepC G w ρ v (nlc x) := by
 cases hv with
 | k h => exact .k (nlc_k h)
 | fc f u cs caps h0 h1 h2 => exact .fc f _ cs caps h0 h1 h2
theorem nl1_ok {v : Value} {x : V} (hv : Rep2 G w ρ v x) : Rep2 G w ρ v (nl1 x) := by
 cases hv with
 | o h => cases h with
  | c h =>
   have : nl1 x = nlc x := by
    cases h with
    | k h => cases h <;> rfl
    | fc => rfl
   rw [this]
   exact .o (.c (nlc_c h))
  | ag cs vs h1 h2 =>
   refine .o (.ag cs _ (by simpa using h1) (fun i x hx => ?_))
   rw [List.getElem?_map] at hx
   cases hc : vs[i]? with
   | none => rw [hc] at hx; cases hx
   | some x0 => rw [hc] at hx; cases hx; exact clean_c (h2 i x0 hc)
 | tu cs vs h1 h2 => exact .tu cs vs h1 h2
def Vals (G : Nat → Prop) (w : World) (ρ : List Value) (U : Nat → Value) (vs : List V) : Prop :=
 ∀ (i : Nat) (x : V), vs[i]? = some x → Rep2 G w ρ (U i) x
theorem ntu_sub {id : Nat} {y : D} {x : V} (h : ntu x = true) : ntu (sub2 id (.d y) x) = true := by
 cases x with
 | tu => cases h
 | os j =>
  show ntu (bif Nat.beq j id then V.d y else V.os j) = true
  cases Nat.beq j id <;> rfl
 | p j o =>
  show ntu (bif Nat.beq j id then ptO (.d y) j o else .p j o) = true
  cases Nat.beq j id
  ·rfl
  ·show ntu (ptO (.d y) j o) = true
   unfold ptO
   split
   ·rename_i off _
    cases Nat.beq off 0 <;> rfl
   ·rfl
 | _ => rfl
theorem ntu_nl {x : V} (h : ntu x = true) : ntu (nl1 x) = true := by
 cases x <;> simp_all [ntu, nl1, nlc]
theorem ntu_rn {f : Nat → Nat} {x : V} (h : ntu x = true) : ntu (rn2 f x) = true := by
 cases x <;> simp_all [ntu, rn2, rn1, rn0, rnc]
theorem give_ntu {K : T → H → List V → Prop} : ∀ (ids : List Nat) (t : T) (h : H) (vs : List V), vs.all ntu = true → give ids t h vs K → give ids t h vs fun t h vs => vs.all ntu = true ∧ K t h vs := by
 intro ids
 induction ids with
 | nil => intro t h vs hv hk; exact ⟨hv, hk⟩
 | cons id ids ih =>
  intro t h vs hv hk
  simp only [give_cons, give1] at hk ⊢
  split at hk
  ·rename_i z rs hg
   simp only [flv_eq, flt_eq, flb_eq] at hk ⊢
   refine ih _ _ _ ?_ hk
   simp only [List.all_map, List.all_eq_true] at hv ⊢
   exact fun x hx => ntu_sub (hv x hx)
  ·split at hk
   ·simp only [flv_eq, flt_eq, flb_eq] at hk ⊢
    refine ih _ _ _ ?_ hk
    simp only [List.all_map, List.all_eq_true] at hv ⊢
    exact fun x hx => ntu_sub (hv x hx)
   ·exact hk.elim
  ·exact hk.elim
theorem drI_gh {b : Nat} (x : B) (h : b ∈ gh (drI x)) : b ∈ gh x := by
 cases x with
 | di => cases h
 | ms z es out it => simp only [drI, gh, ghI, List.append_nil] at h; simp only [gh, List.mem_append]; exact .inl h
 | _ => exact h
theorem drI_no {x : B} (h : drI x ≠ .no) : x ≠ .no := fun e => h (by rw [e]; rfl)
theorem Conc.drp (hC : Conc E n G ρ t h a w) : Conc E n G ρ t (h.map drI) a w := by
 have get : ∀ (i : Nat) (y : B), (h.map drI)[i]? = some y → ∃ x, h[i]? = some x ∧ y = drI x := fun i y hy => by
  rw [List.getElem?_map, Option.map_eq_some_iff] at hy
  obtain ⟨x, hx, e⟩ := hy
  exact ⟨x, hx, e.symm⟩
 have bk : ∀ {v : Value} {x : B} {b : Nat}, b ∈ bks v (drI x) → b ∈ bks v x := fun hb => (mem_bks.1 hb).elim (fun h => mem_bks.2 (.inl h)) fun h => mem_bks.2 (.inr (drI_gh _ h))
 refine ⟨hC.ok.view (ρ' := ρ) (fun _ _ h => h) (by simp [hC.ok.hr.len]) (by simp) (fun i v y h1 h2 h3 => ?_) (fun i v y b h1 h2 h3 h4 => ?_), hC.df, hC.sz, hC.tm⟩
 ·obtain ⟨x, hx, rfl⟩ := get i y h2
  have := hC.ok.hr.rep i v x h1 hx
  cases x with
  | di es r l => exact this.1
  | ms z es out it => exact ⟨this.1, trivial⟩
  | _ => exact this
 ·obtain ⟨x, hx, rfl⟩ := get i y h2
  refine ⟨i, v, x, h1, hx, drI_no h3, bk h4, fun i' v' y' g1 g2 g3 g4 => ?_⟩
  obtain ⟨x', hx', rfl⟩ := get i' y' g2
  exact hC.ok.hr.dis i' i v' v x' x b g1 hx' (drI_no g3) h1 hx (drI_no h3) (bk g4) (bk h4)
theorem fin_ok {K : Out → H → Prop} (hC : Conc E n G ρ t h a w) (hE : E.ρ.length = E.h.length) {keep : Bool} {vs : List V} {U : Nat → Value} (hU : Vals G w ρ U vs) (hk : fin keep E.h.length vs t h K) :
  ∃ (G' : Nat → Prop) (ρ' : List Value) (h' : H) (us : List V), Ok E G' w ρ' h' ∧ us.length = vs.length ∧ us.all ntu = true ∧ Vals G' w ρ' U us ∧ K (outs us) h' := by
 obtain ⟨hnt, hk⟩ := hk
 simp only [fl_eq, flb_eq, fln_eq] at hk
 have hU1 : Vals G w ρ U (vs.map nl1) := fun i x hi => by
  rw [List.getElem?_map] at hi
  cases hc : vs[i]? with
  | none => rw [hc] at hi; cases hi
  | some x0 => rw [hc] at hi; cases hi; exact nl1_ok (hU i x0 hc)
 have hnt1 : (vs.map nl1).all ntu = true := by
  simp only [List.all_map, List.all_eq_true] at hnt ⊢
  exact fun x hx => ntu_nl (hnt x hx)
 obtain ⟨G', t', h', vs', hC', hl, hU', hnt', hk'⟩ := give_ok _ G t h _ U hC hU1 (give_ntu _ _ _ _ hnt1 hk)
 rw [List.length_map] at hl
 obtain ⟨t', h', hC', hk'⟩ := stls_ok _ hC' hk'
 replace hC' := hC'.drp
 generalize h'.map drI = h' at hC' hk'
 split at hk'
 ·rename_i hn0 hid
  have hO := hC'.ok.part hE (ids := []) (by simp) (by simp) (by simp) (by simp [hn0])
  refine ⟨G', _, _, vs', hO, hl, hnt', fun i x hi => ?_, hk'⟩
  have := hU' i x hi
  have hx : id2 x = [] := (List.flatMap_eq_nil_iff.1 hid) x (List.mem_of_getElem? hi)
  have h1 := this.ren (ρ' := ([] : List Value)) (f := fun i => i) (fun j hj => by rw [hx] at hj; cases hj)
  rwa [rn2_id hx] at h1
 ·generalize reach h' 100 _ _ = ids at hk'
  obtain ⟨hchk, hpre, hk'⟩ := hk'
  simp only [Bool.and_eq_true, List.all_eq_true] at hchk
  obtain ⟨⟨c1, c2⟩, c3⟩ := hchk
  have hlt : ∀ i ∈ ids, i < h'.length := fun i hi => (Nat.blt_eq ..).mp (c2 i hi).1
  have hcl : ∀ i ∈ ids, ∀ x, h'[i]? = some x → ∀ j ∈ idB x, j ∈ ids := fun i hi x hx j hj => by
   have := (c2 i hi).2 j
   rw [get?_eq, hx] at this
   exact has_iff.1 (this hj)
  have hO := hC'.ok.part hE (nodup_of c1) hlt hcl hpre
  refine ⟨G', _, _, vs'.map (rn2 (pos ids)), hO, by simpa using hl, ?_, fun i x hi => ?_, hk'⟩
  ·simp only [List.all_map, List.all_eq_true] at hnt' ⊢
   exact fun x hx => ntu_rn (hnt' x hx)
  ·rw [List.getElem?_map] at hi
   cases hc : vs'[i]? with
   | none => rw [hc] at hi; cases hi
   | some x0 =>
    rw [hc] at hi; cases hi
    refine (hU' i x0 hc).ren fun j hj => ?_
    have hjm : j ∈ ids := has_iff.1 (c3 j (by rw [List.mem_flatMap]; exact ⟨x0, List.mem_of_getElem? hc, hj⟩))
    have hjl := hlt j hjm
    rw [List.getElem?_map, pos_get hjm, Option.map_some, List.getElem?_eq_getElem (by rw [hC'.ok.hr.len]; exact hjl)]
    rfl
def rdR (a : Act) : ResultVar → Sem Value
 | .tmp t => pure (a.tmps.getD t undef)
 | .cell b t => do loadVar t (← asAddr (a.tmps.getD b undef))
def rvP (P : Program) : ResultVar → Option RV
 | .tmp t => some (.s t)
 | .cell a t => (ldn P t).map (.c a)
theorem rvx_ok (hC : Conc E n G ρ t h a w) {r : ResultVar} {x : RV} (hx : rvP P r = some x) {K : V → Prop} (hk : rvx x t h K) :
  ∃ (u : Value) (v : V), (rdR a r).run P w = .ok u w ∧ Rep2 G w ρ u v ∧ K v := by
 cases r with
 | tmp i =>
  cases hx
  exact ⟨_, _, rfl, hC.tm i, hk⟩
 | cell b ty =>
  simp only [rvP, Option.map_eq_some_iff] at hx
  obtain ⟨m, hl, rfl⟩ := hx
  have hv := hC.tm b
  simp only [rvx] at hk
  split at hk
  ·rename_i id off hg
   rw [hg] at hv
   obtain ⟨bb, hp, hρ⟩ := hv.pt
   rw [get?_eq] at hk
   split at hk
   ·rename_i cs hcs
    obtain ⟨b', arr, ty', hb, h1, h2, h3⟩ := hC.ok.hr.rep id _ _ hρ hcs
    simp only [Value.pointer.injEq, Option.some.injEq, Addr.mk.injEq, and_true] at hb
    obtain ⟨rfl, _⟩ := hb
    cases m with
    | none =>
     simp only [get?_eq] at hk
     split at hk
     ·rename_i v hvv
      have hol : off < arr.size := by rw [h2]; exact (List.getElem?_eq_some_iff.1 hvv).1
      have hcell : w.cell? ⟨bb, off, none⟩ = some arr[off] := by rw [cell_arr h1]; exact Array.getElem?_eq_getElem hol
      refine ⟨arr[off], v, ?_, ?_, hk⟩
      ·simp [rdR, hp, asAddr, ldn_none hl, hcell]
      ·have := h3 off v hvv
       exact .o (.c (by simpa [Array.getD_eq_getD_getElem?, hol] using this))
     ·exact hk.elim
    | some k =>
     simp only [fl_eq] at hk
     have hlen := nbq hk.1
     have hlen' : k ≤ cs.length - off := by
      have := hlen
      simp at this
      omega
     have hrun := ldn_some (w := w) hl ⟨bb, off, none⟩ ((List.range k).map fun j => arr.getD (off + j) undef) (by simp) (fun j v hv => by
      rw [add_off, cell_arr h1]
      simp only [List.getElem?_map, Option.map_eq_some_iff] at hv
      obtain ⟨j', hj', rfl⟩ := hv
      have hjl : j < k := by
       have := (List.getElem?_eq_some_iff.1 hj').1
       simpa using this
      rw [List.getElem?_range hjl] at hj'
      cases hj'
      have hol : off + j < arr.size := by omega
      rw [Array.getD_eq_getD_getElem?, Array.getElem?_eq_getElem hol]; rfl)
     refine ⟨_, _, by simp [rdR, hp, asAddr, hrun]; rfl, .o (.ag _ _ (by simpa using hlen.symm) (fun j y hy => ?_)), hk.2⟩
     have hj : j < k := by rw [← hlen]; exact (List.getElem?_eq_some_iff.1 hy).1
     rw [List.getElem?_take, if_pos hj, List.getElem?_drop] at hy
     have hol : off + j < arr.size := by rw [h2]; exact (List.getElem?_eq_some_iff.1 hy).1
     have := h3 (off + j) y hy
     simpa [Array.getD_eq_getD_getElem?, hol, hj] using this
   ·exact hk.elim
  ·exact hk.elim
theorem rvs_ok (hC : Conc E n G ρ t h a w) : ∀ (rs : List ResultVar) (xs : List RV), rs.mapM (rvP P) = some xs → ∀ (K : List V → Prop), rvs xs t h K →
  ∃ (us : List Value) (vs : List V), (rs.mapM (rdR a)).run P w = .ok us w ∧
   us.length = vs.length ∧ Vals G w ρ (fun i => us.getD i undef) vs ∧ K vs := by
 intro rs
 induction rs with
 | nil =>
  intro xs hm K hk
  simp at hm
  subst hm
  exact ⟨[], [], by simp, rfl, fun i x hi => by simp at hi, hk⟩
 | cons r rs ih =>
  intro xs hm K hk
  simp only [List.mapM_cons, Option.bind_eq_bind, Option.bind_eq_some_iff, Option.pure_def, Option.some.injEq] at hm
  obtain ⟨x, hx, ys, hys, rfl⟩ := hm
  simp only [rvs_cons] at hk
  obtain ⟨u, v, g1, g2, g3⟩ := rvx_ok hC hx hk
  obtain ⟨us, vs, k1, k2, k3, k4⟩ := ih ys hys _ g3
  refine ⟨u :: us, v :: vs, ?_, by simp [k2], fun i x hi => ?_, k4⟩
  ·rw [List.mapM_cons, Sem.run_bind, g1, Result.andThen_ok, Sem.run_bind, k1, Result.andThen_ok]
   rfl
  ·cases i with
   | zero => simp at hi; subst hi; simpa using g2
   | succ i => simpa using k3 i x (by simpa using hi)
theorem resP_eq {fn : Func} : resP P fn = fn.results.toList.mapM (rvP P) := by
 unfold resP
 congr 1
theorem results_eq {fn : Func} : results fn a.tmps = (do let vs ← fn.results.mapM (rdR a); pure (if h : vs.size = 1 then vs[0] else .tuple vs)) := by
 unfold results
 congr 1
theorem gs_ini : ∀ (vs : List V) (k i : Nat), gs (ini k vs) i = if k ≤ i then (vs[i - k]?).getD .un else .un := by
 intro vs
 induction vs with
 | nil => intro k i; simp [ini, gs_nil]
 | cons v vs ih =>
  intro k i
  simp only [ini, gs_cons]
  by_cases e : k = i
  ·subst e; simp
  ·rw [nbeq e, cond_false, ih]
   by_cases hk : k + 1 ≤ i
   ·rw [if_pos hk, if_pos (by omega)]
    have : i - k = (i - (k + 1)) + 1 := by omega
    rw [this, List.getElem?_cons_succ]
   ·rw [if_neg hk, if_neg (by omega)]
theorem Ok.ds {d1 d2 : List Deferred} {m : List Nat} (hO : Ok { E with ds := d1, ms := m } G w ρ h) : Ok { E with ds := d2, ms := m } G w ρ h :=
 ⟨hO.hr, hO.gm, hO.go, hO.oo, hO.frame, hO.size, hO.os, hO.tape, hO.out, hO.hand, hO.hl, hO.mks⟩
theorem marks_ok {F : Fence} {N : Nat} {fn : Func} {tmps : Array Value} {R : Ending → World → Prop} {u : FrameMode} (hu : u ≠ .run) : ∀ (l : List Nat) (w : World), l.Nodup → (∀ r ∈ l, E.w.heap.size ≤ r) → Ok { E with ds := [], ms := l } G w ρ h →
  (∀ w', Ok { E with ds := [], ms := [] } G w' ρ h → (∀ v x, Rep2 G w ρ v x → Rep2 G w' ρ v x) → LeavesIn F N P fn tmps R [] u w') → LeavesInM F N P fn tmps R (l.map mkD) u w := by
 intro l
 induction l with
 | nil => intro w _ _ hO hk; exact hk w hO fun _ _ h => h
 | cons r l ih =>
  intro w hn hs hO hk
  obtain ⟨hn1, hn2⟩ := List.nodup_cons.1 hn
  obtain ⟨g1, g2, _⟩ := hO.mks r (by simp)
  refine ⟨hu, .inl ⟨r, _, rfl, run_takeDeferred g1, ih _ hn2 (fun x hx => hs x (by simp [hx])) (hO.putr (.inr ⟨_, g1⟩) (hs r (by simp)) g2 (fun x hx => ⟨by simp [hx], fun e => hn1 (e ▸ hx)⟩) _) fun w' hO' hr => hk w' hO' fun v x hv => hr v x (rep_putr hv g2 _)⟩⟩
theorem sat_intro {f : Nat} {fn : Func} {c : Code} {x : C} {rs : List RV} {keep : Bool} {vs : List V} {K : Out → H → Prop} (hm : P.follows .mixedOrders = true) (hf : P.funcs[f]? = some fn) (hname : (fn.name != "runtime.NumGoroutine") = true) (hb : fn.body = some c)
  (hx : comp P fn.ntmps c = some x) (hr : resP P fn = some rs) (hl : Nat.ble vs.length fn.ntmps = true) (hk : fx (Sat P) ow keep x rs vs h K) : Sat P f vs h K := by
 have hl := Nat.le_of_ble_eq_true hl
 refine .inl ⟨by simp [callOk, hf, hname, hb], fun G w ρ as hR hlen hv => in_calls (r := none) (N := 0) (callsIn_of_wp_marks hf hb (Fw.fn none f) ?_)⟩
 have hC : Conc ⟨w, G, ρ, h, [], []⟩ fn.ntmps G ρ (ini 0 vs) h { tmps := as.toArray ++ Array.replicate (fn.ntmps - as.toArray.size) undef, defers := [] } w := by
  refine ⟨Ok.refl hR, rfl, by simp; omega, fun i => ?_⟩
  rw [gs_ini, if_pos (Nat.zero_le _), Nat.sub_zero]
  cases hc : vs[i]? with
  | none => exact .k (.un _)
  | some v =>
   have hil : i < vs.length := (List.getElem?_eq_some_iff.1 hc).1
   have := hv i v hc
   rw [List.getD_eq_getElem?_getD, List.getElem?_eq_getElem (by omega)] at this
   rw [Array.getD_eq_getD_getElem?, Array.getElem?_append_left (by simp; omega)]
   simpa [hlen, hil] using this
 have hE : (⟨w, G, ρ, h, [], []⟩ : Ent).ρ.length = (⟨w, G, ρ, h, [], []⟩ : Ent).h.length := hR.len
 have norm : ∀ (G' : Nat → Prop) (ρ' : List Value) (t' : T) (h' : H) (a' : Act) (w' : World), Conc ⟨w, G, ρ, h, [], []⟩ fn.ntmps G' ρ' t' h' a' w' → (rvs rs t' h' fun vs => fin keep h.length vs t' h' K) →
   ∃ v, (results fn a'.tmps).run P w' = .ok v w' ∧ ∃ (G'' : Nat → Prop) (ρ'' : List Value) (h'' : H) (out : Out), Ok ⟨w, G, ρ, h, [], []⟩ G'' w' ρ'' h'' ∧ RepO G'' w' ρ'' (.returned v) out ∧ K out h'' := by
  intro G' ρ' t' h' a' w' hC' hk'
  obtain ⟨us, vs', g1, g2, g3, g4⟩ := rvs_ok hC' _ _ (resP_eq ▸ hr) _ hk'
  obtain ⟨G'', ρ'', h'', us', k1, k2, k3, k4, k5⟩ := fin_ok hC' hE g3 g4
  have harr : (fn.results.mapM (rdR a')).run P w' = .ok us.toArray w' := by
   rw [← Array.toArray_toList (xs := fn.results), List.mapM_toArray]
   rw [map_eq_pure_bind, Sem.run_bind, g1, Result.andThen_ok]
   rfl
  refine ⟨if h : us.toArray.size = 1 then us.toArray[0] else .tuple us.toArray, ?_, G'', ρ'', h'', _, k1, ?_, k5⟩
  ·rw [results_eq, Sem.run_bind, harr, Result.andThen_ok]
   rfl
  ·by_cases h1 : us.length = 1
   ·obtain ⟨u, rfl⟩ := List.length_eq_one_iff.1 h1
    obtain ⟨v, rfl⟩ := List.length_eq_one_iff.1 (show us'.length = 1 by omega)
    exact ⟨u, rfl, by simpa using k4 0 v rfl⟩
   ·rw [dif_neg (by simpa using h1)]
    have : outs us' = .ret (.tu us') := by
     match us', (show us'.length ≠ 1 by omega) with
     | [], _ => rfl
     | [_], h => exact absurd rfl h
     | _ :: _ :: _, _ => rfl
    rw [this]
    refine ⟨_, rfl, .tu _ _ (by simp; omega) (fun i x hi => ?_)⟩
    have h2 := k4 i x hi
    have h3 : ntu x = true := (List.all_eq_true.1 k3) x (List.mem_of_getElem? hi)
    have h4 : (us.toArray).getD i undef = us.getD i undef := by
     rw [Array.getD_eq_getD_getElem?, List.getD_eq_getElem?_getD]; simp
    rw [h4]
    simp only at h2
    generalize us.getD i undef = u at h2
    cases h2 with
    | o h => exact h
    | tu => simp [ntu] at h3
 refine wpIn_mono (wx_okM ow hm hE c x hx G ρ _ h _ w _ hC hk) fun e a' w' hq => ?_
 obtain ⟨E1, ⟨l, rfl, hnd, hsz⟩, _, G', ρ', t', h', hC', hk'⟩ := hq
 have hdf : a'.defers = l.map mkD := by rw [hC'.df]; simp
 have hn : l.Nodup := by simpa using hnd List.nodup_nil
 have hO : Ok { (⟨w, G, ρ, h, [], []⟩ : Ent) with ds := [], ms := l } G' w' ρ' h' := by
  have := hC'.ok
  simp only [List.append_nil] at this
  exact this.ds
 have go : ∀ w'', Ok { (⟨w, G, ρ, h, [], []⟩ : Ent) with ds := [], ms := [] } G' w'' ρ' h' → (∀ v x, Rep2 G' w' ρ' v x → Rep2 G' w'' ρ' v x) → Conc ⟨w, G, ρ, h, [], []⟩ fn.ntmps G' ρ' t' h' { a' with defers := [] } w'' :=
  fun w'' h1 h2 => ⟨h1, rfl, hC'.sz, fun i => h2 _ _ (hC'.tm i)⟩
 cases e with
 | normal =>
  show LeavesInM _ _ _ _ _ _ a'.defers _ _
  rw [hdf]
  exact marks_ok (u := .returning) (fun e => by cases e) l w' hn hsz hO fun w'' h1 h2 => norm G' ρ' t' h' { a' with defers := [] } w'' (go w'' h1 h2) hk'
 | ret =>
  show LeavesInM _ _ _ _ _ _ a'.defers _ _
  rw [hdf]
  exact marks_ok (u := .returning) (fun e => by cases e) l w' hn hsz hO fun w'' h1 h2 => norm G' ρ' t' h' { a' with defers := [] } w'' (go w'' h1 h2) hk'
 | panic ch =>
  obtain ⟨v, v', rfl, hv', hk'⟩ := hk'
  show LeavesInM _ _ _ _ _ _ a'.defers _ _
  rw [hdf]
  refine marks_ok (u := .panicking [{ v := v', recovered := false }]) (fun e => by cases e) l w' hn hsz hO fun w'' h1 h2 => ?_
  obtain ⟨G'', ρ'', h'', us', k1, k2, k3, k4, k5⟩ := fin_ok (go w'' h1 h2) hE (U := fun _ => v') (vs := [v]) (fun i x hi => by
   cases i with
   | zero => simp at hi; subst hi; exact h2 _ _ hv'
   | succ i => simp at hi) hk'
  obtain ⟨u, rfl⟩ := List.length_eq_one_iff.1 (show us'.length = 1 by simpa using k2)
  exact ⟨G'', ρ'', h'', .pan u, k1, ⟨v', rfl, k4 0 u rfl⟩, k5⟩
 | exit id => exact hk'.elim
 | goto l => exact hk'.elim
 | outgrown => exact hk'.elim
end
end Go.Vx
namespace Go.Vx
theorem sp_intro {b : Bool} {p q : Prop} (h1 : b = true → p) (h2 : b = false → q) : sp b p q := by
 cases b
 ·exact h2 rfl
 ·exact h1 rfl
theorem sp_t {b : Bool} {p q : Prop} (h : b = true) (hp : p) : sp b p q := by subst h; exact hp
theorem sp_f {b : Bool} {p q : Prop} (h : b = false) (hq : q) : sp b p q := by subst h; exact hq
theorem outs_eq {x y : V} (h : x = y) : Out.ret x = Out.ret y := by rw [h]
def keepT : List Nat → T → T
 | _, [] => []
 | ws, p :: r => bif has ws p.1 then keepT ws r else p :: keepT (p.1 :: ws) r
theorem keepT_subs (t : T) : ∀ (r : T) (ws : List Nat), (∀ i, has ws i = false → gs t i = gs r i) → subs t (keepT ws r) := by
 intro r
 induction r with
 | nil => intro ws _; exact trivial
 | cons p r ih =>
  intro ws hw
  simp only [keepT]
  cases hp : has ws p.1 with
  | true =>
   refine ih ws fun i hi => ?_
   rw [hw i hi, gs_cons, nbeq (fun e => by rw [e] at hp; rw [hp] at hi; cases hi)]
   rfl
  | false =>
   refine ⟨?_, ih _ fun i hi => ?_⟩
   ·rw [hw _ hp, gs_cons, Nat.beq_refl]
    exact wkb_self _
   ·simp only [has, List.any_cons, Bool.or_eq_false_iff] at hi
    have hne : p.1 ≠ i := fun e => by
     have := hi.1
     rw [e, Nat.beq_refl] at this
     cases this
    have hi2 : has ws i = false := hi.2
    rw [hw i hi2, gs_cons, nbeq hne]
    rfl
theorem subs_append {t : T} : ∀ {a b : T}, subs t a → subs t b → subs t (a ++ b)
 | [], _, _, h => h
 | _ :: _, _, h1, h2 => ⟨h1.1, subs_append h1.2 h2⟩
theorem lx_intro {t : T} {h : H} {n0 : Nat} {body : T → H → (Ex → T → H → Prop) → Prop} {K : Ex → T → H → Prop}
  (hx : ∃ (A : Type) (I : A → Prop) (S1 : A → T) (S2 : A → H) (m : A → Nat) (x : A),
   (I x ∧ subs t (S1 x) ∧ subh h (S2 x) ∧ lts n0 (S1 x) (S2 x) = true) ∧ ∀ x, I x → body (S1 x) (S2 x) fun e t h => match e with
    | .nrm => fl (msO h) fun l => stls l t h fun t h => ∃ y, I y ∧ m y < m x ∧ subs t (S1 y) ∧ subh h (S2 y) ∧ lts n0 (S1 y) (S2 y) = true
    | .ext i => K (.ext i) t h
    | .ret => K .ret t h
    | .pan v => K (.pan v) t h) : lx n0 body t h K := by
 unfold lx
 exact hx
theorem loop_use {t : T} {h : H} {n0 : Nat} {body : T → H → (Ex → T → H → Prop) → Prop} {K : Ex → T → H → Prop} (ws : List Nat) {A : Type} (I : A → Prop) (f : A → T) (g : A → H) (m : A → Nat) (x : A)
  (h1 : I x) (h2 : subs t (f x)) (h3 : subh h (g x)) (h4 : lts n0 (f x ++ keepT ws t) (g x) = true)
  (hr : ∀ x, I x → fl (f x ++ keepT ws t) fun s => body s (g x) fun e t' h' => match e with
    | .nrm => fl (msO h') fun l => stls l t' h' fun t' h' => ∃ y, I y ∧ m y < m x ∧ subs t' (f y ++ keepT ws t) ∧ subh h' (g y) ∧ lts n0 (f y ++ keepT ws t) (g y) = true
    | .ext i => K (.ext i) t' h'
    | .ret => K .ret t' h'
    | .pan v => K (.pan v) t' h') :
  lx n0 body t h K := by
 unfold lx
 refine ⟨A, I, fun a => f a ++ keepT ws t, g, m, x, ⟨h1, subs_append h2 (keepT_subs t t ws fun _ _ => rfl), h3, h4⟩, fun a ha => ?_⟩
 have := hr a ha
 rwa [fl_eq] at this
theorem wkb_of {a b : V} (h : a = b) : wkb a b := h ▸ wkb_self a
theorem wkB_of {a b : B} (h : a = b) : wkB a b := by
 subst h
 cases a <;> first | exact rfl | exact Or.inl rfl
theorem loop_use2 {t : T} {h : H} {n0 : Nat} {body : T → H → (Ex → T → H → Prop) → Prop} {K : Ex → T → H → Prop} (rest : T) {A : Type} (I : A → Prop) (f : A → T) (g : A → H) (m : A → Nat) (x : A)
  (h1 : I x) (h2 : subs t (f x ++ rest)) (h3 : subh h (g x)) (h4 : lts n0 (f x ++ rest) (g x) = true)
  (hr : ∀ x, I x → fl (f x ++ rest) fun s => body s (g x) fun e t' h' => match e with
    | .nrm => fl (msO h') fun l => stls l t' h' fun t' h' => ∃ y, I y ∧ m y < m x ∧ subs t' (f y ++ rest) ∧ subh h' (g y) ∧ lts n0 (f y ++ rest) (g y) = true
    | .ext i => K (.ext i) t' h'
    | .ret => K .ret t' h'
    | .pan v => K (.pan v) t' h') :
  lx n0 body t h K := by
 unfold lx
 refine ⟨A, I, fun a => f a ++ rest, g, m, x, ⟨h1, h2, h3, h4⟩, fun a ha => ?_⟩
 have := hr a ha
 rwa [fl_eq] at this
end Go.Vx
namespace Go.Vx
abbrev iS (d : Nat) (x : X) : I := ⟨some d, x, none⟩
abbrev iG (d : Nat) (x : X) (g : Nat) (b : Bool) : I := ⟨some d, x, some (g, b)⟩
abbrev iN (x : X) : I := ⟨none, x, none⟩
abbrev iM (d m : Nat) : I := ⟨some d, .mv (.s m), none⟩
abbrev iL (d m : Nat) : I := ⟨some d, .ld (.s m) none, none⟩
abbrev iD (d m k : Nat) : I := ⟨some d, .ld (.s m) (some k), none⟩
abbrev iF (d m k : Nat) : I := ⟨some d, .fa (.s m) k, none⟩
abbrev iC (d m : Nat) : I := ⟨some d, .nc (.s m), none⟩
abbrev iz : V := .d (.int .i64 0)
abbrev sz : V := .d (.str [])
class ZA (p : Prop) (q : outParam Prop) : Prop where
  go : q → p
instance {p q : Prop} : ZA (bsn p q) q := ⟨bsn_data⟩
instance {K : List Nat × Nat → Prop} : ZA (fro K) (K ([], 0)) := ⟨fro_nil⟩
instance {p q : Prop} : ZA (cfo p q) p := ⟨cfo_old⟩
instance {p q : Prop} : ZA (lnt p q) p := ⟨lnt_old⟩
instance {p q : Prop} : ZA (cuo p q) p := ⟨cuo_old⟩
theorem za {p q : Prop} [h : ZA p q] (k : q) : p := h.go k
class ZL (p : Prop) (a b : outParam Prop) : Prop where
  go : a → b → p
instance {a b : Prop} : ZL (a ∧ b) a b := ⟨And.intro⟩
instance {a b q : Prop} : ZL ((a ∧ b) ∨ q) a b := ⟨fun x y => .inl ⟨x, y⟩⟩
theorem zl {p a b : Prop} [h : ZL p a b] (y : b) (x : a := by (repeat' apply And.intro) <;> first | rfl | omega | (unfold inR; omega) | (simp; done) | (unfold inR; simp at *; omega) | (simp at *; omega) | (intros; contradiction)) : p := h.go x y
class ZF (p : Prop) (a b : outParam Prop) : Prop where
  go : a → b → p
instance {a b : Out} {h k : H} : ZF (a = b ∧ h = k) (a = b) (h = k) := ⟨And.intro⟩
theorem zf {p a b : Prop} [h : ZF p a b] (x : a := by exact rfl) (y : b := by exact rfl) : p := h.go x y
theorem zg {p a b : Prop} [h : ZF p a b] (x : a) (y : b := by exact rfl) : p := h.go x y
theorem zt {x : Bool} {a b : Prop} (y : a) (h : x = true := by first | (simp; done) | (simp; omega) | (simp at *; omega) | (exact beq_eq_false_iff_ne.2 (by (try dsimp only); omega)) | (exact beq_iff_eq.2 (by (try dsimp only); omega))) : sp x a b := sp_t h y
theorem zu {x : Bool} {a b : Prop} (y : b) (h : x = false := by first | (simp; done) | (simp; omega) | (simp at *; omega) | (exact beq_eq_false_iff_ne.2 (by (try dsimp only); omega)) | (exact beq_iff_eq.2 (by (try dsimp only); omega))) : sp x a b := sp_f h y
end Go.Vx
