/- A drawn row of operations is walked. Conditions: none; lemmas on the definitions before. -/
import Derived.Test.YtjpgfgajkjhonaaGreatDoorQTAN
namespace Go.Vx
section
variable {P : Program} {E : Ent} {n : Nat} {h : H} {K : Ex → T → H → Prop} {Q : Exit → Act → World → Prop} (ow : Nat → Bool)
def agree (is : List I) (vs : List V) (L : Nat → Prop) (t tL : T) : Prop :=
 ∀ s, (∃ (k : Nat) (i : I), L k ∧ is[k]? = some i ∧ i.d = some s ∧ vs[k]? = some (gs tL s)) ∨ ((∀ (k : Nat) (i : I), L k → is[k]? = some i → i.d ≠ some s) ∧ gs tL s = gs t s)
def hagr (rs : List R) (L : Nat → Prop) (h hL : H) : Prop :=
 hL.length = h.length ∧ ∀ i, (∃ (k : Nat) (r : R) (w : Nat × B), L k ∧ rs[k]? = some r ∧ w ∈ r.ws ∧ w.1 = i ∧ hL[i]? = some w.2 ∧ ∀ (k' : Nat) (r' : R) (w' : Nat × B), L k' → k < k' → rs[k']? = some r' → w' ∈ r'.ws → w'.1 ≠ i) ∨ ((∀ (k : Nat) (r : R) (w : Nat × B), L k → rs[k]? = some r → w ∈ r.ws → w.1 ≠ i) ∧ hL[i]? = h[i]?)
theorem wr_get {a : H} {r : R} (hn : (r.ws.map (·.1)).Nodup) (hl : ∀ w ∈ r.ws, w.1 < a.length) : (wr a r).length = a.length ∧ (∀ w ∈ r.ws, (wr a r)[w.1]? = some w.2) ∧ ∀ i, (∀ w ∈ r.ws, w.1 ≠ i) → (wr a r)[i]? = a[i]? := zset r.ws a hn hl
theorem fold_last (n : Nat) : ∀ (rs : List R), (∀ (j : Nat) (r : R), rs[j]? = some r → (r.ws.map (·.1)).Nodup ∧ ∀ w ∈ r.ws, w.1 < n) →
  ∀ a : H, a.length = n → (rs.foldl wr a).length = n ∧ ∀ i, (∃ (k : Nat) (r : R) (w : Nat × B), rs[k]? = some r ∧ w ∈ r.ws ∧ w.1 = i ∧ (rs.foldl wr a)[i]? = some w.2 ∧ ∀ (k' : Nat) (r' : R) (w' : Nat × B), k < k' → rs[k']? = some r' → w' ∈ r'.ws → w'.1 ≠ i) ∨ ((∀ (k : Nat) (r : R) (w : Nat × B), rs[k]? = some r → w ∈ r.ws → w.1 ≠ i) ∧ (rs.foldl wr a)[i]? = a[i]?) := by
 intro rs
 induction rs with
 | nil => intro _ a ha; exact ⟨ha, fun i => .inr ⟨by simp, rfl⟩⟩
 | cons r rs ih =>
  intro hlt a ha
  obtain ⟨n1, n2⟩ := hlt 0 r rfl
  obtain ⟨w1, w2, w3⟩ := wr_get n1 (fun w hw => by rw [ha]; exact n2 w hw)
  obtain ⟨g1, g2⟩ := ih (fun j r hj => hlt (j + 1) r (by simpa using hj)) (wr a r) (by rw [w1, ha])
  refine ⟨g1, fun i => ?_⟩
  rcases g2 i with ⟨k, r', w, k1, k2, k3, k4, k5⟩ | ⟨k1, k2⟩
  ·refine .inl ⟨k + 1, r', w, by simpa using k1, k2, k3, k4, fun k' r2 w2 hk hr hw => ?_⟩
   cases k' with
   | zero => omega
   | succ k' => exact k5 k' r2 w2 (by omega) (by simpa using hr) hw
  ·rw [List.foldl_cons, k2]
   by_cases hi : ∃ w ∈ r.ws, w.1 = i
   ·obtain ⟨w, hw, rfl⟩ := hi
    refine .inl ⟨0, r, w, rfl, hw, rfl, w2 w hw, fun k' r2 w2 hk hr2 hw2 => ?_⟩
    cases k' with
    | zero => omega
    | succ k' => exact k1 k' r2 w2 (by simpa using hr2) hw2
   ·have hi : ∀ w ∈ r.ws, w.1 ≠ i := fun w hw e => hi ⟨w, hw, e⟩
    refine .inr ⟨fun k r' w' hk hw => ?_, w3 i hi⟩
    cases k with
    | zero => simp at hk; subst hk; exact hi w' hw
    | succ k => exact k1 k r' w' (by simpa using hk) hw
theorem hagr_fold {h : H} {rs : List R} {j : Nat} (hlt : ∀ (k : Nat) (r : R), k < j → rs[k]? = some r → (r.ws.map (·.1)).Nodup ∧ ∀ w ∈ r.ws, w.1 < h.length) : hagr rs (· < j) h ((rs.take j).foldl wr h) := by
 have get : ∀ (k : Nat) (r : R), (rs.take j)[k]? = some r ↔ k < j ∧ rs[k]? = some r := by
  intro k r
  rw [List.getElem?_take]
  by_cases hk : k < j
  ·simp [hk]
  ·simp [hk]
 obtain ⟨g1, g2⟩ := fold_last h.length (rs.take j) (fun k r hk => hlt k r ((get k r).1 hk).1 ((get k r).1 hk).2) h rfl
 refine ⟨g1, fun i => ?_⟩
 rcases g2 i with ⟨k, r, w, k1, k2, k3, k4, k5⟩ | ⟨k1, k2⟩
 ·exact .inl ⟨k, r, w, ((get k r).1 k1).1, ((get k r).1 k1).2, k2, k3, k4, fun k' r' w' hk' hlt' hr' hw' => k5 k' r' w' hlt' ((get k' r').2 ⟨hk', hr'⟩) hw'⟩
 ·exact .inr ⟨fun k r w hk hr hw => k1 k r w ((get k r).2 ⟨hk, hr⟩) hw, k2⟩
structure Drw (P : Program) (n : Nat) (ops : Array Oper) (is : List I) (bs : List (List Nat)) (m : Nat) (lo : Nat) (rs : List R) (t : T) (h : H) : Prop where
 il : is.length = ops.size
 ml : m ≤ ops.size
 ci : ∀ (j : Nat) (o : Oper), ops[j]? = some o → ∃ i, is[j]? = some i ∧ compI P n ops o = some i
 cl : ∀ (j : Nat) (o : Oper), ops[j]? = some o → ∃ b, bs[j]? = some b ∧ (∀ k ∈ deps o, k ∈ b) ∧ ∀ k ∈ b, k ∈ deps o ∨ ∃ k' ∈ deps o, ∃ b' : List Nat, bs[k']? = some b' ∧ k ∈ b'
 lt : ∀ (j : Nat) (b : List Nat), bs[j]? = some b → ∀ k ∈ b, k < j
 fu : ∀ (j : Nat) (b : List Nat), m ≤ j → bs[j]? = some b → ∀ i, i < j → i ∈ b
 dj : ∀ (i j : Nat) (x y : I) (bi bj : List Nat), i < m → j < m → i ≠ j → is[i]? = some x → is[j]? = some y → bs[i]? = some bi → bs[j]? = some bj →
  (∀ s, x.d = some s → y.d ≠ some s) ∧ ∀ s, y.d = some s → s ∈ slots x.o ++ gslot x.g → j ∈ bi ∨ i ∈ bj
 vq : ∀ (j : Nat) (x : I), j < m → is[j]? = some x → ∃ r tj acj, rs[j]? = some r ∧ rok ow P lo x tj acj r ∧ agree is (rs.map (·.v)) (· < j) t tj ∧ hagr rs (· < j) h acj
 rl : rs.length = m
 cf : ∀ (j k : Nat) (r r' : R) (b : List Nat), rs[j]? = some r → rs[k]? = some r' → bs[k]? = some b → j < k → cfl r r' → j ∈ b
 kc : ∀ (j : Nat) (r : R), rs[j]? = some r → ∀ id ∈ r.kl, (∀ s, id ∉ id2 (gs t s)) ∧ (∀ (i : Nat) (b : B), h[i]? = some b → i ∉ r.rd → id ∉ idB b) ∧
  ∀ (k : Nat) (r' : R) (x : I), k < j → rs[k]? = some r' → is[k]? = some x → (∀ d, x.d = some d → id ∉ id2 r'.v) ∧ ∀ w ∈ r'.ws, w.1 ∉ r.rd → id ∉ idB w.2
theorem gone_fold : ∀ (ids : List Nat) (h : H), (ids.map fun i => (i, B.no)).foldl (fun a w => a.set w.1 w.2) h = gone ids h
 | [], h => by
  refine List.ext_getElem? fun i => ?_
  rw [gone_get]; simp
 | j :: ids, h => by
  rw [List.map_cons, List.foldl_cons, gone_fold ids]
  refine List.ext_getElem? fun i => ?_
  simp only [gone_get, List.mem_cons, List.getElem?_set]
  by_cases e1 : i = j
  ·subst e1
   by_cases hl : i < h.length
   ·simp [hl]
   ·simp [hl]
  ·simp only [e1, false_or, show ¬ j = i from fun e => e1 e.symm, if_false]
theorem borc_cg {h1 h2 : H} {x : V} (h : ∀ i ∈ idc x, get? h1 i = get? h2 i) : borc h1 x = borc h2 x := by
 cases x <;> first | rfl | (simp only [borc, h _ (List.mem_singleton.2 rfl)])
theorem bor0_cg {h1 h2 : H} {x : V} (h : ∀ i ∈ id0 x, get? h1 i = get? h2 i) : bor0 h1 x = bor0 h2 x := by
 by_cases hx : ∃ g c, x = V.fc g c
 ·obtain ⟨F, c, rfl⟩ := hx
  simp only [id0, List.mem_flatMap] at h
  simp only [bor0, List.map_congr_left (fun x hx => borc_cg fun i hi => h i ⟨x, hx, hi⟩)]
 ·obtain ⟨_, e2, _⟩ := k0 (fun g c e => hx ⟨g, c, e⟩)
  have e : ∀ h : H, bor0 h x = borc h x := fun h => by cases x <;> first | rfl | exact absurd ⟨_, _, rfl⟩ hx
  rw [e, e]
  exact borc_cg (by rw [← e2]; exact h)
theorem bor1_cg {h1 h2 : H} {x : V} (h : ∀ i ∈ id1 x, get? h1 i = get? h2 i) : bor1 h1 x = bor1 h2 x := by
 by_cases hx : ∃ c, x = V.ag c
 ·obtain ⟨c, rfl⟩ := hx
  simp only [id1, List.mem_flatMap] at h
  simp only [bor1, List.map_congr_left (fun x hx => bor0_cg fun i hi => h i ⟨x, hx, hi⟩)]
 ·obtain ⟨_, e2, _⟩ := k1 (fun c e => hx ⟨c, e⟩)
  have e : ∀ h : H, bor1 h x = bor0 h x := fun h => by cases x <;> first | rfl | exact absurd ⟨_, rfl⟩ hx
  rw [e, e]
  exact bor0_cg (by rw [← e2]; exact h)
theorem bor2_cg {h1 h2 : H} {x : V} (h : ∀ i ∈ id2 x, get? h1 i = get? h2 i) : bor2 h1 x = bor2 h2 x := by
 by_cases hx : ∃ c, x = V.tu c
 ·obtain ⟨c, rfl⟩ := hx; rfl
 ·obtain ⟨_, e2, _⟩ := k2 (fun c e => hx ⟨c, e⟩)
  have e : ∀ h : H, bor2 h x = bor1 h x := fun h => by cases x <;> first | rfl | exact absurd ⟨_, rfl⟩ hx
  rw [e, e]
  exact bor1_cg (by rw [← e2]; exact h)
theorem mvd {G G' : Nat → Prop} {ρ ρ' : List Value} {t : T} {a : Act} {w w' : World} {hL : H} {ns : List B} {nf : List Nat} {lo : Nat} (hC : Conc E n G ρ t hL a w) (hC' : Conc E n G' ρ' t (hL ++ ns) a w') (hlo : E.ρ.length ≤ lo) (hE : E.ρ.length = E.h.length) (hl : nf.length = ns.length) (hnd : nf.Nodup)
  (hnw : ∀ i ∈ nf, hL[i]? = some .nw) (hnf : ∀ i ∈ nf, lo ≤ i) (hρ : ρ.length = hL.length) :
  ∃ ρ2, Conc E n G' ρ2 t ((nf.zip (ns.map (rnB fun k => if k < hL.length then k else (get? nf (k - hL.length)).getD 0))).foldl (fun a w => a.set w.1 w.2) hL) a w' ∧ ∀ (v : Value) (x : V), Rep2 G' w' ρ' v x → Rep2 G' w' ρ2 v (rn2 (fun k => if k < hL.length then k else (get? nf (k - hL.length)).getD 0) x) := by
 refine hC'.move (nf := nf) (f := fun k => if k < hL.length then k else (get? nf (k - hL.length)).getD 0) hl hnd hnw (fun i hi => Nat.le_trans hlo (hnf i hi)) (by rw [hE]; exact hC.ok.hl) hC.ok.hl (fun k hk => by simp only [hk, if_true]) (fun k i hk => by
   simp only [show ¬ (hL.length + k < hL.length) by omega, if_false, get?_eq]
   rw [show hL.length + k - hL.length = k by omega, hk, Option.getD_some]) (fun s i hi => ?_) (fun i b hb j hj => ?_)
 ·have := (hC.tm s).lt i hi
  omega
 ·have hil : i < ρ.length := by rw [hρ]; exact (List.getElem?_eq_some_iff.1 hb).1
  have := (hC.ok.hr.rep i _ b (List.getElem?_eq_getElem hil) hb).lt j hj
  omega
theorem qstep {G : Nat → Prop} {ρ : List Value} {t : T} {a : Act} {w : World} {o : Oper} {nxt : Act → World → Prop} {ops : Array Oper} {i : I} {lo : Nat} {hL : H} {r : R} (hC : Conc E n G ρ t hL a w) (hlo : E.ρ.length ≤ lo) (hE : E.ρ.length = E.h.length) (hi : compI P n ops o = some i) {ac : H} (hq : rok ow P lo i t ac r)
  (hlen : hL.length = ac.length) (hfoot : ∀ id, (id ∈ r.rd ∨ id ∈ wids r) → hL[id]? = ac[id]?) (hkl : ∀ id ∈ r.kl, (∀ s, id ∉ id2 (gs t s)) ∧ ∀ (j : Nat) (b : B), hL[j]? = some b → j ∉ r.rd → id ∉ idB b)
  (hnx : ∀ (a' : Act) (w' : World) (G' : Nat → Prop) (ρ' : List Value), Conc E n G' ρ' (putv i.d r.v t) (wr hL r) a' w' → nxt a' w') :
  if Region.wanted o (yielded ops a.tmps) then o.wp P a w nxt Q else nxt (a.put o.dst undef) w := by
 obtain ⟨hx, hd, hlt, hg⟩ := compI_ok hi
 rcases hq with ⟨h1, h2, hq⟩ | hq | hq | hq | hq | hq | hq
 ·skip
  have hwr : wr hL r = hL := by simp [wr, h1]
  rw [hwr] at hnx
  have hM : More hL (keepH r.rd ac) := by
   intro id b hb hn
   rw [get?_eq] at hb ⊢
   simp only [keepH, List.getElem?_map, Option.map_eq_some_iff] at hb
   obtain ⟨p, hp, he⟩ := hb
   rw [List.getElem?_zipIdx] at hp
   cases hh : ac[id]? with
   | none => rw [hh] at hp; cases hp
   | some x =>
    rw [hh] at hp
    simp only [Option.map_some, Option.some.injEq, Nat.zero_add] at hp
    subst hp
    simp only at he
    cases hc : has r.rd id <;> rw [hc] at he
    ·exact absurd he.symm hn
    ·rw [hfoot id (.inl (has_iff.1 hc)), hh]
     exact congrArg some he
  obtain ⟨v, ws, rd, kl⟩ := r
  simp only at h1 h2 hq hM hnx
  replace hq : qok ow P i t hL v := qok.more ow hq hM
  have run : Qt ow P i.o t hL v → o.wp P a w nxt Q := by
   intro hk
   refine op_all ow hC (fun v' w' G' ρ' t' h' u hC' hv ⟨e1, e2, e3⟩ => ?_) (fun v' w' G' ρ' t' h' u _ _ hf => hf.elim) hx (hk t hL (fun _ _ => rfl) fun _ _ h _ => h)
   subst e1 e2 e3
   rw [hd] at hnx
   exact hnx _ _ _ _ (hC'.putv o.dst hlt hv)
  have pass : v = .ud → nxt (a.put o.dst undef) w := by
   intro hv
   subst hv
   rw [hd] at hnx
   exact hnx _ _ _ _ (hC.putv o.dst hlt rep_ud)
  cases hgo : o.guard with
  | none =>
   rw [hgo] at hg
   simp only at hg
   unfold qok at hq
   rw [hg] at hq
   rw [if_pos (by simp [Region.wanted, hgo])]
   exact run hq
  | some p =>
   obtain ⟨j, x⟩ := p
   rw [hgo] at hg
   obtain ⟨d, hd1, hg⟩ := hg
   unfold qok at hq
   rw [hg] at hq
   rcases hq with ⟨b, hb, h1, h2⟩ | ⟨hb, h1⟩
   ·rw [wanted_bool hC hgo hd1 hb]
    by_cases hbx : b = x
    ·rw [if_pos (by simp [hbx])]
     exact run (h1 hbx)
    ·rw [if_neg (by simp [hbx])]
     exact pass (h2 hbx)
   ·rw [wanted_ud hC hgo hd1 hb]
    exact pass h1
 ·skip
  obtain ⟨x, y, m, id, off, cs, rfl, h1, h2, ⟨c1, c2, c3⟩, rfl⟩ := hq
  simp only at hd
  have hgo : o.guard = none := by
   cases hgo : o.guard with
   | none => rfl
   | some p => rw [hgo] at hg; obtain ⟨d, _, hg⟩ := hg; cases hg
  rw [if_pos (by simp [Region.wanted, hgo])]
  have h2' : get? hL id = some (.cells cs) := by rw [get?_eq, hfoot id (.inr (by simp [wids])), ← get?_eq]; exact h2
  refine op_all ow hC (K := fun _ t' h' => t' = t ∧ h' = hL.set id (.cells (lay cs off (gv t y).cs))) (KP := fun _ _ _ => False) (fun v' w' G' ρ' t' h' z hC' hv ⟨e1, e2⟩ => ?_) (fun v' w' G' ρ' t' h' u _ _ hf => hf.elim) hx ?_
  ·subst e1 e2
   rw [← hd]
   exact hnx _ _ _ _ hC'
  ·simp only [opx, h1, h2', fl_eq]
   exact ⟨⟨c1, c2, c3⟩, trivial, trivial⟩
 ·skip
  obtain ⟨d, id, bb, vv, oo, rfl, h3, h5, hnwo, rfl⟩ := hq
  simp only at hd hx
  have hgo : o.guard = none := by
   cases hgo : o.guard with
   | none => rfl
   | some p => rw [hgo] at hg; obtain ⟨d, _, hg⟩ := hg; cases hg
  rw [if_pos (by simp [Region.wanted, hgo])]
  have hnw : hL[id]? = some .nw := by rw [hfoot id (.inr (by simp [wids])), ← get?_eq]; exact h3
  have hul : id < ρ.length := by rw [hC.ok.hr.len]; exact (List.getElem?_eq_some_iff.1 hnw).1
  rcases hnwo with ⟨cs, rfl, rfl, rfl⟩ | ⟨pl, rfl, rfl, rfl⟩
  ·obtain ⟨ty, ho, hz⟩ := compO_al (hx.resolve_right fun e => by cases e)
   obtain ⟨i, z, hi, hz0, z1, _, z3⟩ := zer_ok (G := G) (w := w) (ρ := ρ) hz
   have hg := Grw.alloc w (.cells z.cells ty)
   have hC1 := hC.grow hg (fun _ h => h) (fun _ h => .inl h)
   have hC2 := hC1.place hnw (by omega) (hd := .pointer (some ⟨w.heap.size, 0, none⟩)) (x := .cells cs) ⟨w.heap.size, z.cells, ty, rfl, heap_alloc_new w _, z1, fun j y hj => (RepC.k (z3 j y hj).1).mono (fun _ h => h) (fun b hb => hg.old b (hC.ok.hr.gl b hb)) (fun _ _ => rfl)⟩ (fun b hb => by
    simp only [bks, blk, gh, Option.toList_some, List.append_nil, List.mem_singleton] at hb
    subst hb
    refine ⟨hC.ok.size, fun h => ?_, fun h => ?_⟩
    ·have := hC.ok.hr.gl _ h; omega
    ·have := hC.ok.hr.ownlt h; omega)
   have h6 := hC2.putv o.dst hlt (x := .p id 0) (v := .pointer (some ⟨w.heap.size, 0, none⟩)) (.k (.p id 0 w.heap.size (by rw [List.getElem?_set, if_pos rfl, if_pos hul])))
   have h7 := hnx _ _ G _ (by simp only [wr, List.foldl_cons, List.foldl_nil, hd]; exact h6)
   exact wp_val (w' := w.alloc (.cells z.cells ty)) (v' := .pointer (some ⟨w.heap.size, 0, none⟩)) (by simp [execOp, ho, Instr.alloc, zeroValue, typeInfo, hi, hz0, newVar, newRow]) h7
  ·obtain ⟨ty, ho⟩ := compO_mm (hx.resolve_right fun e => by cases e)
   have hg := Grw.alloc w (.map #[] 0)
   have hC1 := hC.grow hg (fun _ h => h) (fun _ h => .inl h)
   have hC2 := hC1.place hnw (by omega) (hd := .map (some w.heap.size)) (x := mmB pl) (by
    exact mmB_new pl (heap_alloc_new w _)) (fun b hb => by
    rw [bks, mmB_gh] at hb
    simp only [blk, Option.toList_some, List.append_nil, List.mem_singleton] at hb
    subst hb
    refine ⟨hC.ok.size, fun h => ?_, fun h => ?_⟩
    ·have := hC.ok.hr.gl _ h; omega
    ·have := hC.ok.hr.ownlt h; omega)
   have h6 := hC2.putv o.dst hlt (x := .mp id) (v := .map (some w.heap.size)) (.k (.mp id w.heap.size (by rw [List.getElem?_set, if_pos rfl, if_pos hul])))
   have h7 := hnx _ _ G _ (by simp only [wr, List.foldl_cons, List.foldl_nil, hd]; exact h6)
   refine wp_val (w' := w.alloc (.map #[] 0)) (v' := .map (some w.heap.size)) ?_ h7
   simp only [execOp, ho]
   exact run_execv (by simp [Instr.makeMap])
 ·skip
  obtain ⟨f, args, ids, r0, ns, nf, hgi, hof, hown, hids, hchk, hos, hS, hl, hne, hnf, hnd, rfl⟩ := hq
  have hgo : o.guard = none := by
   cases hgo : o.guard with
   | none => rfl
   | some p => rw [hgo] at hg; obtain ⟨d, _, hg⟩ := hg; rw [hgi] at hg; cases hg
  rw [if_pos (by simp [Region.wanted, hgo])]
  rw [hof] at hx
  generalize hvs : (args.map fun x => clean1 (gv t x)) = vs at *
  simp only at hfoot hkl hnx
  have hch := hchk
  simp only [chk, Bool.and_eq_true, List.all_eq_true] at hch
  obtain ⟨⟨hch1, hch2⟩, hch3⟩ := hch
  have hin : ∀ i ∈ ids, i < hL.length := fun i hi => by
   have := (hch2 i hi).1.1
   rw [hlen]
   exact (Nat.blt_eq ..).mp this
  have hsame : ∀ i ∈ ids, get? hL i = get? ac i := fun i hi => by rw [get?_eq, get?_eq]; exact hfoot i (.inl hi)
  have hclo : ∀ i ∈ ids, ∀ b, hL[i]? = some b → ∀ j ∈ idB b, j ∈ ids := fun i hi b hb j hj => by
   have := (hch2 i hi).2
   rw [← hsame i hi, get?_eq, hb, Option.getD_some] at this
   exact has_iff.1 (this j hj)
  have hreach : reach hL 100 (vs.flatMap id2) [] = ids := by
   rw [← hids]
   exact reach_congr 100 _ _ (fun i hi => hsame i (by rw [← hids]; exact hi))
  have hchk' : chk hL ids (vs.flatMap id2) = true := by
   simp only [chk, Bool.and_eq_true, List.all_eq_true]
   refine ⟨⟨hch1, fun i hi => ?_⟩, hch3⟩
   have := hch2 i hi
   rw [hsame i hi, hlen]
   exact this
  have hbl : (ids.map fun i => rnB (pos ids) ((get? hL i).getD .no)) = ids.map fun i => rnB (pos ids) ((get? ac i).getD .no) := List.map_congr_left fun i hi => by rw [hsame i hi]
  have hrow : rowsOf hL ids = rowsOf ac ids := List.filter_congr fun i hi => by rw [hsame i hi]
  have hnd' := nodup_of hch1
  have hback : back ids (home hL.length ids) (kilH (rowsOf ac ids) hL) ((ids.map fun i => rnB (pos ids) ((get? hL i).getD .no)) ++ ns) = hL ++ ns.map (rnB (home hL.length ids)) := by
   have hkl' : (kilH (rowsOf ac ids) hL).length = hL.length := kilH_len _ _
   refine List.ext_getElem? fun i => ?_
   by_cases hil : i < hL.length
   ·rw [List.getElem?_append_left hil]
    by_cases hi : i ∈ ids
    ·rw [back_mid hi (by omega) (by simp)]
     have hp := pos_lt hi
     rw [List.getElem?_append_left (by simpa using hp), List.getElem?_map, pos_get hi]
     simp only [Option.map_some, get?_eq]
     rw [List.getElem?_eq_getElem hil, Option.getD_some, rnB_comp, rnB_fix fun j hj => ?_]
     have hjm := hclo i hi _ (List.getElem?_eq_getElem hil) j hj
     rw [home_lt (pos_get hjm)]
    ·rw [back_old hi (by omega)]
     exact kilH_clean _ _ _ fun j hj b hb => (hkl j hj).2 i b hb hi
   ·rw [back_new (by omega), hkl', List.getElem?_append_right (by rw [List.length_map]; omega), List.length_map, List.getElem?_append_right (by omega), List.getElem?_map]
    congr 2
    omega
  have hgm : (fun k => (fun k => if k < hL.length then k else (get? nf (k - hL.length)).getD 0) (home hL.length ids k)) = gm ids nf := by
   funext k
   simp only [gm]
   cases hk : get? ids k with
   | some i =>
    rw [home_lt (by rw [← get?_eq]; exact hk), Option.getD_some, if_pos (hin i (List.mem_of_getElem? (by rw [← get?_eq]; exact hk)))]
   | none =>
    have hkl : ids.length ≤ k := by
     rw [get?_eq] at hk
     exact List.getElem?_eq_none_iff.1 hk
    rw [home_ge hkl, Option.getD_none, if_neg (by omega)]
    congr 2
    omega
  refine op_all ow hC (K := fun v' t' h' => v' = rn2 (home hL.length ids) r0 ∧ (∀ s, gs t' s = gs t s) ∧ h' = hL ++ ns.map (rnB (home hL.length ids))) (KP := fun _ _ _ => False) (fun v' w' G' ρ' t' h' z hC' hv ⟨e1, e2, e3⟩ => ?_) (fun v' w' G' ρ' t' h' u _ _ hf => hf.elim) hx ?_
  ·subst e1 e3
   have hC2 := hC'.congr (fun s => (e2 s).symm)
   have hht : ∀ s, ∀ i ∈ id2 (gs t s), i < hL.length := fun s i hi => by
    have := (hC.tm s).lt i hi
    rwa [hC.ok.hr.len] at this
   have hhh : ∀ (i : Nat) (b : B), hL[i]? = some b → ∀ j ∈ idB b, j < hL.length := fun i b hb j hj => by
    have hil : i < ρ.length := by rw [hC.ok.hr.len]; exact (List.getElem?_eq_some_iff.1 hb).1
    have := (hC.ok.hr.rep i _ b (List.getElem?_eq_getElem hil) hb).lt j hj
    rwa [hC.ok.hr.len] at this
   obtain ⟨ρ2, hC3, hval⟩ := hC2.move (nf := nf) (f := fun k => if k < hL.length then k else (get? nf (k - hL.length)).getD 0) (by simpa using hl) hnd (fun i hi => by
     have hw : i ∈ wids (⟨rn2 (gm ids nf) r0, nf.zip (ns.map (rnB (gm ids nf))), ids, rowsOf ac ids⟩ : R) := by
      have e : wids (⟨rn2 (gm ids nf) r0, nf.zip (ns.map (rnB (gm ids nf))), ids, rowsOf ac ids⟩ : R) = nf := List.map_fst_zip (by rw [List.length_map]; omega)
      rw [e]; exact hi
     rw [hfoot i (.inr hw), ← get?_eq]
     exact (hnf i hi).2) (fun i hi => Nat.le_trans hlo (hnf i hi).1) (by rw [hE]; exact hC.ok.hl) hC.ok.hl (fun k hk => by simp only [hk, if_true]) (fun k i hk => by
      simp only [show ¬ (hL.length + k < hL.length) by omega, if_false, get?_eq]
      rw [show hL.length + k - hL.length = k by omega, hk, Option.getD_some]) hht hhh
   have e4 : (ns.map (rnB (home hL.length ids))).map (rnB fun k => if k < hL.length then k else (get? nf (k - hL.length)).getD 0) = ns.map (rnB (gm ids nf)) := by
    rw [List.map_map]
    refine List.map_congr_left fun b _ => ?_
    simp only [Function.comp, rnB_comp]
    rw [← hgm]
   rw [e4] at hC3
   have hv2 := hval _ _ hv
   rw [rn2_comp, hgm] at hv2
   rw [hd] at hnx
   exact hnx _ _ _ _ (hC3.putv o.dst hlt hv2)
  ·have hcx : callx (Sat P) f vs t hL (fun v' t' h' => v' = rn2 (home hL.length ids) r0 ∧ (∀ s, gs t' s = gs t s) ∧ h' = hL ++ ns.map (rnB (home hL.length ids))) (fun _ _ _ => False) := by
    unfold callx
    cases hv : vs.flatMap id2 with
    | nil =>
     rw [hv] at hids
     have hids0 : ids = [] := by rw [← hids]; rfl
     subst hids0
     have hm : vs.map (rn2 (pos [])) = vs := map_fix fun x hx => rn2_id (by
      rw [List.flatMap_eq_nil_iff] at hv
      exact hv x hx)
     rw [hm] at hS
     refine Sat.mono hS fun out h' ⟨k1, k2⟩ => ?_
     subst k1 k2
     cases h' with
     | nil => simp at hne
     | cons b ns =>
      simp only [flb_eq]
      have hh : home hL.length [] = fun i => hL.length + i := by
       funext k
       simp [home, get?]
      rw [hh]
      exact ⟨rfl, fun _ => trivial, rfl⟩
    | cons i is =>
     rw [hv] at hreach hchk'
     simp only [fl_eq, flb_eq, fln_eq, hreach]
     refine ⟨hchk', ?_⟩
     rw [hbl]
     refine Sat.mono hS fun out h' ⟨k1, k2⟩ => ?_
     subst k1 k2
     rw [hrow, kils_eq, ← hbl, hback]
     exact ⟨rfl, kils_clean _ _ fun i hi s => (hkl i hi).1 s, rfl⟩
   simp only [opx, fl_eq, hvs, hown, cond_false]
   unfold gcall
   split
   ·exact hcx
   ·refine .inr (lnt_old ?_)
    rw [hos]
    exact hcx
 ·skip
  obtain ⟨f, args, r0, ns, nf, hgi, hof, ⟨hown, hne⟩, hS, hl, hns, hr0, hnf, hnd, rfl⟩ := hq
  have hgo : o.guard = none := by
   cases hgo : o.guard with
   | none => rfl
   | some p => rw [hgo] at hg; obtain ⟨d, _, hg⟩ := hg; rw [hgi] at hg; cases hg
  rw [if_pos (by simp [Region.wanted, hgo])]
  rw [hof] at hx
  generalize hvs : (args.map fun x => clean1 (gv t x)) = vs at *
  simp only at hfoot hnx
  have hb : vs.map (bor2 hL) = vs.map (bor2 ac) := List.map_congr_left fun x hx => bor2_cg fun i hi => by
   rw [get?_eq, get?_eq]
   exact hfoot i (.inl (List.mem_flatMap.2 ⟨x, hx, hi⟩))
  rw [← hb] at hS
  refine op_all ow hC (K := fun v' t' h' => v' = rn2 (fun k => hL.length + k) r0 ∧ t' = t ∧ h' = hL ++ ns) (KP := fun _ _ _ => False) (fun v' w' G' ρ' t' h' z hC' hv ⟨e1, e2, e3⟩ => ?_) (fun v' w' G' ρ' t' h' u _ _ hf => hf.elim) hx ?_
  ·subst e1 e2 e3
   obtain ⟨ρ2, hC3, hval⟩ := mvd hC hC' hlo hE hl hnd (fun i hi => by
    have hw : i ∈ wids (⟨rn2 (fun k => (get? nf k).getD 0) r0, nf.zip ns, vs.flatMap id2, []⟩ : R) := by
     have e : wids (⟨rn2 (fun k => (get? nf k).getD 0) r0, nf.zip ns, vs.flatMap id2, []⟩ : R) = nf := List.map_fst_zip (by omega)
     rw [e]; exact hi
    rw [hfoot i (.inr hw), ← get?_eq]
    exact (hnf i hi).2) (fun i hi => (hnf i hi).1) (by rw [hC.ok.hr.len])
   have e4 : ns.map (rnB fun k => if k < hL.length then k else (get? nf (k - hL.length)).getD 0) = ns := map_fix fun b hb => rnB_fix fun j hj => by
    have h1 := List.all_eq_true.1 hns b hb
    cases b <;> first | (cases h1; done) | cases hj
   rw [e4] at hC3
   have hv2 := hval _ _ hv
   rw [rn2_comp] at hv2
   have e5 : (fun i => if hL.length + i < hL.length then hL.length + i else (get? nf (hL.length + i - hL.length)).getD 0) = fun k => (get? nf k).getD 0 := by
    funext k
    rw [if_neg (by omega), Nat.add_sub_cancel_left]
   rw [e5] at hv2
   rw [hd] at hnx
   exact hnx _ _ _ _ (hC3.putv o.dst hlt hv2)
  ·simp only [opx, fl_eq, hvs, hown, cond_false]
   unfold gcall
   split
   ·exact absurd ‹_› hne
   ·refine .inr (lnt_new ⟨r0, ns, hS, by rw [hns, hr0]; rfl, ?_⟩)
    rw [fl_eq]
    exact ⟨rfl, rfl, rfl⟩
 ·skip
  obtain ⟨f, args, r0, ns, nf, ids, hgi, hof, hids, ⟨hnd0, hrw⟩, hS, hl, hge, hnf, hnd, rfl⟩ := hq
  have hgo : o.guard = none := by
   cases hgo : o.guard with
   | none => rfl
   | some p => rw [hgo] at hg; obtain ⟨d, _, hg⟩ := hg; rw [hgi] at hg; cases hg
  rw [if_pos (by simp [Region.wanted, hgo])]
  rw [hof] at hx
  simp only at hfoot hnx
  obtain ⟨c, ho, hcf, hf5, ha⟩ := compO_cf (hx.resolve_right fun e => by cases e)
  obtain ⟨g1, g2⟩ := args_ok hC _ _ _ ha
  have hrun : callOk P f = true → (execOp a.eval o).run P w = .ok (.enter f (c.args.map a.eval)) w := fun hok => by
   have := callFunc_ok (P := P) (w := w) (as := c.args.map a.eval) hok
   simp [execOp, ho, resolve, hcf, Act.eval, Deferred.ofValue, invoke, this]
  have hU : ∀ (i : Nat) (x : V), (args.map fun x => clean1 (gv t x))[i]? = some x → Rep2 G w ρ ((c.args.map a.eval).getD i undef) x := by
   intro i x hx
   rw [List.getElem?_map] at hx
   cases hc : args[i]? with
   | none => rw [hc] at hx; cases hx
   | some y =>
    rw [hc] at hx; cases hx
    have := g2 i y hc
    rw [List.getD_eq_getElem?_getD, List.getElem?_map, Array.getElem?_toList] at this
    rw [Array.getD_eq_getD_getElem?, Array.getElem?_map]
    exact clean1_ok this
  generalize hvs : (args.map fun x => clean1 (gv t x)) = vs at *
  have hsz : (c.args.map a.eval).size = vs.length := by rw [← hvs]; simp [g1]
  have hsame : ∀ i ∈ ids, get? hL i = get? ac i := fun i hi => by rw [get?_eq, get?_eq]; exact hfoot i (.inl hi)
  have hbl : (ids.map fun i => rnB (pos ids) ((get? hL i).getD .no)) = ids.map fun i => rnB (pos ids) ((get? ac i).getD .no) := List.map_congr_left fun i hi => by rw [hsame i hi]
  rw [← hbl] at hS
  have hrw' : ∀ i ∈ ids, ∃ z rs, hL[i]? = some (.rows z rs) := fun i hi => by
   obtain ⟨z, rs, e⟩ := hrw i hi
   exact ⟨z, rs, by rw [← get?_eq, hsame i hi]; exact e⟩
  refine take_call hC hf5 hrun hsz hU (fun x hx j hj => by rw [← hids]; exact List.mem_flatMap.2 ⟨x, hx, hj⟩) hnd0 hrw' hS (fun b hb k hk => hge k (List.mem_append_left _ (List.mem_flatMap.2 ⟨b, hb, hk⟩))) (fun k hk => hge k (List.mem_append_right _ hk)) fun v w' G' ρ' hC' hv => ?_
  have hdis : ∀ i ∈ nf, i ∉ ids := fun i hi h => by
   obtain ⟨z, rs, e⟩ := hrw i h
   rw [(hnf i hi).2] at e
   cases e
  have hwid : ∀ i ∈ nf, i ∈ wids (⟨rn2 (gt ids.length nf) r0, (ids.map fun i => (i, B.no)) ++ nf.zip (ns.map (rnB (gt ids.length nf))), ids, []⟩ : R) := fun i hi => by
   have e : wids (⟨rn2 (gt ids.length nf) r0, (ids.map fun i => (i, B.no)) ++ nf.zip (ns.map (rnB (gt ids.length nf))), ids, []⟩ : R) = ids ++ nf := tk_fst hl
   rw [e]
   exact List.mem_append_right _ hi
  have hgl := gone_len ids hL
  have hht : ∀ s, ∀ i ∈ id2 (gs t s), i < (gone ids hL).length := fun s i hi => by
   have := (hC.tm s).lt i hi
   rw [hgl]
   rwa [hC.ok.hr.len] at this
  have hhh : ∀ (i : Nat) (b : B), (gone ids hL)[i]? = some b → ∀ j ∈ idB b, j < (gone ids hL).length := fun i b hb j hj => by
   rw [gone_get] at hb
   split at hb
   ·rw [Option.map_eq_some_iff] at hb
    obtain ⟨_, _, rfl⟩ := hb
    cases hj
   ·have hil : i < ρ.length := by rw [hC.ok.hr.len]; exact (List.getElem?_eq_some_iff.1 hb).1
    have := (hC.ok.hr.rep i _ b (List.getElem?_eq_getElem hil) hb).lt j hj
    rw [hgl]
    rwa [hC.ok.hr.len] at this
  obtain ⟨ρ2, hC3, hval⟩ := hC'.move (nf := nf) (f := fun k => if k < hL.length then k else (get? nf (k - hL.length)).getD 0) (by simpa using hl) hnd (fun i hi => by
    rw [gone_get, if_neg (hdis i hi), hfoot i (.inr (hwid i hi)), ← get?_eq]
    exact (hnf i hi).2) (fun i hi => Nat.le_trans hlo (hnf i hi).1) (by rw [hgl, hE]; exact hC.ok.hl) (by rw [hgl]; exact hC.ok.hl) (fun k hk => by rw [hgl] at hk; simp only [hk, if_true]) (fun k i hk => by
     rw [hgl]
     simp only [show ¬ (hL.length + k < hL.length) by omega, if_false, get?_eq]
     rw [show hL.length + k - hL.length = k by omega, hk, Option.getD_some]) hht hhh
  have cg : ∀ k, ids.length ≤ k → (if hL.length + k - ids.length < hL.length then hL.length + k - ids.length else (get? nf (hL.length + k - ids.length - hL.length)).getD 0) = gt ids.length nf k := fun k hk => by
   rw [if_neg (by omega), gt]
   congr 2
   omega
  have e4 : (ns.map (rnB fun k => hL.length + k - ids.length)).map (rnB fun k => if k < hL.length then k else (get? nf (k - hL.length)).getD 0) = ns.map (rnB (gt ids.length nf)) := by
   rw [List.map_map]
   refine List.map_congr_left fun b hb => ?_
   simp only [Function.comp, rnB_comp]
   exact rnB_cg fun k hk => cg k (hge k (List.mem_append_left _ (List.mem_flatMap.2 ⟨b, hb, hk⟩)))
  rw [e4] at hC3
  have hv2 := hval _ _ hv
  rw [rn2_comp, rn2_cg fun k hk => cg k (hge k (List.mem_append_right _ hk))] at hv2
  have e6 : wr hL (⟨rn2 (gt ids.length nf) r0, (ids.map fun i => (i, B.no)) ++ nf.zip (ns.map (rnB (gt ids.length nf))), ids, []⟩ : R) = (nf.zip (ns.map (rnB (gt ids.length nf)))).foldl (fun a w => a.set w.1 w.2) (gone ids hL) := by
   simp only [wr, List.foldl_append]
   rw [gone_fold]
  rw [e6, hd] at hnx
  exact hnx _ _ _ _ (hC3.putv o.dst hlt hv2)
 ·skip
  obtain ⟨d, id, z, zero, m, parts, ds, rfl, h1, h2, h3, h4, rfl⟩ := hq
  simp only at hd hx
  have hgo : o.guard = none := by
   cases hgo : o.guard with
   | none => rfl
   | some p => rw [hgo] at hg; obtain ⟨d, _, hg⟩ := hg; cases hg
  rw [if_pos (by simp [Region.wanted, hgo])]
  simp only at hfoot hnx
  refine op_all ow hC (K := fun v' t' h' => v' = .os hL.length ∧ t' = t ∧ h' = hL ++ [.rows z (chunk z m ds)]) (KP := fun _ _ _ => False) (fun v' w' G' ρ' t' h' u hC' hv ⟨e1, e2, e3⟩ => ?_) (fun v' w' G' ρ' t' h' u _ _ hf => hf.elim) hx ?_
  ·subst e1 e2 e3
   obtain ⟨ρ2, hC3, hval⟩ := mvd hC hC' (nf := [id]) hlo hE rfl (by simp) (fun i hi => by
    rw [List.mem_singleton.1 hi, hfoot id (.inr (by simp [wids])), ← get?_eq]
    exact h1) (fun i hi => by rw [List.mem_singleton.1 hi]; exact h2) (by rw [hC.ok.hr.len])
   have hv2 := hval _ _ hv
   have e5 : rn2 (fun k => if k < hL.length then k else (get? [id] (k - hL.length)).getD 0) (.os hL.length) = .os id := by
    simp [rn2, rn1, rn0, rnc, get?]
   rw [e5] at hv2
   have h6 := hC3.putv o.dst hlt hv2
   rw [hd] at hnx
   exact hnx _ _ _ _ h6
  ·simp only [opx, fl_eq]
   refine ⟨h3, h4 _ _ _ ?_⟩
   refine bsn_own ?_
   rw [fnat_eq]
   exact ⟨rfl, rfl, rfl⟩
section
variable {ops : Array Oper} {is : List I} {bs : List (List Nat)} {m lo : Nat} {rs : List R} {vs : List V} {t : T}
theorem agree_uniq (D : Drw ow P n ops is bs m lo rs t h) {L L' : Nat → Prop} {t1 t2 : T} (h1 : agree is vs L t t1) (h2 : agree is vs L' t t2) (hL : ∀ k, L k → k < m) (hL' : ∀ k, L' k → k < m) (s : Nat)
  (e1 : ∀ (k : Nat) (i : I), L k → is[k]? = some i → i.d = some s → L' k) (e2 : ∀ (k : Nat) (i : I), L' k → is[k]? = some i → i.d = some s → L k) : gs t1 s = gs t2 s := by
 have wr : ∀ (k k' : Nat) (i i' : I), k < m → k' < m → is[k]? = some i → is[k']? = some i' → i.d = some s → i'.d = some s → k = k' := by
  intro k k' i i' hk hk' hi hi' hd hd'
  by_cases hne : k = k'
  ·exact hne
  ·have hlk : k < ops.size := by have := D.ml; omega
   have hlk' : k' < ops.size := by have := D.ml; omega
   obtain ⟨b, hb, _⟩ := D.cl k _ (Array.getElem?_eq_getElem hlk)
   obtain ⟨b', hb', _⟩ := D.cl k' _ (Array.getElem?_eq_getElem hlk')
   exact absurd hd' ((D.dj k k' i i' b b' hk hk' hne hi hi' hb hb').1 s hd)
 rcases h1 s with ⟨k, i, a1, a2, a3, a4⟩ | ⟨a1, a2⟩ <;> rcases h2 s with ⟨k', i', b1, b2, b3, b4⟩ | ⟨b1, b2⟩
 ·have := wr k k' i i' (hL k a1) (hL' k' b1) a2 b2 a3 b3
  subst this
  rw [a4] at b4
  exact Option.some.inj b4
 ·exact absurd a3 (b1 k i (e1 k i a1 a2 a3) a2)
 ·exact absurd b3 (a1 k' i' (e2 k' i' b1 b2 b3) b2)
 ·rw [a2, b2]
theorem ws_uniq {r : R} (hn : (r.ws.map (·.1)).Nodup) {w w' : Nat × B} (h1 : w ∈ r.ws) (h2 : w' ∈ r.ws) (he : w.1 = w'.1) : w = w' := by
 revert hn h1 h2
 generalize r.ws = l
 induction l with
 | nil => intro _ h1; cases h1
 | cons p l ih =>
  intro hn h1 h2
  simp only [List.map_cons, List.nodup_cons] at hn
  rcases List.mem_cons.1 h1 with e1 | k1 <;> rcases List.mem_cons.1 h2 with e2 | k2
  ·rw [e1, e2]
  ·exact absurd (List.mem_map.2 ⟨w', k2, by rw [← he, e1]⟩) hn.1
  ·exact absurd (List.mem_map.2 ⟨w, k1, by rw [he, e2]⟩) hn.1
  ·exact ih hn.2 k1 k2
theorem Drw.nd (D : Drw ow P n ops is bs m lo rs t h) (k : Nat) (r : R) (hk : rs[k]? = some r) : (r.ws.map (·.1)).Nodup := by
 have hkm : k < m := by rw [← D.rl]; exact (List.getElem?_eq_some_iff.1 hk).1
 obtain ⟨r2, tk, ack, e1, e2, _⟩ := D.vq k _ hkm (List.getElem?_eq_getElem (by rw [D.il]; have := D.ml; omega))
 rw [hk] at e1; cases e1
 exact (rok.ws ow e2).1
variable (E K n is bs m rs t ops h) in
def RInv (listed : Array Bool) (a : Act) (w : World) : Prop :=
  listed.size = ops.size ∧ (∀ (j : Nat) (b : List Nat), listed.getD j false = true → bs[j]? = some b → ∀ k ∈ b, listed.getD k false = true) ∧
  (((∀ j, listed.getD j false = true → j < m) ∧ ∃ G ρ tL hL, Conc E n G ρ tL hL a w ∧ agree is (rs.map (·.v)) (fun j => listed.getD j false = true) t tL ∧ hagr rs (fun j => listed.getD j false = true) h hL) ∨
   ∃ k, m ≤ k ∧ k ≤ ops.size ∧ (∀ j, listed.getD j false = true ↔ j < k) ∧ ∃ G ρ t h, Conc E n G ρ t h a w ∧ rx (Sat P) ow (is.drop k) t h K)
theorem deps_mem {o : Oper} {k : Nat} : k ∈ deps o ↔ ∃ e ∈ o.after, Region.binds .any e = true ∧ e.on = k := by
 simp only [deps, List.mem_map, List.mem_filter, Array.mem_toList_iff]
 constructor
 ·rintro ⟨e, ⟨h1, h2⟩, h3⟩; exact ⟨e, h1, h2, h3⟩
 ·rintro ⟨e, h1, h2, h3⟩; exact ⟨e, ⟨h1, h2⟩, h3⟩
theorem getD_lt {l : Array Bool} {j : Nat} (hj : l.getD j false = true) : j < l.size := by
 rcases Nat.lt_or_ge j l.size with h | h
 ·exact h
 ·simp [Array.getElem?_eq_none h] at hj
theorem getD_un {l : Array Bool} {j : Nat} (hj : j < l.size) (hf : ¬ l.getD j false = true) : l.getD j true = false := by
 simp [hj] at hf ⊢; exact hf
theorem all_done (D : Drw ow P n ops is bs m lo rs t h) {listed : Array Bool} (hs : listed.size = ops.size) (hr : Region.ready .any ops listed = []) : ∀ j, j < ops.size → listed.getD j false = true := by
 intro j
 induction j using Nat.strongRecOn with
 | _ j ih =>
  intro hj
  by_cases hl : listed.getD j false = true
  ·exact hl
  ·exfalso
   have : j ∈ Region.ready .any ops listed := by
    rw [mem_ready]
    refine ⟨getD_un (by omega) hl, ops[j], Array.getElem?_eq_getElem hj, fun e he hb => ?_⟩
    obtain ⟨b, hb1, hb2, _⟩ := D.cl j _ (Array.getElem?_eq_getElem hj)
    have := D.lt j b hb1 e.on (hb2 _ (deps_mem.2 ⟨e, he, hb, rfl⟩))
    exact ih _ this (by omega)
   rw [hr] at this
   cases this
theorem count_set {l : Array Bool} {j : Nat} (hj : l.getD j true = false) : (l.setIfInBounds j true).toList.count false < l.toList.count false := by
 have hl : j < l.size := by
  rcases Nat.lt_or_ge j l.size with h | h
  ·exact h
  ·simp [Array.getElem?_eq_none h] at hj
 have hv : l[j] = false := by simpa [hl] using hj
 rw [Array.toList_setIfInBounds, List.count_set (by simpa using hl)]
 have hm : false ∈ l.toList := by rw [Array.mem_toList_iff, ← hv]; exact Array.getElem_mem hl
 have := List.count_pos_iff.2 hm
 have e : ((true : Bool) == false) = false := rfl
 simp only [Array.getElem_toList, hv, BEq.rfl, if_true, e, Bool.false_eq_true, if_false]
 omega
theorem hagr_uniq (D : Drw ow P n ops is bs m lo rs t h) {L L' : Nat → Prop} {h1 h2 : H} (g1 : hagr rs L h h1) (g2 : hagr rs L' h h2) (hL : ∀ k, k < m → L k) (hL' : ∀ k, k < m → L' k) : h1 = h2 := by
 refine List.ext_getElem? fun i => ?_
 have lt : ∀ (k : Nat) (r : R), rs[k]? = some r → k < m := fun k r hk => by
  rw [← D.rl]; exact (List.getElem?_eq_some_iff.1 hk).1
 rcases g1.2 i with ⟨k, r, w, a1, a2, a3, a4, a5, a6⟩ | ⟨a1, a2⟩ <;> rcases g2.2 i with ⟨k', r', w', b1, b2, b3, b4, b5, b6⟩ | ⟨b1, b2⟩
 ·rcases Nat.lt_trichotomy k k' with e | e | e
  ·exact absurd b4 (a6 k' r' w' (hL k' (lt k' r' b2)) e b2 b3)
  ·subst e
   rw [a2] at b2; cases b2
   rw [a5, b5, ws_uniq (D.nd ow k r a2) a3 b3 (a4.trans b4.symm)]
  ·exact absurd a4 (b6 k r w (hL' k (lt k r a2)) e a2 a3)
 ·exact absurd a4 (b1 k r w (hL' k (lt k r a2)) a2 a3)
 ·exact absurd b4 (a1 k' r' w' (hL k' (lt k' r' b2)) b2 b3)
 ·rw [a2, b2]
theorem drawn_ok (hlo : E.ρ.length ≤ lo) (hE : E.ρ.length = E.h.length) (D : Drw ow P n ops is bs m lo rs t h) {tR : T} {hR : H} (hK : rx (Sat P) ow (is.drop m) tR hR K) (hA : agree is (rs.map (·.v)) (· < m) t tR) (hH : hagr rs (· < m) h hR) : ∀ (fuel : Nat) (listed : Array Bool) (a : Act) (w : World),
  listed.toList.count false ≤ fuel → RInv (P := P) E n h K ow ops is bs m rs t listed a w → wpAny P .any ops (QK E n K) fuel listed a w := by
 have turn : ∀ (listed : Array Bool) (a : Act) (w : World), RInv (P := P) E n h K ow ops is bs m rs t listed a w → (∀ j, j < m → listed.getD j false = true) →
   ∃ k, m ≤ k ∧ k ≤ ops.size ∧ (∀ j, listed.getD j false = true ↔ j < k) ∧ ∃ G ρ t h, Conc E n G ρ t h a w ∧ rx (Sat P) ow (is.drop k) t h K := by
  intro listed a w ⟨h1, h2, h3⟩ hall
  rcases h3 with ⟨g1, G, ρ, tL, hL, hC, g2, g3⟩ | h3
  ·have := hagr_uniq ow D g3 hH hall (fun _ h => h)
   subst this
   refine ⟨m, Nat.le_refl _, D.ml, fun j => ⟨g1 j, hall j⟩, G, ρ, tR, hL, hC.congr fun s => ?_, hK⟩
   exact agree_uniq ow D hA g2 (fun _ h => h) g1 s (fun k _ hk _ _ => hall k hk) (fun k _ hk _ _ => g1 k hk)
  ·exact h3
 have done : ∀ (listed : Array Bool) (a : Act) (w : World), RInv (P := P) E n h K ow ops is bs m rs t listed a w → Region.ready .any ops listed = [] → QK E n K .normal a w := by
  intro listed a w hI hr
  have hall := all_done ow D hI.1 hr
  obtain ⟨k, k1, k2, k3, G, ρ, t', h', hC, hk⟩ := turn listed a w hI (fun j hj => hall j (by have := D.ml; omega))
  have : k = ops.size := by
   rcases Nat.lt_or_ge k ops.size with h | h
   ·have := (k3 k).1 (hall k h); omega
   ·omega
  subst this
  rw [List.drop_eq_nil_of_le (by rw [D.il]; omega)] at hk
  exact ⟨G, ρ, t', h', hC, hk⟩
 intro fuel
 induction fuel with
 | zero =>
  intro listed a w hc hI
  have hall : ∀ j, j < ops.size → listed.getD j false = true := fun j hj => by
   have hj' : j < listed.size := by rw [hI.1]; exact hj
   have h0 : listed.toList.count false = 0 := by omega
   rw [List.count_eq_zero] at h0
   cases hv : listed[j] with
   | true => simp [hj', hv]
   | false => exact absurd (by rw [Array.mem_toList_iff, ← hv]; exact Array.getElem_mem hj') h0
  have hr : Region.ready .any ops listed = [] := by
   rw [List.eq_nil_iff_forall_not_mem]
   intro j hj
   obtain ⟨h1, o, h2, _⟩ := mem_ready.1 hj
   have h3 := hall j (Array.getElem?_eq_some_iff.1 h2).1
   have hj' := getD_lt h3
   simp [hj'] at h1 h3
   rw [h3] at h1
   cases h1
  exact ⟨hr, done listed a w hI hr⟩
 | succ fuel ih =>
  intro listed a w hc hI
  refine ⟨done listed a w hI, fun j hj => ?_⟩
  obtain ⟨hun, o, ho, hdep⟩ := mem_ready.1 hj
  have hjs : j < ops.size := (Array.getElem?_eq_some_iff.1 ho).1
  have hjl : j < listed.size := by rw [hI.1]; exact hjs
  have hnl : ¬ listed.getD j false = true := by simpa [hjl] using hun
  obtain ⟨b, hb, hb1, hb2⟩ := D.cl j o ho
  obtain ⟨i, hi, hci⟩ := D.ci j o ho
  have hready : ∀ k ∈ b, listed.getD k false = true := fun k hk => by
   rcases hb2 k hk with h1 | ⟨k', h1, b', h2, h3⟩
   ·obtain ⟨e, e1, e2, rfl⟩ := deps_mem.1 h1
    exact hdep e e1 e2
   ·obtain ⟨e, e1, e2, rfl⟩ := deps_mem.1 h1
    exact hI.2.1 _ b' (hdep e e1 e2) h2 k h3
  have hset : ∀ k, (listed.setIfInBounds j true).getD k false = true ↔ k = j ∨ listed.getD k false = true := fun k => by
   by_cases hkj : k = j
   ·subst hkj; simp [hjl]
   ·rw [getD_set_ne false (Ne.symm hkj)]; simp [hkj]
  have hcl : ∀ (j' : Nat) (b : List Nat), (listed.setIfInBounds j true).getD j' false = true → bs[j']? = some b → ∀ k ∈ b, (listed.setIfInBounds j true).getD k false = true := by
   intro j' b' h1 h2 k hk
   rw [hset] at h1 ⊢
   rcases h1 with rfl | h1
   ·rw [hb] at h2; cases h2; exact .inr (hready k hk)
   ·exact .inr (hI.2.1 j' b' h1 h2 k hk)
  have hcnt : (listed.setIfInBounds j true).toList.count false ≤ fuel := by have := count_set hun; omega
  have hsz : (listed.setIfInBounds j true).size = ops.size := by simpa using hI.1
  have go : (if Region.wanted o (yielded ops a.tmps) then o.wp P a w (wpAny P .any ops (QK E n K) fuel (listed.setIfInBounds j true)) (QK E n K) else wpAny P .any ops (QK E n K) fuel (listed.setIfInBounds j true) (a.put o.dst undef) w) →
    wpOp P ops (QK E n K) j (wpAny P .any ops (QK E n K) fuel (listed.setIfInBounds j true)) a w := by
   intro hg
   unfold wpOp
   simp only [ho]
   split
   ·rename_i hw; rw [if_pos hw] at hg; exact .inl hg
   ·rename_i hw; rw [if_neg hw] at hg; exact hg
  refine go ?_
  by_cases hjm : j < m ∧ ∀ j, listed.getD j false = true → j < m
  ·rcases hI.2.2 with ⟨g1, G, ρ, tL, hL, hC, g2, g3⟩ | ⟨k, k1, k2, k3, _⟩
   ·obtain ⟨r, tj, acj, q1, q2, q3, q4⟩ := D.vq j i hjm.1 hi
    have hq : rok ow P lo i tL acj r := rok.congr ow q2 fun s hs => by
     refine agree_uniq ow D g2 q3 g1 (fun k hk => by omega) s (fun k y hk hy hd => ?_) (fun k y hk hy hd => ?_)
     ·have hkm := g1 k hk
      have hks : k < ops.size := by have := D.ml; omega
      obtain ⟨bk, hbk, _⟩ := D.cl k _ (Array.getElem?_eq_getElem hks)
      have hne : j ≠ k := fun e => hnl (e ▸ hk)
      rcases (D.dj j k i y b bk hjm.1 hkm hne hi hy hb hbk).2 s hd hs with h1 | h1
      ·exact D.lt j b hb k h1
      ·exact absurd (hI.2.1 k bk hk hbk j h1) hnl
     ·have hkm : k < m := by omega
      have hks : k < ops.size := by have := D.ml; omega
      obtain ⟨bk, hbk, _⟩ := D.cl k _ (Array.getElem?_eq_getElem hks)
      rcases (D.dj j k i y b bk hjm.1 hkm (by omega) hi hy hb hbk).2 s hd hs with h1 | h1
      ·exact hready k h1
      ·have := D.lt k bk hbk j h1; omega
    have hnd := D.nd ow j r q1
    have wrs : ∀ (k : Nat) (r' : R), rs[k]? = some r' → (cfl r' r → k < j → listed.getD k false = true) ∧ (cfl r r' → j < k → ¬ listed.getD k false = true) := by
     intro k r' hk
     have hkm : k < m := by rw [← D.rl]; exact (List.getElem?_eq_some_iff.1 hk).1
     have hks : k < ops.size := by have := D.ml; omega
     obtain ⟨bk, hbk, _⟩ := D.cl k _ (Array.getElem?_eq_getElem hks)
     exact ⟨fun hc hlt => hready k (D.cf k j r' r b hk q1 hb hlt hc), fun hc hlt hlk => hnl (hI.2.1 k bk hlk hbk j (D.cf j k r r' bk q1 hk hbk hlt hc))⟩
    have hfoot : ∀ id, (id ∈ r.rd ∨ id ∈ wids r) → hL[id]? = acj[id]? := by
     intro id hid
     have c1 : ∀ (k : Nat) (r' : R) (w : Nat × B), rs[k]? = some r' → w ∈ r'.ws → w.1 = id → cfl r' r := fun k r' w _ hw he => .inl ⟨id, List.mem_map.2 ⟨w, hw, he⟩, hid⟩
     have c2 : ∀ (k : Nat) (r' : R) (w : Nat × B), rs[k]? = some r' → w ∈ r'.ws → w.1 = id → cfl r r' := fun k r' w _ hw he => by
      have hm : id ∈ wids r' := List.mem_map.2 ⟨w, hw, he⟩
      rcases hid with hid | hid
      ·exact .inr (.inl ⟨id, hid, hm⟩)
      ·exact .inl ⟨id, hid, .inr hm⟩
     have below : ∀ k, listed.getD k false = true → ∀ (r' : R) (w : Nat × B), rs[k]? = some r' → w ∈ r'.ws → w.1 = id → k < j := by
      intro k hk r' w hr' hw he
      rcases Nat.lt_trichotomy k j with h1 | h1 | h1
      ·exact h1
      ·subst h1; exact absurd hk hnl
      ·exact absurd hk ((wrs k r' hr').2 (c2 k r' w hr' hw he) h1)
     rcases g3.2 id with ⟨k, r', w, a1, a2, a3, a4, a5, a6⟩ | ⟨a1, a2⟩ <;> rcases q4.2 id with ⟨k', r2, w', b1, b2, b3, b4, b5, b6⟩ | ⟨b1, b2⟩
     ·have hkj := below k a1 r' w a2 a3 a4
      have hk' := (wrs k' r2 b2).1 (c1 k' r2 w' b2 b3 b4) b1
      rcases Nat.lt_trichotomy k k' with e | e | e
      ·exact absurd b4 (a6 k' r2 w' hk' e b2 b3)
      ·subst e
       rw [a2] at b2; cases b2
       rw [a5, b5, ws_uniq (D.nd ow k r' a2) a3 b3 (a4.trans b4.symm)]
      ·exact absurd a4 (b6 k r' w hkj e a2 a3)
     ·exact absurd a4 (b1 k r' w (below k a1 r' w a2 a3 a4) a2 a3)
     ·exact absurd b4 (a1 k' r2 w' ((wrs k' r2 b2).1 (c1 k' r2 w' b2 b3 b4) b1) b2 b3)
     ·rw [a2, b2]
    have hkl : ∀ id ∈ r.kl, (∀ s, id ∉ id2 (gs tL s)) ∧ ∀ (u : Nat) (x : B), hL[u]? = some x → u ∉ r.rd → id ∉ idB x := by
     intro id hid
     obtain ⟨k1, k2, k3⟩ := D.kc j r q1 id hid
     refine ⟨fun s => ?_, fun u x hx hu => ?_⟩
     ·rcases g2 s with ⟨k, y, a1, a2, a3, a4⟩ | ⟨_, a2⟩
      ·rw [List.getElem?_map, Option.map_eq_some_iff] at a4
       obtain ⟨r', hr', he⟩ := a4
       rw [← he]
       rcases Nat.lt_trichotomy k j with h1 | h1 | h1
       ·exact (k3 k r' y h1 hr' a2).1 s a3
       ·subst h1; exact absurd a1 hnl
       ·exact fun hm => (wrs k r' hr').2 (.inr (.inr ⟨id, hid, List.mem_append_left _ hm⟩)) h1 a1
      ·rw [a2]; exact k1 s
     ·rcases g3.2 u with ⟨k, r', w, a1, a2, a3, a4, a5, _⟩ | ⟨_, a2⟩
      ·rw [hx] at a5
       cases a5
       have hyk := List.getElem?_eq_getElem (show k < is.length by rw [D.il]; have := D.ml; have := g1 k a1; omega)
       rcases Nat.lt_trichotomy k j with h1 | h1 | h1
       ·exact (k3 k r' _ h1 a2 hyk).2 w a3 (by rw [a4]; exact hu)
       ·subst h1; exact absurd a1 hnl
       ·exact fun hm => (wrs k r' a2).2 (.inr (.inr ⟨id, hid, List.mem_append_right _ (List.mem_flatMap.2 ⟨w, a3, hm⟩)⟩)) h1 a1
      ·rw [a2] at hx
       exact k2 u x hx hu
    have hlen : hL.length = acj.length := by rw [g3.1, q4.1]
    have hwl : ∀ w ∈ r.ws, w.1 < hL.length := fun w hw => by rw [hlen]; exact (rok.ws ow hq).2 w hw
    obtain ⟨w1, w2, w3⟩ := wr_get hnd hwl
    refine qstep ow hC hlo hE hci hq hlen hfoot hkl fun a' w' G' ρ' hC' => ih _ _ _ hcnt ⟨hsz, hcl, .inl ⟨fun k hk => ?_, G', ρ', _, _, hC', fun s => ?_, by rw [w1, g3.1], fun u => ?_⟩⟩
    ·rcases (hset k).1 hk with rfl | hk
     ·exact hjm.1
     ·exact g1 k hk
    ·rw [gs_putv]
     by_cases hd : i.d = some s
     ·rw [if_pos hd]
      exact .inl ⟨j, i, (hset j).2 (.inl rfl), hi, hd, by rw [List.getElem?_map, q1]; rfl⟩
     ·rw [if_neg hd]
      rcases g2 s with ⟨k, y, a1, a2, a3, a4⟩ | ⟨a1, a2⟩
      ·exact .inl ⟨k, y, (hset k).2 (.inr a1), a2, a3, a4⟩
      ·refine .inr ⟨fun k y hk hy => ?_, a2⟩
       rcases (hset k).1 hk with rfl | hk
       ·rw [hi] at hy; cases hy; exact hd
       ·exact a1 k y hk hy
    ·by_cases hu : ∃ w ∈ r.ws, w.1 = u
     ·obtain ⟨w0, hw0, rfl⟩ := hu
      refine .inl ⟨j, r, w0, (hset j).2 (.inl rfl), q1, hw0, rfl, w2 w0 hw0, fun k' r2 w2' hk' hlt hr2 hw2 he => ?_⟩
      rcases (hset k').1 hk' with rfl | hk'
      ·omega
      ·exact (wrs k' r2 hr2).2 (.inl ⟨w0.1, List.mem_map.2 ⟨w0, hw0, rfl⟩, .inr (List.mem_map.2 ⟨w2', hw2, he⟩)⟩) hlt hk'
     ·have hu : ∀ w ∈ r.ws, w.1 ≠ u := fun w hw e => hu ⟨w, hw, e⟩
      rw [w3 u hu]
      rcases g3.2 u with ⟨k, r', w, a1, a2, a3, a4, a5, a6⟩ | ⟨a1, a2⟩
      ·refine .inl ⟨k, r', w, (hset k).2 (.inr a1), a2, a3, a4, a5, fun k' r2 w2' hk' hlt hr2 hw2 => ?_⟩
       rcases (hset k').1 hk' with rfl | hk'
       ·rw [q1] at hr2; cases hr2; exact hu w2' hw2
       ·exact a6 k' r2 w2' hk' hlt hr2 hw2
      ·refine .inr ⟨fun k r' w hk hr' hw => ?_, a2⟩
       rcases (hset k).1 hk with rfl | hk
       ·rw [q1] at hr'; cases hr'; exact hu w hw
       ·exact a1 k r' w hk hr' hw
   ·exact absurd ((k3 j).2 (by omega)) hnl
  ·have hall : ∀ i, i < m → listed.getD i false = true := by
    rcases hI.2.2 with ⟨g1, _⟩ | ⟨k, k1, k2, k3, _⟩
    ·have hmj : m ≤ j := by
      rcases Nat.lt_or_ge j m with h | h
      ·exact absurd ⟨h, g1⟩ hjm
      ·exact h
     exact fun i hi => hready i (D.fu j b hmj hb i (by omega))
    ·exact fun i hi => (k3 i).2 (by omega)
   obtain ⟨k, k1, k2, k3, G, ρ, t', h', hC, hk⟩ := turn listed a w hI hall
   have hjk : j = k := by
    have h1 : k ≤ j := by
     rcases Nat.lt_or_ge j k with h | h
     ·exact absurd ((k3 j).2 h) hnl
     ·exact h
    rcases Nat.lt_or_ge k j with h2 | h2
    ·have := (k3 k).1 (hready k (D.fu j b (by omega) hb k h2)); omega
    ·omega
   subst hjk
   have hdrop : is.drop j = i :: is.drop (j + 1) := by
    have hlt : j < is.length := by rw [D.il]; exact hjs
    rw [List.drop_eq_getElem_cons hlt]
    rw [List.getElem?_eq_getElem hlt] at hi
    rw [Option.some.inj hi]
   rw [hdrop] at hk
   exact step_ok ow hC hci hk (fun a' w' G' ρ' t' h' hC' hk' => ih _ _ _ hcnt ⟨hsz, hcl, .inr ⟨j + 1, by omega, by omega, fun k => by rw [hset, k3]; omega, G', ρ', t', h', hC', hk'⟩⟩) PQ.qk
end
end
section
variable {P : Program} {E : Ent} {n : Nat} {K : Ex → T → H → Prop} {Q : Exit → Act → World → Prop} {ops : Array Oper} {is : List I} {bs : List (List Nat)} {m : Nat} (ow : Nat → Bool)
theorem step1_ok {G : Nat → Prop} {ρ : List Value} {t : T} {h : H} {a : Act} {w : World} {o : Oper} {nxt : Act → World → Prop} (hC : Conc E n G ρ t h a w) {i : I} (hi : compI P n ops o = some i) {ih : T → H → (Ex → T → H → Prop) → Prop} (hk : rx1 (Sat P) ow i ih t h K)
  (hnx : ∀ (a' : Act) (w' : World) (G' : Nat → Prop) (ρ' : List Value) (t' : T) (h' : H), Conc E n G' ρ' t' h' a' w' → ih t' h' K → nxt a' w') (hp : PQ E n K Q) :
  if Region.wanted o (yielded ops a.tmps) then o.wp P a w nxt Q else nxt (a.put o.dst undef) w := by
 obtain ⟨hx, hd, hlt, hg⟩ := compI_ok hi
 have run : ∀ {t : T}, Conc E n G ρ t h a w → opx (Sat P) ow i.o t h (fun v t h => Put i.d v t fun t => ih t h K) (fun v t h => K (.pan v) t h) → o.wp P a w nxt Q := by
  intro t hC hk
  refine op_all ow hC (fun v' w' G' ρ' t' h' v hC' hv hk' => ?_) (fun v' w' G' ρ' t' h' v hC' hv hk' => hp a w' G' ρ' t' h' v v' hC' hv hk') hx hk
  rw [Put_putv, hd] at hk'
  exact hnx _ _ _ _ _ _ (hC'.putv o.dst hlt hv) hk'
 have pass : ∀ {t : T}, Conc E n G ρ t h a w → (Put i.d .ud t fun t => ih t h K) → nxt (a.put o.dst undef) w := by
  intro t hC hk
  rw [Put_putv, hd] at hk
  exact hnx _ _ _ _ _ _ (hC.putv o.dst hlt rep_ud) hk
 cases hgo : o.guard with
 | none =>
  rw [hgo] at hg
  simp only at hg
  simp only [rx1, hg] at hk
  rw [if_pos (by simp [Region.wanted, hgo])]
  exact run hC hk
 | some p =>
  obtain ⟨j, x⟩ := p
  rw [hgo] at hg
  obtain ⟨d, hd1, hg⟩ := hg
  simp only [rx1, hg] at hk
  split at hk
  ·rename_i b hb
   rw [wanted_bool hC hgo hd1 hb]
   have hC1 := hC.congr (gs_know hb)
   cases b <;> cases x <;> simp only [sp, cond_true, cond_false] at hk <;> simp only [BEq.rfl, if_true, Bool.false_eq_true, if_false, beq_iff_eq, reduceCtorEq]
   ·exact run hC1 hk
   ·exact pass hC1 hk
   ·exact pass hC1 hk
   ·exact run hC1 hk
  ·rename_i hb
   rw [wanted_ud hC hgo hd1 hb]
   exact pass hC hk
  ·exact hk.elim
theorem nd_le : ∀ {l r : List Nat}, l.Nodup → (∀ x ∈ l, x ∈ r) → l.length ≤ r.length
 | [], _, _, _ => Nat.zero_le _
 | x :: l, r, hn, h => by
  obtain ⟨h1, h2⟩ := List.nodup_cons.1 hn
  have hx := h x (by simp)
  have := nd_le (l := l) (r := r.erase x) h2 fun y hy => (List.mem_erase_of_ne (show y ≠ x from fun e => h1 (by rw [← e]; exact hy))).2 (h y (List.mem_cons_of_mem _ hy))
  rw [List.length_erase_of_mem hx] at this
  have := List.length_pos_of_mem hx
  rw [List.length_cons]
  omega
structure Dry (P : Program) (n : Nat) (ops : Array Oper) (is : List I) (bs : List (List Nat)) (m : Nat) : Prop where
 il : is.length = ops.size
 bl : bs.length = ops.size
 ml : m ≤ ops.size
 ci : ∀ (j : Nat) (o : Oper), ops[j]? = some o → ∃ i, is[j]? = some i ∧ compI P n ops o = some i
 cl : ∀ (j : Nat) (o : Oper), ops[j]? = some o → ∃ b, bs[j]? = some b ∧ (∀ k ∈ deps o, k ∈ b) ∧ ∀ k ∈ b, k ∈ deps o ∨ ∃ k' ∈ deps o, ∃ b' : List Nat, bs[k']? = some b' ∧ k ∈ b'
 lt : ∀ (j : Nat) (b : List Nat), bs[j]? = some b → ∀ k ∈ b, k < j
 fu : ∀ (j : Nat) (b : List Nat), m ≤ j → bs[j]? = some b → ∀ i, i < j → i ∈ b
theorem dry_done (D : Dry P n ops is bs m) {listed : Array Bool} (hr : Region.ready .any ops listed = []) (hs : listed.size = ops.size) : ∀ j, j < ops.size → listed.getD j false = true := by
 intro j
 induction j using Nat.strongRecOn with
 | _ j ih =>
  intro hj
  by_cases hl : listed.getD j false = true
  ·exact hl
  ·exfalso
   have : j ∈ Region.ready .any ops listed := by
    rw [mem_ready]
    refine ⟨?_, ops[j], Array.getElem?_eq_getElem hj, fun e he hb => ?_⟩
    ·have hjl : j < listed.size := by omega
     simpa [hjl] using hl
    ·obtain ⟨b, h1, h2, _⟩ := D.cl j _ (Array.getElem?_eq_getElem hj)
     have := D.lt j b h1 e.on (h2 _ (deps_mem.2 ⟨e, he, hb, rfl⟩))
     exact ih _ this (by omega)
   rw [hr] at this
   cases this
def AInv (E : Ent) (n : Nat) (K : Ex → T → H → Prop) (q : List (I × List Nat)) (s : List I) (is : List I) (bs : List (List Nat)) (m : Nat) (P : Program) (listed : Array Bool) (a : Act) (w : World) : Prop :=
  (∀ (j : Nat) (b : List Nat), listed.getD j false = true → bs[j]? = some b → ∀ k ∈ b, listed.getD k false = true) ∧
  ((∃ (done : List Nat) (k : Nat) (G : Nat → Prop) (ρ : List Value) (t : T) (h : H), done.Nodup ∧ done.length + k = m ∧ (∀ j, listed.getD j false = true ↔ j ∈ done) ∧ (∀ j ∈ done, j < m) ∧ Conc E n G ρ t h a w ∧ anx (Sat P) ow q s k done t h K) ∨
   ∃ (k : Nat) (G : Nat → Prop) (ρ : List Value) (t : T) (h : H), m ≤ k ∧ (∀ j, listed.getD j false = true ↔ j < k) ∧ Conc E n G ρ t h a w ∧ rx (Sat P) ow (is.drop k) t h K)
theorem any_ok (D : Dry P n ops is bs m) {q : List (I × List Nat)} (hq : q = (is.zip bs).take m) : ∀ (fuel : Nat) (listed : Array Bool) (a : Act) (w : World), listed.size = ops.size → listed.toList.count false ≤ fuel →
  AInv ow E n K q (is.drop m) is bs m P listed a w → wpAny P .any ops (QK E n K) fuel listed a w := by
 have hil := D.il
 have hbl := D.bl
 have hml := D.ml
 have hqg : ∀ (j : Nat) (x : I) (b : List Nat), j < m → is[j]? = some x → bs[j]? = some b → q[j]? = some (x, b) := fun j x b hj hx hb => by
  rw [hq, List.getElem?_take, if_pos hj, List.getElem?_zip_eq_some]
  exact ⟨hx, hb⟩
 have hql : q.length = m := by rw [hq]; simp; omega
 have turn : ∀ (listed : Array Bool) (a : Act) (w : World), AInv ow E n K q (is.drop m) is bs m P listed a w → (∀ j, j < m → listed.getD j false = true) →
   ∃ (k : Nat) (G : Nat → Prop) (ρ : List Value) (t : T) (h : H), m ≤ k ∧ (∀ j, listed.getD j false = true ↔ j < k) ∧ Conc E n G ρ t h a w ∧ rx (Sat P) ow (is.drop k) t h K := by
  intro listed a w ⟨_, h3⟩ hall
  rcases h3 with ⟨done, k, G, ρ, t, h, d1, d2, d3, d4, hC, hk⟩ | h3
  ·have hk0 : k = 0 := by
    have h1 : (List.range m).length ≤ done.length := nd_le List.nodup_range fun j hj => (d3 j).1 (hall j (List.mem_range.1 hj))
    rw [List.length_range] at h1
    omega
   subst hk0
   exact ⟨m, G, ρ, t, h, Nat.le_refl _, fun j => ⟨fun hj => d4 j ((d3 j).1 hj), hall j⟩, hC, hk⟩
  ·exact h3
 have fin : ∀ (listed : Array Bool) (a : Act) (w : World), listed.size = ops.size → AInv ow E n K q (is.drop m) is bs m P listed a w → Region.ready .any ops listed = [] → QK E n K .normal a w := by
  intro listed a w hs hI hr
  have hall := dry_done D hr hs
  obtain ⟨k, G, ρ, t', h', k1, k3, hC, hk⟩ := turn listed a w hI (fun j hj => hall j (by omega))
  have hkk : ops.size ≤ k := by
   rcases Nat.lt_or_ge k ops.size with h | h
   ·have := (k3 k).1 (hall k h); omega
   ·exact h
  rw [List.drop_eq_nil_of_le (by omega)] at hk
  exact ⟨G, ρ, t', h', hC, hk⟩
 intro fuel
 induction fuel with
 | zero =>
  intro listed a w hs hc hI
  have hall : ∀ j, j < ops.size → listed.getD j false = true := fun j hj => by
   have hj' : j < listed.size := by omega
   have h0 : listed.toList.count false = 0 := by omega
   rw [List.count_eq_zero] at h0
   cases hv : listed[j] with
   | true => simp [hj', hv]
   | false => exact absurd (by rw [Array.mem_toList_iff, ← hv]; exact Array.getElem_mem hj') h0
  have hr : Region.ready .any ops listed = [] := by
   rw [List.eq_nil_iff_forall_not_mem]
   intro j hj
   obtain ⟨h1, o, h2, _⟩ := mem_ready.1 hj
   have h3 := hall j (Array.getElem?_eq_some_iff.1 h2).1
   have hj' := getD_lt h3
   simp [hj'] at h1 h3
   rw [h3] at h1
   cases h1
  exact ⟨hr, fin listed a w hs hI hr⟩
 | succ fuel ih =>
  intro listed a w hs hc hI
  refine ⟨fin listed a w hs hI, fun j hj => ?_⟩
  obtain ⟨hun, o, ho, hdep⟩ := mem_ready.1 hj
  have hjs : j < ops.size := (Array.getElem?_eq_some_iff.1 ho).1
  have hjl : j < listed.size := by omega
  have hnl : ¬ listed.getD j false = true := by simpa [hjl] using hun
  obtain ⟨b, hb, hb1, hb2⟩ := D.cl j o ho
  obtain ⟨i, hi, hci⟩ := D.ci j o ho
  have hready : ∀ k ∈ b, listed.getD k false = true := fun k hk => by
   rcases hb2 k hk with h1 | ⟨k', h1, b', h2, h3⟩
   ·obtain ⟨e, e1, e2, rfl⟩ := deps_mem.1 h1
    exact hdep e e1 e2
   ·obtain ⟨e, e1, e2, rfl⟩ := deps_mem.1 h1
    exact hI.1 _ b' (hdep e e1 e2) h2 k h3
  have hset : ∀ k, (listed.setIfInBounds j true).getD k false = true ↔ k = j ∨ listed.getD k false = true := fun k => by
   by_cases hkj : k = j
   ·subst hkj; simp [hjl]
   ·rw [getD_set_ne false (Ne.symm hkj)]; simp [hkj]
  have hcl : ∀ (j' : Nat) (b : List Nat), (listed.setIfInBounds j true).getD j' false = true → bs[j']? = some b → ∀ k ∈ b, (listed.setIfInBounds j true).getD k false = true := by
   intro j' b' h1 h2 k hk
   rw [hset] at h1 ⊢
   rcases h1 with rfl | h1
   ·rw [hb] at h2; cases h2; exact .inr (hready k hk)
   ·exact .inr (hI.1 j' b' h1 h2 k hk)
  have hcnt : (listed.setIfInBounds j true).toList.count false ≤ fuel := by have := count_set hun; omega
  have hsz : (listed.setIfInBounds j true).size = ops.size := by simpa using hs
  have go : (if Region.wanted o (yielded ops a.tmps) then o.wp P a w (wpAny P .any ops (QK E n K) fuel (listed.setIfInBounds j true)) (QK E n K) else wpAny P .any ops (QK E n K) fuel (listed.setIfInBounds j true) (a.put o.dst undef) w) →
    wpOp P ops (QK E n K) j (wpAny P .any ops (QK E n K) fuel (listed.setIfInBounds j true)) a w := by
   intro hg
   unfold wpOp
   simp only [ho]
   split
   ·rename_i hw; rw [if_pos hw] at hg; exact .inl hg
   ·rename_i hw; rw [if_neg hw] at hg; exact hg
  refine go ?_
  by_cases hjm : j < m
  ·rcases hI.2 with ⟨done, k, G, ρ, t, h, d1, d2, d3, d4, hC, hk⟩ | ⟨k, G, ρ, t, h, k1, k3, _⟩
   ·have hjd : j ∉ done := fun hd => hnl ((d3 j).2 hd)
    have hk0 : k ≠ 0 := by
     intro e
     have h1 : (j :: done).length ≤ (List.range m).length := nd_le (List.nodup_cons.2 ⟨hjd, d1⟩) fun x hx => by
      rw [List.mem_range]
      rcases List.mem_cons.1 hx with rfl | hx
      ·exact hjm
      ·exact d4 x hx
     rw [List.length_range, List.length_cons] at h1
     omega
    obtain ⟨k, rfl⟩ : ∃ k', k = k' + 1 := ⟨k - 1, by omega⟩
    rw [anx_succ] at hk
    have hqj := hqg j i b hjm hi hb
    have hmem : j ∈ redy q done := by
     unfold redy
     rw [List.mem_filter, List.mem_range]
     refine ⟨by omega, ?_⟩
     rw [get?_eq, hqj]
     simp only [Bool.and_eq_true, Bool.not_eq_true', List.all_eq_true]
     refine ⟨?_, fun x hx => has_iff.2 ((d3 x).1 (hready x hx))⟩
     cases hh : has done j with
     | false => rfl
     | true => exact absurd (has_iff.1 hh) hjd
    have hk2 := andl_mem hk j hmem
    rw [get?_eq, hqj] at hk2
    exact step1_ok ow hC hci hk2 (fun a' w' G' ρ' t' h' hC' hk' => ih _ _ _ hsz hcnt ⟨hcl, .inl ⟨j :: done, k, G', ρ', t', h', List.nodup_cons.2 ⟨hjd, d1⟩, by rw [List.length_cons]; omega, fun x => by rw [hset, List.mem_cons, d3], fun x hx => by
     rcases List.mem_cons.1 hx with rfl | hx
     ·exact hjm
     ·exact d4 x hx, hC', hk'⟩⟩) PQ.qk
   ·exact absurd ((k3 j).2 (by omega)) hnl
  ·have hall : ∀ i, i < m → listed.getD i false = true := fun i hi => hready i (D.fu j b (by omega) hb i (by omega))
   obtain ⟨k, G, ρ, t', h', k1, k3, hC, hk⟩ := turn listed a w hI hall
   have hjk : j = k := by
    have h1 : k ≤ j := by
     rcases Nat.lt_or_ge j k with h | h
     ·exact absurd ((k3 j).2 h) hnl
     ·exact h
    rcases Nat.lt_or_ge k j with h2 | h2
    ·have := (k3 k).1 (hready k (D.fu j b (by omega) hb k h2)); omega
    ·omega
   subst hjk
   have hdrop : is.drop j = i :: is.drop (j + 1) := by
    have hlt : j < is.length := by omega
    rw [List.drop_eq_getElem_cons hlt]
    rw [List.getElem?_eq_getElem hlt] at hi
    rw [Option.some.inj hi]
   rw [hdrop] at hk
   exact step_ok ow hC hci hk (fun a' w' G' ρ' t' h' hC' hk' => ih _ _ _ hsz hcnt ⟨hcl, .inr ⟨j + 1, G', ρ', t', h', by omega, fun k => by rw [hset, k3]; omega, hC', hk'⟩⟩) PQ.qk
end
end Go.Vx
