/- Worlds put one behind another; records that are turned; what hangs on no slice of one's own; marks. Conditions: none; lemmas on the definitions before. -/
import Derived.Test.YtoibcfioicdlhaaGreatDoorQAO
namespace Go.Vx
section
variable {P : Program} {E : Ent} {n : Nat} {G G' : Nat → Prop} {ρ ρ' : List Value} {t : T} {h h' : H} {a : Act} {w w' : World}
def rcb (w : World) (b : Nat) : Prop := (∃ r, w.heap[b]? = some (.loop r)) ∨ ∃ ds, w.heap[b]? = some (.deferred ds)
theorem rcb.nclb {b : Nat} (h : rcb w b) (hc : clb w b) : False := by
  obtain ⟨x, y, z, hc⟩ := hc
  rcases h with ⟨r, h⟩ | ⟨r, h⟩ <;> rw [hc] at h <;> cases h
theorem rcb.lt {b : Nat} (h : rcb w b) : b < w.heap.size := by
  rcases h with ⟨r, h⟩ | ⟨r, h⟩ <;> exact (Array.getElem?_eq_some_iff.1 h).1
theorem RepB.nrec {hd : Value} {x : B} {r : Nat} (hb : RepB G w ρ hd x) (hn : x ≠ .no) (hr : blk hd = some r) (h : rcb w r) : False := by
  have map : ∀ es, RepM G w ρ hd es → False := by
    rintro es ⟨r', arr, clk, rfl, h1, _⟩
    simp only [blk, Option.some.injEq] at hr
    subst hr
    rcases h with ⟨_, h⟩ | ⟨_, h⟩ <;> rw [h] at h1 <;> cases h1
  cases x with
  | no => exact hn rfl
  | nw =>
    have : hd = undef := hb
    subst this
    cases hr
  | mp es => exact map _ hb
  | dm es => exact map _ hb
  | cells cs =>
    obtain ⟨b, arr, ty, rfl, h1, _⟩ := hb
    simp only [blk, Option.some.injEq] at hr
    subst hr
    exact h.nclb ⟨_, _, _, h1⟩
  | rows z rs =>
    rcases hb with ⟨rfl, _⟩ | ⟨b, cap, arr, ty, rfl, h1, _⟩
    · cases hr
    · simp only [blk, Option.some.injEq] at hr
      subst hr
      exact h.nclb ⟨_, _, _, h1⟩
  | rx z rs k r =>
    obtain ⟨b, cap, arr, ty, rfl, h1, _⟩ := hb
    simp only [blk, Option.some.injEq] at hr
    subst hr
    exact h.nclb ⟨_, _, _, h1⟩
theorem HR.nrec (hr : HR G w ρ h) {b : Nat} (hb : rcb w b) : ¬ own ρ h b := fun ⟨id, v, x, h1, h2, h3, h4⟩ => (hr.rep id v x h1 h2).nrec h3 h4 hb
theorem Ok.ng (hO : Ok E G w ρ h) {l : Nat} (hl : rcb w l) (he : ¬ E.G l) : ¬ G l := fun hg => (hO.go l hg).elim he fun h => hl.nclb h.1
theorem Ok.comp {ds' : List Deferred} {ms' : List Nat} (hO : Ok E G w ρ h) (hms : ∀ r ∈ E.ms, r ∈ ms') (hP : Ok ⟨w, G, ρ, h, ds', ms'⟩ G' w' ρ' h') : Ok E G' w' ρ' h' := by
  refine ⟨hP.hr, fun b hb => hP.gm b (hO.gm b hb), fun b hb => ?_, fun b hb => ?_, fun b hb hn => ?_, Nat.le_trans hO.size hP.size, hP.os.trans hO.os, hP.tape.trans hO.tape, hP.out.trans hO.out,
    fun id v hv hs => hP.hand id v (hO.hand id v hv hs) hs, Nat.le_trans hO.hl hP.hl, fun r hr => hP.mks r (hms r hr)⟩
  · rcases hP.go b hb with h1 | ⟨h1, h2⟩
    · rcases hO.go b h1 with h3 | ⟨h3, h4⟩
      · exact .inl h3
      · exact .inr ⟨h3.same (hP.frame b (hO.hr.gl b h1) (hO.hr.gd b h1)), h4⟩
    · refine .inr ⟨h1, ?_⟩
      rcases h2 with h2 | h2
      · exact .inl (Nat.le_trans hO.size h2)
      · exact hO.oo b h2
  · rcases hP.oo b hb with h1 | h1
    · exact .inl (Nat.le_trans hO.size h1)
    · exact hO.oo b h1
  · refine (hP.frame b (Nat.lt_of_lt_of_le hb hO.size) fun ho => ?_).trans (hO.frame b hb hn)
    rcases hO.oo b ho with h1 | h1
    · exact absurd hb (Nat.not_lt.2 h1)
    · exact hn h1
theorem Ok.putr (hO : Ok E G w ρ h) {l : Nat} (hl : rcb w l) (hE : E.w.heap.size ≤ l) (hg : ¬ G l) {ms : List Nat} (hm : ∀ r ∈ ms, r ∈ E.ms ∧ r ≠ l) {ds : List Deferred} (o : Obj) : Ok { E with ds := ds, ms := ms } G (w.putObj l o) ρ h := by
  have hw : ∀ b, b ≠ l → (w.putObj l o).heap[b]? = w.heap[b]? := fun _ hb => World.putObj_heap_other hb
  have hG : ∀ b, G b → (w.putObj l o).heap[b]? = w.heap[b]? := fun b hb => hw b fun e => hg (e ▸ hb)
  have hn := hO.hr.nrec hl
  refine ⟨⟨hO.hr.len, fun id v x hv hx => ?_, hO.hr.dis, fun b hb => by rw [World.putObj_size]; exact hO.hr.gl b hb, hO.hr.gd, hO.hr.glb.mono (fun _ h => h) hG⟩, hO.gm, fun b hb => (hO.go b hb).imp (fun h => h) fun h2 => ⟨h2.1.same (hG b hb), h2.2⟩, hO.oo,
    fun b hb hno => (hw b fun e => ?_).trans (hO.frame b hb hno), by rw [World.putObj_size]; exact hO.size, hO.os, hO.tape, hO.out, hO.hand, hO.hl, fun r hr => ?_⟩
  · by_cases hx0 : x = .no
    · subst hx0; trivial
    · exact (hO.hr.rep id v _ hv hx).mono (fun _ h => h) hG (fun b hb => hw b fun e => hn (e ▸ ⟨id, v, x, hv, hx, hx0, hb⟩)) (fun _ _ => rfl)
  · subst e; exact absurd hb (Nat.not_lt.2 hE)
  · obtain ⟨h1, h2⟩ := hm r hr
    obtain ⟨g1, g2, g3⟩ := hO.mks r h1
    exact ⟨(hw r h2).trans g1, g2, g3⟩
theorem rep_putr {v : Value} {x : V} (hv : Rep2 G w ρ v x) {l : Nat} (hg : ¬ G l) (o : Obj) : Rep2 G (w.putObj l o) ρ v x :=
  hv.mono (fun _ h => h) (fun _ hb => World.putObj_heap_other fun e => hg (e ▸ hb)) (fun _ _ => rfl)
theorem RepK.ns {v : Value} {x : V} (hv : RepK G w ρ v x) (hs : slc x = false) : ∀ i ∈ idc x, ∃ u, ρ[i]? = some u ∧ isSl u = false := by
  intro i hi
  cases hv with
  | p id off b h => simp only [idc, List.mem_singleton] at hi; subst hi; exact ⟨_, h, rfl⟩
  | mp id r h => simp only [idc, List.mem_singleton] at hi; subst hi; exact ⟨_, h, rfl⟩
  | os id a n c h => cases hs
  | q id z i off b n c h => cases hs
  | ov id z i _ a n c h hv => cases hs
  | _ => simp [idc] at hi
theorem slc0 {x : V} (h : sl0 x = false) : slc x = false := by cases x <;> first | exact h | rfl
theorem sl01 {x : V} (h : sl1 x = false) : sl0 x = false := by cases x <;> first | exact h | rfl
theorem sl12 {x : V} (h : sl2 x = false) : sl1 x = false := by cases x <;> first | exact h | rfl
theorem RepC.ns {v : Value} {x : V} (hv : RepC G w ρ v x) (hs : sl0 x = false) : ∀ i ∈ id0 x, ∃ u, ρ[i]? = some u ∧ isSl u = false := by
  intro i hi
  cases hv with
  | k h =>
    have e : id0 x = idc x := by cases h <;> rfl
    exact h.ns (slc0 hs) i (e ▸ hi)
  | fc f u cs caps h0 h1 h2 =>
    simp only [id0, List.mem_flatMap] at hi
    obtain ⟨y, hy, hi⟩ := hi
    obtain ⟨k, hk⟩ := List.mem_iff_getElem?.1 hy
    simp only [sl0, List.any_eq_false] at hs
    exact (h2 k y hk).ns (by simpa using hs y hy) i hi
theorem Rep1.ns {v : Value} {x : V} (hv : Rep1 G w ρ v x) (hs : sl1 x = false) : ∀ i ∈ id1 x, ∃ u, ρ[i]? = some u ∧ isSl u = false := by
  intro i hi
  cases hv with
  | c h =>
    have e : id1 x = id0 x := by
      cases h with
      | k h => cases h <;> rfl
      | fc => rfl
    exact h.ns (sl01 hs) i (e ▸ hi)
  | ag cs vs h1 h2 =>
    simp only [id1, List.mem_flatMap] at hi
    obtain ⟨y, hy, hi⟩ := hi
    obtain ⟨k, hk⟩ := List.mem_iff_getElem?.1 hy
    simp only [sl1, List.any_eq_false] at hs
    exact (h2 k y hk).ns (by simpa using hs y hy) i hi
theorem Rep2.ns {v : Value} {x : V} (hv : Rep2 G w ρ v x) (hs : sl2 x = false) : ∀ i ∈ id2 x, ∃ u, ρ[i]? = some u ∧ isSl u = false := by
  intro i hi
  cases hv with
  | o h =>
    have e : id2 x = id1 x := by
      cases h with
      | c h => cases h with
        | k h => cases h <;> rfl
        | fc => rfl
      | ag => rfl
    exact h.ns (sl12 hs) i (e ▸ hi)
  | tu cs vs h1 h2 =>
    simp only [id2, List.mem_flatMap] at hi
    obtain ⟨y, hy, hi⟩ := hi
    obtain ⟨k, hk⟩ := List.mem_iff_getElem?.1 hy
    simp only [sl2, List.any_eq_false] at hs
    exact (h2 k y hk).ns (by simpa using hs y hy) i hi
def Stay (G : Nat → Prop) (w : World) (ρ : List Value) (G' : Nat → Prop) (w' : World) (ρ' : List Value) : Prop :=
  (∀ b, G b → G' b ∧ w'.heap[b]? = w.heap[b]?) ∧ ∀ (i : Nat) (u : Value), ρ[i]? = some u → isSl u = false → ρ'[i]? = some u
theorem Stay.refl : Stay G w ρ G w ρ := ⟨fun _ h => ⟨h, rfl⟩, fun _ _ h _ => h⟩
theorem Stay.trans {G1 G2 : Nat → Prop} {w1 w2 : World} {ρ1 ρ2 : List Value} (h : Stay G w ρ G1 w1 ρ1) (k : Stay G1 w1 ρ1 G2 w2 ρ2) : Stay G w ρ G2 w2 ρ2 :=
  ⟨fun b hb => let h1 := h.1 b hb; let h2 := k.1 b h1.1; ⟨h2.1, h2.2.trans h1.2⟩, fun i u hi hu => k.2 i u (h.2 i u hi hu) hu⟩
theorem Stay.put {l : Nat} (hg : ¬ G l) (o : Obj) : Stay G w ρ G (w.putObj l o) ρ := ⟨fun _ hb => ⟨hb, World.putObj_heap_other fun e => hg (e ▸ hb)⟩, fun _ _ h _ => h⟩
theorem Ok.stay {ds : List Deferred} {ms : List Nat} (hr : HR G w ρ h) (hP : Ok ⟨w, G, ρ, h, ds, ms⟩ G' w' ρ' h') : Stay G w ρ G' w' ρ' :=
  ⟨fun b hb => ⟨hP.gm b hb, hP.frame b (hr.gl b hb) (hr.gd b hb)⟩, hP.hand⟩
theorem Stay.rep (hS : Stay G w ρ G' w' ρ') {v : Value} {x : V} (hv : Rep2 G w ρ v x) (hs : sl2 x = false) : Rep2 G' w' ρ' v x :=
  hv.mono (fun b hb => (hS.1 b hb).1) (fun b hb => (hS.1 b hb).2) (fun i hi => let ⟨u, h1, h2⟩ := hv.ns hs i hi; (hS.2 i u h1 h2).trans h1.symm)
theorem Stay.repk (hS : Stay G w ρ G' w' ρ') {v : Value} {x : V} (hv : RepK G w ρ v x) (hs : slc x = false) : RepK G' w' ρ' v x :=
  hv.mono (fun b hb => (hS.1 b hb).1) (fun b hb => (hS.1 b hb).2) (fun i hi => let ⟨u, h1, h2⟩ := hv.ns hs i hi; (hS.2 i u h1 h2).trans h1.symm)
def mkD (r : Nat) : Deferred := { target := .collected r, args := #[] }
def MkOf (E E' : Ent) : Prop := ∃ l : List Nat, E' = { E with ds := l.map mkD ++ E.ds, ms := l ++ E.ms } ∧ (E.ms.Nodup → (l ++ E.ms).Nodup) ∧ ∀ r ∈ l, E.w.heap.size ≤ r
theorem MkOf.refl (E : Ent) : MkOf E E := ⟨[], rfl, fun h => h, by simp⟩
theorem MkOf.trans {E E1 E2 : Ent} (h : MkOf E E1) (k : MkOf E1 E2) : MkOf E E2 := by
  obtain ⟨l, rfl, h1, h2⟩ := h
  obtain ⟨m, rfl, k1, k2⟩ := k
  refine ⟨m ++ l, by simp, fun h => by simpa using k1 (h1 h), fun r hr => ?_⟩
  rcases List.mem_append.1 hr with h | h
  · exact k2 r h
  · exact h2 r h
theorem MkOf.ew {E E1 : Ent} (h : MkOf E E1) : E1.w = E.w := by obtain ⟨l, rfl, _⟩ := h; rfl
theorem MkOf.eG {E E1 : Ent} (h : MkOf E E1) : E1.G = E.G := by obtain ⟨l, rfl, _⟩ := h; rfl
theorem MkOf.er {E E1 : Ent} (h : MkOf E E1) : E1.ρ = E.ρ := by obtain ⟨l, rfl, _⟩ := h; rfl
theorem MkOf.eh {E E1 : Ent} (h : MkOf E E1) : E1.h = E.h := by obtain ⟨l, rfl, _⟩ := h; rfl
def nrf : Code → Bool
  | .seq a b => nrf a && nrf b
  | .cond _ a b => nrf a && nrf b
  | .block _ c => nrf c
  | .loop c => nrf c
  | .rangeFunc _ _ _ _ => false
  | _ => true
def QM (b : Bool) (E : Ent) (n : Nat) (K : Ex → T → H → Prop) (e : Exit) (a : Act) (w : World) : Prop :=
  ∃ E', MkOf E E' ∧ (b = true → E' = E) ∧ QK E' n K e a w
theorem QM.of {b : Bool} {K : Ex → T → H → Prop} {e : Exit} (h : QK E n K e a w) : QM b E n K e a w := ⟨E, .refl E, fun _ => rfl, h⟩
theorem QM.qk {K : Ex → T → H → Prop} {e : Exit} (h : QM true E n K e a w) : QK E n K e a w := by
  obtain ⟨E', h1, h2, h3⟩ := h
  rw [h2 rfl] at h3
  exact h3
def Rnd (r : Option Nat) (E : Ent) : Prop := ∀ l, r = some l → (∃ rec, E.w.heap[l]? = some (.loop rec)) ∧ ¬ own E.ρ E.h l
theorem Rnd.none (E : Ent) : Rnd none E := fun _ h => by cases h
theorem Rnd.mk {r : Option Nat} {E E1 : Ent} (h : Rnd r E) (hm : MkOf E E1) : Rnd r E1 := by
  obtain ⟨l, rfl, _⟩ := hm
  exact h
def WK (P : Program) (ow : Nat → Bool) (n : Nat) (c : Code) (x : C) : Prop :=
  ∀ (r : Option Nat) (N : Nat) (E : Ent), E.ρ.length = E.h.length → Rnd r E → ∀ (G : Nat → Prop) (ρ : List Value) (t : T) (h : H) (a : Act) (w : World) (K : Ex → T → H → Prop), Conc E n G ρ t h a w →
    wx (Sat P) ow E.h.length x t h K → c.wpIn (Fw r) N P (QM (nrf c) E n K) a w
theorem rwd_rep {d : D} (h : rwd d) : RepD G w (encD d) d := by
  cases d with
  | int k n => exact .int k n
  | bool b => exact .bool b
  | str s =>
    have := RepD.str (G := G) (w := w) ⟨s.toArray⟩ (by simpa [ByteArray.size, rwd, maxLen] using h)
    simpa [encD] using this
  | _ => exact h.elim
theorem lys_ok : ∀ (ps : List Nat) (r : List D) (t : T) (u : Array Value), (∀ p ∈ ps, p < u.size) → (∀ d ∈ r, rwd d) → (∀ i, Rep2 G w ρ (u.getD i undef) (gs t i)) →
    ∀ i, Rep2 G w ρ (((ps.zip (r.map encD)).foldl (fun t (p, v) => t.setIfInBounds p v) u).getD i undef) (gs (lys ps r t) i) := by
  intro ps
  induction ps with
  | nil => intro r t u _ _ h; exact h
  | cons p ps ih =>
    intro r t u hp hr h
    cases r with
    | nil => exact h
    | cons d r =>
      refine ih r _ (u.setIfInBounds p (encD d)) (fun q hq => by simpa using hp q (by simp [hq])) (fun x hx => hr x (by simp [hx])) (fun i => ?_)
      have hpl := hp p (by simp)
      rw [gs_cons]
      by_cases e : p = i
      · subst e
        simp only [Nat.beq_refl, cond_true]
        have := rwd_rep (G := G) (w := w) (hr d (by simp))
        simpa [Array.getElem?_setIfInBounds, hpl] using (Rep2.o (.c (.k (.d this))) : Rep2 G w ρ _ _)
      · rw [nbeq e, cond_false]
        simpa [Array.getElem?_setIfInBounds, e] using h i
theorem fold_size : ∀ (l : List (Nat × Value)) (u : Array Value), (l.foldl (fun t (p, v) => t.setIfInBounds p v) u).size = u.size := by
  intro l
  induction l with
  | nil => intro u; rfl
  | cons x l ih => intro u; rw [List.foldl_cons, ih]; simp
theorem gs_memb {T0 : T} (h : (T0.all fun p => !(sl2 p.2)) = true) (i : Nat) : sl2 (gs T0 i) = false := by
  rcases (show gs T0 i = .un ∨ ∃ p ∈ T0, p.2 = gs T0 i from by
    induction T0 with
    | nil => exact .inl rfl
    | cons p T0 ih =>
      simp only [List.all_cons, Bool.and_eq_true] at h
      rw [gs_cons]
      cases hb : Nat.beq p.1 i
      · rw [cond_false]
        rcases ih h.2 with h1 | ⟨q, h1, h2⟩
        · exact .inl h1
        · exact .inr ⟨q, by simp [h1], h2⟩
      · rw [cond_true]
        exact .inr ⟨p, by simp, rfl⟩) with e | ⟨p, hp, e⟩
  · rw [e]; rfl
  · rw [← e]
    have := List.all_eq_true.1 h p hp
    simpa using this
end
end Go.Vx
namespace Go.Vx
section
variable {P : Program} {E : Ent} {n : Nat} {G : Nat → Prop} {ρ : List Value} {t : T} {h : H} {a : Act} {w : World} (ow : Nat → Bool)
theorem puts_take {is : List I} {vs : List V} {t : T} {j : Nat} (hj : j ≤ vs.length) (hi : j ≤ is.length) : agree is vs (· < j) t (puts (is.take j) (vs.take j) t) := by
  intro s
  rcases puts_agree (is.take j) (vs.take j) t (by simp; omega) s with ⟨k, i, h1, h2, h3⟩ | ⟨h1, h2⟩
  · have hk : k < j := by
      have := (List.getElem?_eq_some_iff.1 h1).1
      simp at this
      omega
    rw [List.getElem?_take, if_pos hk] at h1 h3
    exact .inl ⟨k, i, hk, h1, h2, h3⟩
  · refine .inr ⟨fun k i hk hki => ?_, h2⟩
    exact h1 k i (by rw [List.getElem?_take, if_pos hk]; exact hki)
theorem cutAt_le (bs : List (List Nat)) : cutAt bs ≤ bs.length := by
  unfold cutAt
  cases hf : (List.range bs.length).find? fun m => fullFrom m (bs.drop m) with
  | none => exact Nat.le_refl _
  | some m =>
    have := List.mem_of_find?_eq_some hf
    rw [List.mem_range] at this
    exact Nat.le_of_lt this
theorem gs_mem : ∀ (t : T) (s : Nat), gs t s = .un ∨ ∃ p ∈ t, p.2 = gs t s := by
  intro t
  induction t with
  | nil => intro s; exact .inl rfl
  | cons p t ih =>
    intro s
    rw [gs_cons]
    cases hb : Nat.beq p.1 s
    · rw [cond_false]
      rcases ih s with h | ⟨q, h1, h2⟩
      · exact .inl h
      · exact .inr ⟨q, by simp [h1], h2⟩
    · exact .inr ⟨p, by simp, rfl⟩
theorem rgd_ok {r : Option Nat} {N : Nat} (hm : P.follows .mixedOrders = true) (hE : E.ρ.length = E.h.length) {id : Nat} {ops : Array Oper} {x : C} (hx : comp P n (.region id ops true) = some x) {K : Ex → T → H → Prop} (hC : Conc E n G ρ t h a w)
    (hk : ∀ n0, wx (Sat P) ow n0 x t h K) : (Code.region id ops true).wpIn (Fw r) N P (QK E n K) a w := by
  simp only [comp] at hx
  cases hnd : ops.toList.all nod with
  | false =>
    rw [hnd] at hx
    cases hx
    exact (hk 0).elim
  | true =>
  rw [hnd, Bool.not_true, cond_false] at hx
  simp only [Option.bind_eq_bind, Option.bind_eq_some_iff] at hx
  obtain ⟨is, his, hx⟩ := hx
  split at hx
  · rename_i hchk
    cases hx
    have hk := hk 0
    simp only [wx_rgd] at hk
    obtain ⟨os, hk⟩ := fro_some hk
    obtain ⟨G, t, h, vs, hC, _, _, hk⟩ := give_ok os.1 G t h [] (fun _ => undef) hC (by simp) hk
    generalize hbs : befs (ops.toList.map deps) = bs at *
    generalize hmm : cutAt bs = m at *
    simp only [Bool.and_eq_true] at hchk
    obtain ⟨⟨c1, c2⟩, c3⟩ := hchk
    obtain ⟨il, ig⟩ := mapM_get his
    obtain ⟨bl, bg⟩ := befs_ok (ops.toList.map deps)
    rw [hbs] at bl bg
    have hbl : bs.length = ops.size := by simpa using bl
    have hil : is.length = ops.size := by simpa using il
    have hml : m ≤ ops.size := by rw [← hmm, ← hbl]; exact cutAt_le bs
    have hqg : ∀ (j : Nat) (x : I) (b : List Nat), j < m → is[j]? = some x → bs[j]? = some b → ((is.zip bs).take m)[j]? = some (x, b) := fun j x b hj hx hb => by
      rw [List.getElem?_take, if_pos hj, List.getElem?_zip_eq_some]
      exact ⟨hx, hb⟩
    have hql : ((is.zip bs).take m).length = m := by simp; omega
    have hq1 : ∀ j, j ≤ m → (((is.zip bs).take m).take j).map (·.1) = is.take j := fun j hj => by
      rw [List.take_take, Nat.min_eq_left hj, List.map_take]
      congr 1
      exact List.map_fst_zip (by omega)
    simp only [fl_eq] at hk
    generalize cal ((is.zip bs).take m) + os.2 = kk at hk
    have hlo : E.ρ.length ≤ h.length := by rw [hE]; exact hC.ok.hl
    obtain ⟨ρ, hC⟩ := hC.room kk
    generalize hh1 : h ++ List.replicate kk B.nw = h1 at *
    obtain ⟨rs, tR, hR, hkR, hRef⟩ := rq_ref ow _ _ _ _ hk
    have hrl := hRef.r1
    have htR := hRef.r2
    have hvq := hRef.r3
    rw [hql] at hrl
    have hvl : (rs.map (·.v)).length = m := by simpa using hrl
    have hlts : ∀ (k : Nat), k ≤ m → (∀ (j : Nat) (r : R), j < k → rs[j]? = some r → (r.ws.map (·.1)).Nodup ∧ ∀ w ∈ r.ws, w.1 < h1.length) ∧ ((rs.take k).foldl wr h1).length = h1.length := by
      intro k
      induction k with
      | zero => intro _; exact ⟨fun j r hj => by omega, by simp⟩
      | succ k ih =>
        intro hk
        obtain ⟨i1, i2⟩ := ih (by omega)
        have hkb : k < bs.length := by omega
        obtain ⟨r, v1, v2⟩ := hvq k _ (hqg k _ _ (by omega) (List.getElem?_eq_getElem (by omega)) (List.getElem?_eq_getElem hkb))
        have hw := rok.ws ow v2
        rw [i2] at hw
        refine ⟨fun j r' hj hr' => ?_, ?_⟩
        · rcases Nat.lt_or_ge j k with h0 | h0
          · exact i1 j r' h0 hr'
          · obtain rfl : j = k := by omega
            rw [v1] at hr'; cases hr'
            exact hw
        · rw [List.take_add_one, v1, List.foldl_append]
          simp only [Option.toList, List.foldl_cons, List.foldl_nil]
          rw [(wr_get hw.1 (by rw [i2]; exact hw.2)).1]
          exact i2
    have D : Drw ow P n ops is bs m h.length rs t h1 := by
      refine ⟨hil, hml, fun j o ho => ?_, fun j o ho => ?_, fun j b hb k hk => ?_, fun j b hj hb i hi => ?_, fun i j x y bi bj hi hj hne hx hy hbi hbj => ?_, fun j x hj hx => ?_, hrl, fun j k r r' b hj hk hb hlt hcf => ?_, fun j r hj id hid => ?_⟩
      · have hjl : j < is.length := by rw [hil]; exact (Array.getElem?_eq_some_iff.1 ho).1
        exact ⟨is[j], List.getElem?_eq_getElem hjl, ig j o _ (by simpa using ho) (List.getElem?_eq_getElem hjl)⟩
      · exact bg j (deps o) (by rw [List.getElem?_map]; simp [ho])
      · have := okB_ok bs 0 c1 j b hb k hk; omega
      · exact full_ok _ m c3 (j - m) b (by rw [List.getElem?_drop]; rw [← hb]; congr 1; omega) i (by omega)
      · exact okD_ok c2 (hqg i x bi hi hx hbi) (hqg j y bj hj hy hbj) hne
      · have hjb : j < bs.length := by omega
        obtain ⟨v, v1, v2⟩ := hvq j _ (hqg j x _ hj hx (List.getElem?_eq_getElem hjb))
        rw [hq1 j (by omega), List.map_take] at v2
        exact ⟨v, _, _, v1, v2, puts_take (by omega) (by omega), hagr_fold (hlts j (by omega)).1⟩
      · have hkm : k < m := by rw [← hrl]; exact (List.getElem?_eq_some_iff.1 hk).1
        have := hRef.r6 j k r r' _ hj hk (hqg k _ b hkm (List.getElem?_eq_getElem (by omega)) hb) hlt hcf
        simpa using this
      · obtain ⟨k1, k2, _, k4⟩ := hRef.r7 j r hj id hid
        refine ⟨fun s hs => ?_, k2, fun k r' x hlt hk hx => ?_⟩
        · rcases gs_mem t s with e | ⟨p, hp, e⟩
          · rw [e] at hs; cases hs
          · rw [← e] at hs; exact k1 p hp hs
        · have hkm : k < m := by rw [← hrl]; exact (List.getElem?_eq_some_iff.1 hk).1
          exact k4 k r' _ hlt hk (hqg k x _ hkm hx (List.getElem?_eq_getElem (by omega)))
    have hA : agree is (rs.map (·.v)) (· < m) t tR := by
      have h1 := puts_take (is := is) (vs := rs.map (·.v)) (t := t) (j := m) (by omega) (by omega)
      have h2 := hq1 m (Nat.le_refl _)
      rw [List.take_take, Nat.min_self] at h2
      intro s
      have h3 := htR s
      rw [h2] at h3
      have h4 : (rs.map (·.v)).take m = rs.map (·.v) := List.take_of_length_le (by omega)
      rw [h4] at h1
      rw [h3]
      exact h1 s
    have hH : hagr rs (· < m) h1 hR := by
      have := hagr_fold (hlts m (Nat.le_refl _)).1
      rw [List.take_of_length_le (by omega)] at this
      rw [hRef.r4]
      exact this
    refine region_any_in qk_nl (nod_all hnd) hm (drawn_ok ow hlo hE D hkR hA hH _ _ _ _ ?_ ⟨by simp, fun j b hj => ?_, .inl ⟨fun j hj => ?_, G, ρ, t, h1, hC.grow (Grw.draw w _) (fun _ h => h) (fun _ h => .inl h), fun s => .inr ⟨fun k i hk => ?_, rfl⟩, rfl, fun i => .inr ⟨fun k r w hk => ?_, rfl⟩⟩⟩)
    · rw [Array.toList_replicate]
      exact Nat.le_trans List.count_le_length (by simp)
    · have := getD_lt hj
      simp at this
      simp [this] at hj
    · have := getD_lt hj
      simp at this
      simp [this] at hj
    · have := getD_lt hk
      simp at this
      simp [this] at hk
    · have := getD_lt hk
      simp at this
      simp [this] at hk
  · cases hx; exact (hk 0).elim
theorem wkb_self (v : V) : wkb v v := by
  cases v <;> rfl
theorem wkb_or {x y : V} (h : wkb x y) : x = y ∨ ∃ z, x = .nl z ∧ y = .d (.sl z []) := by
  unfold wkb at h
  split at h
  · subst h; exact .inr ⟨_, rfl, rfl⟩
  · exact .inl h
theorem RepC.wk {v : Value} {x y : V} (hv : RepC G w ρ v x) (h : wkb x y) : RepC G w ρ v y := by
  rcases wkb_or h with rfl | ⟨z, rfl, rfl⟩
  · exact hv
  · cases hv with
    | k h => cases h with
      | nl => exact .k (.d (.slz z))
theorem Rep2.wk {v : Value} {x y : V} (hv : Rep2 G w ρ v x) (h : wkb x y) : Rep2 G w ρ v y := by
  rcases wkb_or h with rfl | ⟨z, rfl, rfl⟩
  · exact hv
  · cases hv with
    | o h => cases h with
      | c h => exact .o (.c (h.wk (by rfl)))
theorem wkL_get : ∀ {a b : List V}, wkL a b → a.length = b.length ∧ ∀ (i : Nat) (y : V), b[i]? = some y → ∃ x, a[i]? = some x ∧ wkb x y
  | [], [], _ => ⟨rfl, by simp⟩
  | _ :: _, [], h => h.elim
  | [], _ :: _, h => h.elim
  | a :: r, b :: s, h => by
    obtain ⟨h1, h2⟩ := h
    obtain ⟨g1, g2⟩ := wkL_get h2
    refine ⟨by simp [g1], fun i y hy => ?_⟩
    cases i with
    | zero => simp at hy; subst hy; exact ⟨a, rfl, h1⟩
    | succ i => simpa using g2 i y (by simpa using hy)
theorem wkB_or {x y : B} (h : wkB x y) : x = y ∨ ∃ a b, x = .cells a ∧ y = .cells b ∧ wkL a b := by
  unfold wkB at h
  split at h
  · rcases h with rfl | h
    · exact .inl rfl
    · exact .inr ⟨_, _, rfl, rfl, h⟩
  · exact .inl h
theorem wkB_no {x y : B} (h : wkB x y) (hy : y ≠ .no) : x ≠ .no := by
  rcases wkB_or h with rfl | ⟨a, b, rfl, rfl, _⟩
  · exact hy
  · simp
theorem RepB.wk {hd : Value} {x y : B} (hv : RepB G w ρ hd x) (h : wkB x y) : RepB G w ρ hd y := by
  rcases wkB_or h with rfl | ⟨a, b, rfl, rfl, hl⟩
  · exact hv
  · obtain ⟨bb, arr, ty, h1, h2, h3, h4⟩ := hv
    obtain ⟨g1, g2⟩ := wkL_get hl
    refine ⟨bb, arr, ty, h1, h2, h3.trans g1, fun i y hy => ?_⟩
    obtain ⟨x, hx, hw⟩ := g2 i y hy
    exact (h4 i x hx).wk hw
theorem gs_sub : ∀ {t s : T}, subs t s → ∀ i, gs s i = .un ∨ (wkb (gs t i) (gs s i) ∧ ∃ p ∈ s, p.2 = gs s i) := by
  intro t s
  induction s with
  | nil => intro _ i; exact .inl rfl
  | cons p s ih =>
    intro hs i
    obtain ⟨j, v⟩ := p
    simp only [subs] at hs
    simp only [gs_cons]
    by_cases e : j = i
    · subst e
      simp only [Nat.beq_refl, cond_true]
      exact .inr ⟨hs.1, (j, v), by simp, rfl⟩
    · rw [nbeq e]
      rcases ih hs.2 i with h1 | ⟨h1, p, h2, h3⟩
      · exact .inl h1
      · exact .inr ⟨h1, p, by simp [h2], h3⟩
theorem subh_get : ∀ {h s : H}, subh h s → s.length ≤ h.length ∧ ∀ (i : Nat) (x : B), s[i]? = some x → x = .no ∨ ∃ y, h[i]? = some y ∧ wkB y x := by
  intro h
  induction h with
  | nil =>
    intro s hs
    cases s with
    | nil => simp
    | cons => exact hs.elim
  | cons b h ih =>
    intro s hs
    cases s with
    | nil => simp
    | cons c s =>
      have hc : subh h s ∧ (c = .no ∨ wkB b c) := by
        cases c with
        | no => exact ⟨hs, .inl rfl⟩
        | _ => exact ⟨hs.2, .inr hs.1⟩
      obtain ⟨h1, h2⟩ := ih hc.1
      refine ⟨by simp; omega, fun i x hi => ?_⟩
      cases i with
      | zero =>
        simp at hi
        subst hi
        rcases hc.2 with h3 | h3
        · exact .inl h3
        · exact .inr ⟨b, by simp, h3⟩
      | succ i => simpa using h2 i x (by simpa using hi)
theorem Conc.lessG (hC : Conc E n G ρ t h a w) (hE : E.ρ.length = E.h.length) {s1 : T} {s2 : H} (ht : ∀ i, gs s1 i = .un ∨ (wkb (gs t i) (gs s1 i) ∧ ∃ p ∈ s1, p.2 = gs s1 i)) (hh : subh h s2) (hl : lts E.h.length s1 s2 = true) : ∃ ρ', ρ' = ρ.take s2.length ∧ Conc E n G ρ' s1 s2 a w := by
  obtain ⟨h1, h2⟩ := subh_get hh
  simp only [lts, Bool.and_eq_true, List.all_eq_true] at hl
  obtain ⟨⟨l1, l2⟩, l3⟩ := hl
  have l1 := Nat.le_of_ble_eq_true l1
  have hr := hC.ok.hr
  have hρl := hr.len
  have hg : ∀ (i : Nat) (v : Value), (ρ.take s2.length)[i]? = some v → ρ[i]? = some v := fun i v hi => by
    rw [List.getElem?_take] at hi
    split at hi
    · exact hi
    · cases hi
  have hg' : ∀ i, i < s2.length → (ρ.take s2.length)[i]? = ρ[i]? := fun i hi => by rw [List.getElem?_take, if_pos hi]
  have ho : ∀ b, own (ρ.take s2.length) s2 b → own ρ h b := by
    rintro b ⟨i, v, x, g1, g2, g3, g4⟩
    obtain ⟨y, y1, y2⟩ := (h2 i x g2).resolve_left g3
    exact ⟨i, v, y, hg i v g1, y1, wkB_no y2 g3, g4⟩
  refine ⟨ρ.take s2.length, rfl, ⟨⟨by simp; omega, fun i v x g1 g2 => ?_, fun i i' v v' x x' b g1 g2 g3 g4 g5 g6 g7 g8 => ?_, hr.gl, fun b hb hob => hr.gd b hb (ho b hob), hr.glb⟩, hC.ok.gm, hC.ok.go, fun b hb => hC.ok.oo b (ho b hb), hC.ok.frame, hC.ok.size, hC.ok.os, hC.ok.tape,
    hC.ok.out, fun i v g1 g2 => ?_, l1, fun r hr => let ⟨e1, e2, e3⟩ := hC.ok.mks r hr; ⟨e1, e2, fun e4 => e3 (ho r e4)⟩⟩, hC.df, hC.sz, fun i => ?_⟩
  · rcases h2 i x g2 with rfl | ⟨y, h3, h4⟩
    · trivial
    · exact ((hr.rep i v y (hg i v g1) h3).wk h4).mono (fun _ h => h) (fun _ _ => rfl) (fun _ _ => rfl) (fun j hj => hg' j ((Nat.blt_eq ..).mp (l3 x (List.mem_of_getElem? g2) j hj)))
  · obtain ⟨y, y1, y2⟩ := (h2 i x g2).resolve_left g3
    obtain ⟨y', y1', y2'⟩ := (h2 i' x' g5).resolve_left g6
    exact hr.dis i i' v v' y y' b (hg i v g1) y1 (wkB_no y2 g3) (hg i' v' g4) y1' (wkB_no y2' g6) g7 g8
  · have := hC.ok.hand i v g1 g2
    rw [hg' i]
    · exact this
    · have := (List.getElem?_eq_some_iff.1 g1).1; omega
  · rcases ht i with e | ⟨e, p, p1, p2⟩
    · rw [e]; exact .k (.un _)
    · refine ((hC.tm i).wk e).mono (fun _ h => h) (fun _ _ => rfl) (fun j hj => hg' j ?_)
      have := l2 p p1 j (by rw [p2]; exact hj)
      exact (Nat.blt_eq ..).mp this
theorem Conc.less (hC : Conc E n G ρ t h a w) (hE : E.ρ.length = E.h.length) {s1 : T} {s2 : H} (ht : subs t s1) (hh : subh h s2) (hl : lts E.h.length s1 s2 = true) : ∃ ρ', ρ' = ρ.take s2.length ∧ Conc E n G ρ' s1 s2 a w :=
  hC.lessG hE (gs_sub ht) hh hl
theorem Conc.lessH (hC : Conc E n G ρ t h a w) (hE : E.ρ.length = E.h.length) {s2 : H} (hh : subh h s2) (hl : lts E.h.length t s2 = true) : ∃ ρ', ρ' = ρ.take s2.length ∧ Conc E n G ρ' t s2 a w :=
  hC.lessG hE (fun i => (gs_mem t i).imp (fun h => h) fun ⟨p, h1, h2⟩ => ⟨wkb_self _, p, h1, h2⟩) hh hl
end
end Go.Vx
