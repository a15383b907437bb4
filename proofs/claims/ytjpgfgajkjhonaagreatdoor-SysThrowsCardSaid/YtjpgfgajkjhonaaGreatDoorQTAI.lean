/- Calls that are lent what is owned and make new lists, or that take lists and give others. Conditions: none; lemmas on the definitions before. -/
import Derived.Test.YtjpgfgajkjhonaaGreatDoorQTAH
import Derived.Laws.CopyRow
namespace Go.Vx
section
variable {P : Program} {E : Ent} {n : Nat} {G : Nat → Prop} {ρ : List Value} {t : T} {h : H} {a : Act} {w w' : World} {o : Oper} {nxt : Act → World → Prop} {Q : Exit → Act → World → Prop} {K KP : V → T → H → Prop}
theorem sclB_ok {G' : Nat → Prop} {ρ' : List Value} {v : Value} {x : B} (hv : RepB G w ρ v x) (hs : sclB x = true) : RepB G' w ρ' v x := by
 cases x <;> simp only [sclB, Bool.false_eq_true] at hs
 rename_i z rs
 simp only [List.all_eq_true] at hs
 rcases hv with hv | ⟨b, cap, arr, ty, h0, h1, h2, h3, h4, h5⟩
 ·exact .inl hv
 ·exact .inr ⟨b, cap, arr, ty, h0, h1, h2, h3, h4, fun i row hr => ⟨(h5 i row hr).1, fun j x hx => scd_ok ((h5 i row hr).2 j x hx) (hs row (List.mem_of_getElem? hr) x (List.mem_of_getElem? hx))⟩⟩
theorem sclo_ok {G' : Nat → Prop} {ρ' : List Value} {f : Nat → Nat} {v : Value} {x : V} (hv : Rep2 G w ρ v x) (hs : sclo x = true) (hf : ∀ i ∈ id2 x, ρ'[f i]? = ρ[i]?) : Rep2 G' w ρ' v (rn2 f x) := by
 have one : ∀ {v : Value} {x : V}, Rep1 G w ρ v x → scl1 x = true → (∀ i ∈ id1 x, ρ'[f i]? = ρ[i]?) → Rep1 G' w ρ' v (rn1 f x) := by
  intro v x hv hs hf
  cases x <;> simp only [scl1, scl, Bool.false_eq_true] at hs
  ·exact scl_ok (.o hv) hs
  ·cases hv with
   | c hv => cases hv with
    | k hv => cases hv with
     | os id a n c h => exact .c (.k (.os _ a n c ((hf _ (List.mem_singleton.2 rfl)).trans h)))
 by_cases hx : ∃ c, x = .tu c
 ·obtain ⟨c, rfl⟩ := hx
  obtain ⟨cs, rfl, h1, h2⟩ := hv.tul
  refine .tu cs _ (by simpa using h1) fun i x hi => ?_
  rw [List.getElem?_map, Option.map_eq_some_iff] at hi
  obtain ⟨x0, hi, rfl⟩ := hi
  exact one (h2 i x0 hi) (List.all_eq_true.1 hs x0 (List.mem_of_getElem? hi)) fun j hj => hf j (by simp only [id2, List.mem_flatMap]; exact ⟨x0, List.mem_of_getElem? hi, hj⟩)
 ·have e1 : sclo x = scl1 x := by cases x <;> first | rfl | exact absurd ⟨_, rfl⟩ hx
  have e2 : rn2 f x = rn1 f x := by cases x <;> first | rfl | exact absurd ⟨_, rfl⟩ hx
  have e3 : id2 x = id1 x := by cases x <;> first | rfl | exact absurd ⟨_, rfl⟩ hx
  rw [e2]
  cases hv with
  | o hv => exact .o (one hv (e1 ▸ hs) (e3 ▸ hf))
  | tu => exact absurd ⟨_, rfl⟩ hx
theorem Conc.pushL (hC : Conc E n G ρ t h a w) (hg : Grw w w') {ρ1 : List Value} {ns : List B} (hl : ρ1.length = ns.length) (rep : ∀ (k : Nat) (v : Value) (x : B), ρ1[k]? = some v → ns[k]? = some x → RepB G w' (ρ ++ ρ1) v x)
  (fresh : ∀ b, own ρ1 ns b → w.heap.size ≤ b) (dis : ∀ (i j : Nat) (v u : Value) (x y : B) (b : Nat), ρ1[i]? = some v → ns[i]? = some x → x ≠ .no → ρ1[j]? = some u → ns[j]? = some y → y ≠ .no → b ∈ bks v x → b ∈ bks u y → i = j) :
  Conc E n G (ρ ++ ρ1) t (h ++ ns) a w' := by
 have hO := hC.ok
 have hr := hO.hr
 have hpre : ∀ i, i < ρ.length → (ρ ++ ρ1)[i]? = ρ[i]? := fun i hi => List.getElem?_append_left hi
 have hw : ∀ b, G b → w'.heap[b]? = w.heap[b]? := fun b hb => hg.old b (hr.gl b hb)
 have get : ∀ (i : Nat) (v : Value) (y : B), (ρ ++ ρ1)[i]? = some v → (h ++ ns)[i]? = some y → (ρ[i]? = some v ∧ h[i]? = some y) ∨ ∃ k, i = h.length + k ∧ ρ1[k]? = some v ∧ ns[k]? = some y := by
  intro i v y h1 h2
  by_cases hi : i < h.length
  ·rw [hpre i (by rw [hr.len]; exact hi)] at h1
   rw [List.getElem?_append_left hi] at h2
   exact .inl ⟨h1, h2⟩
  ·rw [List.getElem?_append_right (by rw [hr.len]; omega), hr.len] at h1
   rw [List.getElem?_append_right (by omega)] at h2
   exact .inr ⟨i - h.length, by omega, h1, h2⟩
 have hown : ∀ b, own (ρ ++ ρ1) (h ++ ns) b → own ρ h b ∨ w.heap.size ≤ b := by
  rintro b ⟨i, v, y, h1, h2, h3, h4⟩
  rcases get i v y h1 h2 with ⟨g1, g2⟩ | ⟨k, _, g1, g2⟩
  ·exact .inl ⟨i, v, y, g1, g2, h3, h4⟩
  ·exact .inr (fresh b ⟨k, v, y, g1, g2, h3, h4⟩)
 refine ⟨⟨⟨by simp [hr.len, hl], fun i v y h1 h2 => ?_, fun i j v u x y b h1 h2 h3 h4 h5 h6 h7 h8 => ?_, fun b hb => Nat.lt_of_lt_of_le (hr.gl b hb) hg.size, fun b hb ho => ?_, hr.glb.mono (fun _ h => h) hw⟩, hO.gm, fun b hb => (hO.go b hb).imp (fun h => h) fun h2 => ⟨h2.1.same (hw b hb), h2.2⟩, fun b hb => ?_,
  fun b hb hn => (hg.old b (Nat.lt_of_lt_of_le hb hO.size)).trans (hO.frame b hb hn), Nat.le_trans hO.size hg.size, hg.os.trans hO.os, hg.tape.trans hO.tape, hg.out.trans hO.out, fun id v hv hs => ?_, by have := hO.hl; simp; omega, fun r hr' => ?_⟩, hC.df, hC.sz,
  fun i => (hC.tm i).mono (fun _ h => h) hw (fun j hj => hpre j ((hC.tm i).lt j hj))⟩
 ·rcases get i v y h1 h2 with ⟨g1, g2⟩ | ⟨k, _, g1, g2⟩
  ·have hrep := hr.rep i v y g1 g2
   by_cases hy : y = .no
   ·subst hy; trivial
   ·exact hrep.mono (fun _ h => h) hw (fun b hb => hg.old b (hr.lt g1 g2 hy hb)) (fun j hj => hpre j (hrep.lt j hj))
  ·exact rep k v y g1 g2
 ·rcases get i v x h1 h2 with ⟨g1, g2⟩ | ⟨k, rfl, g1, g2⟩ <;> rcases get j u y h4 h5 with ⟨k1, k2⟩ | ⟨k', rfl, k1, k2⟩
  ·exact hr.dis i j v u x y b g1 g2 h3 k1 k2 h6 h7 h8
  ·have := hr.lt g1 g2 h3 h7
   have := fresh b ⟨k', u, y, k1, k2, h6, h8⟩
   omega
  ·have := hr.lt k1 k2 h6 h8
   have := fresh b ⟨k, v, x, g1, g2, h3, h7⟩
   omega
  ·rw [dis k k' v u x y b g1 g2 h3 k1 k2 h6 h7 h8]
 ·rcases hown b ho with h1 | h1
  ·exact hr.gd b hb h1
  ·have := hr.gl b hb; omega
 ·rcases hown b hb with h1 | h1
  ·exact hO.oo b h1
  ·exact .inl (Nat.le_trans hO.size h1)
 ·have := hO.hand id v hv hs
  rw [hpre id (List.getElem?_eq_some_iff.1 this).1]
  exact this
 ·obtain ⟨h1, h2, h3⟩ := hO.mks r hr'
  have hlt := (Array.getElem?_eq_some_iff.1 h1).1
  refine ⟨(hg.old r hlt).trans h1, h2, fun h4 => ?_⟩
  rcases hown r h4 with h5 | h5
  ·exact h3 h5
  ·omega
theorem get_list (as : Array Value) (i : Nat) : as.toList.getD i undef = as.getD i undef := by
 rw [List.getD_eq_getElem?_getD, Array.getElem?_toList, Array.getD_eq_getD_getElem?]
theorem lent_call (hC : Conc E n G ρ t h a w) {f : Nat} (hlt : f < 5000000) {as : Array Value} {vs : List V} (hrun : callOk P f = true → (execOp a.eval o).run P w = .ok (.enter f as) w) (hl : as.size = vs.length)
  (hv : ∀ (i : Nat) (x : V), vs[i]? = some x → Rep2 G w ρ (as.getD i undef) x) {r : V} {ns : List B} (hS : Sat P f (vs.map (bor2 h)) [] fun out h' => out = .ret r ∧ h' = ns) (hns : ns.all sclB = true) (hr : sclo r = true)
  (hnx : ∀ (v : Value) (w' : World) (ρ' : List Value), Conc E n G ρ' t (h ++ ns) a w' → Rep2 G w' ρ' v (rn2 (fun k => h.length + k) r) → nxt (a.put o.dst v) w') : o.wp P a w nxt Q := by
 obtain ⟨hok, hS⟩ := hS.fn hlt
 have hr0 : HR (all w) w [] [] := ⟨rfl, by simp, by simp, fun _ h => h, (fun b _ ho => by obtain ⟨_, _, _, h1, _⟩ := ho; simp at h1), hC.ok.hr.glb.mono (fun b hb => hC.ok.hr.gl b hb) (fun _ _ => rfl)⟩
 have hc := hS (all w) w [] as.toList hr0 (by simpa using hl) (fun i x hx => by
  rw [get_list]
  rw [List.getElem?_map] at hx
  cases hc : vs[i]? with
  | none => rw [hc] at hx; cases hx
  | some x0 => rw [hc] at hx; cases hx; exact bor2_ok hC.ok.hr (hv i x0 hc))
 rw [Array.toArray_toList] at hc
 unfold Oper.wp
 rw [hrun hok, Oper.upon_enter]
 refine hc.mono fun e w' hr' => ?_
 obtain ⟨G', ρ1, h', out, hO, hR, rfl, rfl⟩ := hr'
 obtain ⟨v, rfl, hv'⟩ := hR
 have hno : ∀ b, ¬ own ([] : List Value) ([] : H) b := fun b ho => by obtain ⟨_, _, _, h1, _⟩ := ho; simp at h1
 have hg : Grw w w' := ⟨hO.size, fun b hb => hO.frame b hb (hno b), hO.os, hO.tape, hO.out⟩
 have hC' := hC.pushL hg (ρ1 := ρ1) hO.hr.len (fun k v x g1 g2 => sclB_ok (hO.hr.rep k v x g1 g2) (List.all_eq_true.1 hns x (List.mem_of_getElem? g2))) (fun b hb => (hO.oo b hb).resolve_right (hno b)) hO.hr.dis
 refine hnx v w' _ hC' (sclo_ok hv' hr fun i hi => ?_)
 rw [List.getElem?_append_right (by rw [hC.ok.hr.len]; omega), hC.ok.hr.len]
 congr 1
 omega
def gone (ids : List Nat) (h : H) : H := h.zipIdx.map fun p => bif has ids p.2 then .no else p.1
theorem gone_len (ids : List Nat) (h : H) : (gone ids h).length = h.length := by simp [gone]
theorem gone_get {ids : List Nat} {h : H} {i : Nat} : (gone ids h)[i]? = if i ∈ ids then (h[i]?).map fun _ => .no else h[i]? := by
 simp only [gone, List.getElem?_map, List.getElem?_zipIdx]
 cases h[i]? with
 | none => simp
 | some x =>
  simp only [Option.map_some, Nat.zero_add]
  split
  ·rename_i hi; rw [has_iff.2 hi]; rfl
  ·rename_i hi
   have : has ids i = false := by
    rw [Bool.eq_false_iff]; exact fun h => hi (has_iff.1 h)
   rw [this]; rfl
theorem take_call (hC : Conc E n G ρ t h a w) {f : Nat} (hlt : f < 5000000) {as : Array Value} {vs : List V} (hrun : callOk P f = true → (execOp a.eval o).run P w = .ok (.enter f as) w) (hl : as.size = vs.length)
  (hv : ∀ (i : Nat) (x : V), vs[i]? = some x → Rep2 G w ρ (as.getD i undef) x) {ids : List Nat} (hids : ∀ x ∈ vs, ∀ j ∈ id2 x, j ∈ ids) (hnd : ids.Nodup) (hrw : ∀ i ∈ ids, ∃ z rs, h[i]? = some (.rows z rs)) {r : V} {ns : List B}
  (hS : Sat P f (vs.map (rn2 (pos ids))) (ids.map fun i => rnB (pos ids) ((get? h i).getD .no)) fun out h' => out = .ret r ∧ h' = List.replicate ids.length .no ++ ns)
  (hns : ∀ b ∈ ns, ∀ k ∈ idB b, ids.length ≤ k) (hr : ∀ k ∈ id2 r, ids.length ≤ k)
  (hnx : ∀ (v : Value) (w' : World) (G' : Nat → Prop) (ρ' : List Value), Conc E n G' ρ' t (gone ids h ++ ns.map (rnB fun k => h.length + k - ids.length)) a w' → Rep2 G' w' ρ' v (rn2 (fun k => h.length + k - ids.length) r) → nxt (a.put o.dst v) w') : o.wp P a w nxt Q := by
 obtain ⟨hok, hS⟩ := hS.fn hlt
 have hlts : ∀ i ∈ ids, i < h.length := fun i hi => by obtain ⟨z, rs, e⟩ := hrw i hi; exact (List.getElem?_eq_some_iff.1 e).1
 have hcl : ∀ i ∈ ids, ∀ x, h[i]? = some x → ∀ j ∈ idB x, j ∈ ids := fun i hi x hx j hj => by
  obtain ⟨z, rs, e⟩ := hrw i hi
  rw [e] at hx
  cases hx
  cases hj
 obtain ⟨hP, hown⟩ := hC.ok.hr.part hnd hlts hcl
 have hr0 := hC.ok.hr
 have hρl := hr0.len
 have hc := hS G w _ as.toList hP (by simpa using hl) (fun k x hx => by
  rw [List.getElem?_map] at hx
  cases hx0 : vs[k]? with
  | none => rw [hx0] at hx; cases hx
  | some x0 =>
   rw [hx0] at hx; cases hx
   rw [get_list]
   refine (hv k x0 hx0).ren (fun j hj => ?_)
   have hjm := hids x0 (List.mem_of_getElem? hx0) j hj
   have hjl := hlts j hjm
   rw [List.getElem?_map, pos_get hjm, Option.map_some, List.getElem?_eq_getElem (by omega)]; rfl)
 rw [Array.toArray_toList] at hc
 unfold Oper.wp
 rw [hrun hok, Oper.upon_enter]
 refine hc.mono fun e w' hr' => ?_
 obtain ⟨G', ρ', h', out, hO, hR, rfl, rfl⟩ := hr'
 obtain ⟨v, rfl, hv'⟩ := hR
 generalize (ids.map fun i => (ρ[i]?).getD undef) = ρc at *
 generalize (ids.map fun i => rnB (pos ids) ((get? h i).getD .no)) = hB at *
 have hoc : ∀ b, own ρc hB b → own ρ h b := fun b hb => by
  obtain ⟨i, v, x, _, g1, g2, g3, g4⟩ := hown b hb
  exact ⟨i, v, x, g1, g2, g3, g4⟩
 have hold : ∀ b, b < w.heap.size → ¬ own ρc hB b → w'.heap[b]? = w.heap[b]? := hO.frame
 have hGb : ∀ b, G b → w'.heap[b]? = w.heap[b]? := fun b hb => hold b (hr0.gl b hb) (fun ho => hr0.gd b hb (hoc b ho))
 have hsz : w.heap.size ≤ w'.heap.size := hO.size
 have hoth : ∀ (i : Nat) (v : Value) (x : B) (b : Nat), i ∉ ids → ρ[i]? = some v → h[i]? = some x → x ≠ .no → b ∈ bks v x → b < w.heap.size ∧ (¬ own ρc hB b) ∧ ¬ G' b ∧ ¬ own ρ' (List.replicate ids.length .no ++ ns) b := by
  intro i v x b hi g1 g2 g3 g4
  have hb := hr0.lt g1 g2 g3 g4
  have hno : ¬ own ρc hB b := fun ho => by
   obtain ⟨i', v', x', hm, k1, k2, k3, k4⟩ := hown b ho
   exact hi (by rw [hr0.dis i i' v v' x x' b g1 g2 g3 k1 k2 k3 g4 k4]; exact hm)
  refine ⟨hb, hno, fun hg => ?_, fun ho => ?_⟩
  ·rcases hO.go b hg with h1 | ⟨_, h1 | h1⟩
   ·exact hr0.gd b h1 ⟨i, v, x, g1, g2, g3, g4⟩
   ·exact absurd h1 (by show ¬ w.heap.size ≤ b; omega)
   ·exact hno h1
  ·rcases hO.oo b ho with h1 | h1
   ·exact absurd h1 (by show ¬ w.heap.size ≤ b; omega)
   ·exact hno h1
 have hlen := hO.hr.len
 rw [List.length_append, List.length_replicate] at hlen
 have hpre : ∀ i, i < ρ.length → (ρ ++ ρ'.drop ids.length)[i]? = ρ[i]? := fun i hi => List.getElem?_append_left hi
 have hren : ∀ k, ids.length ≤ k → (ρ ++ ρ'.drop ids.length)[h.length + k - ids.length]? = ρ'[k]? := fun k hk => by
  rw [List.getElem?_append_right (by omega), List.getElem?_drop]
  congr 1
  omega
 have get : ∀ (i : Nat) (v : Value) (y : B), (ρ ++ ρ'.drop ids.length)[i]? = some v → (gone ids h ++ ns.map (rnB fun k => h.length + k - ids.length))[i]? = some y → y ≠ .no →
   (i ∉ ids ∧ ρ[i]? = some v ∧ h[i]? = some y) ∨ ∃ k x, i = h.length + k ∧ ρ'[ids.length + k]? = some v ∧ ns[k]? = some x ∧ (List.replicate ids.length B.no ++ ns)[ids.length + k]? = some x ∧ y = rnB (fun k => h.length + k - ids.length) x := by
  intro i v y h1 h2 h3
  by_cases hi : i < h.length
  ·rw [hpre i (by rw [hρl]; exact hi)] at h1
   rw [List.getElem?_append_left (by rw [gone_len]; exact hi), gone_get] at h2
   split at h2
   ·rw [Option.map_eq_some_iff] at h2
    obtain ⟨_, _, rfl⟩ := h2
    exact absurd rfl h3
   ·exact .inl ⟨‹_›, h1, h2⟩
  ·rw [List.getElem?_append_right (by omega), List.getElem?_drop, hρl] at h1
   rw [List.getElem?_append_right (by rw [gone_len]; omega), gone_len, List.getElem?_map, Option.map_eq_some_iff] at h2
   obtain ⟨x, hx, rfl⟩ := h2
   refine .inr ⟨i - h.length, x, by omega, h1, hx, ?_, rfl⟩
   rw [List.getElem?_append_right (by simp), List.length_replicate, Nat.add_sub_cancel_left]
   exact hx
 have hnb : ∀ (k : Nat) (x : B) {v : Value} {b : Nat}, rnB (fun k => h.length + k - ids.length) x ≠ .no → b ∈ bks v (rnB (fun k => h.length + k - ids.length) x) → x ≠ .no ∧ b ∈ bks v x := fun k x v b h1 h2 => ⟨fun e => h1 ((rnB_no _ _).2 e), by rw [bks, gh_rnB] at h2; exact h2⟩
 have hownb : ∀ b, own (ρ ++ ρ'.drop ids.length) (gone ids h ++ ns.map (rnB fun k => h.length + k - ids.length)) b → (own ρ h b ∨ w.heap.size ≤ b) ∧ ¬ G' b := by
  rintro b ⟨i, v, y, h1, h2, h3, h4⟩
  rcases get i v y h1 h2 h3 with ⟨g0, g1, g2⟩ | ⟨k, x, rfl, g1, _, g2, rfl⟩
  ·exact ⟨.inl ⟨i, v, y, g1, g2, h3, h4⟩, (hoth i v y b g0 g1 g2 h3 h4).2.2.1⟩
  ·obtain ⟨x1, x2⟩ := hnb k x h3 h4
   have ho : own ρ' (List.replicate ids.length .no ++ ns) b := ⟨_, v, x, g1, g2, x1, x2⟩
   refine ⟨?_, fun hg => hO.hr.gd b hg ho⟩
   rcases hO.oo b ho with h5 | h5
   ·exact .inr h5
   ·exact .inl (hoc b h5)
 have hO2 := hC.ok
 refine hnx v w' G' _ ⟨⟨⟨by rw [List.length_append, List.length_append, gone_len, List.length_map, List.length_drop]; omega, fun i v y h1 h2 => ?_, fun i j v u x y b h1 h2 h3 h4 h5 h6 h7 h8 => ?_, hO.hr.gl, fun b hb ho => (hownb b ho).2 hb, hO.hr.glb⟩, fun b hb => hO.gm b (hO2.gm b hb), fun b hb => ?_, fun b hb => ?_,
   fun b hb hnb => ?_, Nat.le_trans hO2.size hsz, hO.os.trans hO2.os, hO.tape.trans hO2.tape, hO.out.trans hO2.out, fun i v hv hs => ?_, by rw [List.length_append, gone_len]; have := hO2.hl; omega, fun q hq => ?_⟩, hC.df, hC.sz, fun i => ?_⟩ ?_
 ·by_cases hy : y = .no
  ·subst hy; trivial
  ·rcases get i v y h1 h2 hy with ⟨g0, g1, g2⟩ | ⟨k, x, rfl, g1, g3, g2, rfl⟩
   ·have hrep := hr0.rep i v y g1 g2
    exact hrep.mono hO.gm hGb (fun b hb => by
     obtain ⟨e1, e2, _⟩ := hoth i v y b g0 g1 g2 hy hb
     exact hold b e1 e2) (fun j hj => hpre j (hrep.lt j hj))
   ·exact (hO.hr.rep _ v x g1 g2).ren fun j hj => hren j (hns x (List.mem_of_getElem? g3) j hj)
 ·rcases get i v x h1 h2 h3 with ⟨g0, g1, g2⟩ | ⟨k, x', rfl, g1, _, g2, rfl⟩ <;> rcases get j u y h4 h5 h6 with ⟨k0, k1, k2⟩ | ⟨k', y', rfl, k1, _, k2, rfl⟩
  ·exact hr0.dis i j v u x y b g1 g2 h3 k1 k2 h6 h7 h8
  ·obtain ⟨y1, y2⟩ := hnb k' y' h6 h8
   exact absurd ⟨_, u, y', k1, k2, y1, y2⟩ (hoth i v x b g0 g1 g2 h3 h7).2.2.2
  ·obtain ⟨x1, x2⟩ := hnb k x' h3 h7
   exact absurd ⟨_, v, x', g1, g2, x1, x2⟩ (hoth j u y b k0 k1 k2 h6 h8).2.2.2
  ·obtain ⟨x1, x2⟩ := hnb k x' h3 h7
   obtain ⟨y1, y2⟩ := hnb k' y' h6 h8
   have := hO.hr.dis _ _ v u x' y' b g1 g2 x1 k1 k2 y1 x2 y2
   omega
 ·rcases hO.go b hb with h1 | ⟨hc, h1 | h1⟩
  ·exact (hO2.go b h1).imp (fun h => h) fun h2 => ⟨h2.1.same (hGb b h1), h2.2⟩
  ·exact .inr ⟨hc, .inl (Nat.le_trans hO2.size h1)⟩
  ·exact .inr ⟨hc, hO2.oo b (hoc b h1)⟩
 ·rcases (hownb b hb).1 with h1 | h1
  ·exact hO2.oo b h1
  ·exact .inl (Nat.le_trans hO2.size h1)
 ·rw [hold b (Nat.lt_of_lt_of_le hb hO2.size) (fun ho => ?_)]
  ·exact hO2.frame b hb hnb
  ·rcases hO2.oo b (hoc b ho) with h1 | h1
   ·omega
   ·exact hnb h1
 ·have h0 := hO2.hand i v hv hs
  rw [hpre i (List.getElem?_eq_some_iff.1 h0).1]
  exact h0
 ·obtain ⟨h1, h2, h3⟩ := hO2.mks q hq
  have hlt := (Array.getElem?_eq_some_iff.1 h1).1
  refine ⟨(hold q hlt fun ho => h3 (hoc q ho)).trans h1, fun h4 => ?_, fun h4 => ?_⟩
  ·rcases hO.go q h4 with h5 | ⟨_, h5 | h5⟩
   ·exact h2 h5
   ·exact absurd h5 (by show ¬ w.heap.size ≤ q; omega)
   ·exact h3 (hoc q h5)
  ·rcases (hownb q h4).1 with h5 | h5
   ·exact h3 h5
   ·omega
 ·exact (hC.tm i).mono hO.gm hGb (fun j hj => hpre j ((hC.tm i).lt j hj))
 ·exact hv'.ren fun j hj => hren j (hr j hj)
theorem gcall_ok (hC : Conc E n G ρ t h a w) (hn : Nxt E n a o K nxt) (hp : Pnc E n a KP Q) {f : Nat} (hlt : f < 5000000) {as : Array Value} {vs : List V} (hrun : callOk P f = true → (execOp a.eval o).run P w = .ok (.enter f as) w) (hl : as.size = vs.length)
  (hv : ∀ (i : Nat) (x : V), vs[i]? = some x → Rep2 G w ρ (as.getD i undef) x) (hk : gcall (Sat P) f vs t h K KP) : o.wp P a w nxt Q := by
 unfold gcall at hk
 split at hk
 ·exact call_ok hC hn hp hlt hrun hl hv hk
 ·rcases hk with ⟨r, hkS, hs, hk⟩ | hk
  ·obtain ⟨hok, hS⟩ := hkS.fn hlt
   have hr0 : HR (all w) w [] [] := ⟨rfl, by simp, by simp, fun _ h => h, (fun b _ ho => by obtain ⟨_, _, _, h1, _⟩ := ho; simp at h1), hC.ok.hr.glb.mono (fun b hb => hC.ok.hr.gl b hb) (fun _ _ => rfl)⟩
   have hget : ∀ i, as.toList.getD i undef = as.getD i undef := by
    intro i; rw [List.getD_eq_getElem?_getD, Array.getElem?_toList, Array.getD_eq_getD_getElem?]
   have hc := hS (all w) w [] as.toList hr0 (by simpa using hl) (fun i x hx => by
    rw [hget]
    rw [List.getElem?_map] at hx
    cases hc : vs[i]? with
    | none => rw [hc] at hx; cases hx
    | some x0 => rw [hc] at hx; cases hx; exact bor2_ok hC.ok.hr (hv i x0 hc))
   rw [Array.toArray_toList] at hc
   unfold Oper.wp
   rw [hrun hok, Oper.upon_enter]
   refine hc.mono fun e w' hr => ?_
   obtain ⟨G', ρ', h', out, hO, hR, rfl, rfl⟩ := hr
   obtain ⟨v, rfl, hv'⟩ := hR
   have hg : Grw w w' := ⟨hO.size, fun b hb => hO.frame b hb (fun ho => by obtain ⟨_, _, _, h1, _⟩ := ho; simp at h1), hO.os, hO.tape, hO.out⟩
   exact hn v w' G ρ t h r (hC.grow hg (fun _ h => h) (fun _ h => .inl h)) (scl2_ok hv' hs) hk
  ·rcases lnt_or hk with hk | ⟨r, ns, hS, hc, hk⟩
   ·rw [fl_eq] at hk
    obtain ⟨G', t', h', vs', k1, k2, k3, k4⟩ := give_ok _ G t h _ (fun i => as.getD i undef) hC hv hk
    exact call_ok k1 hn hp hlt hrun (by rw [k2]; exact hl) k3 k4
   ·rw [fl_eq] at hk
    simp only [Bool.and_eq_true] at hc
    exact lent_call hC hlt hrun hl hv hS hc.1 hc.2 fun v w' ρ' hC' hr => hn v w' G ρ' t _ _ hC' hr hk
variable (ow : Nat → Bool)
theorem op_cf (hC : Conc E n G ρ t h a w) (hn : Nxt E n a o K nxt) (hp : Pnc E n a KP Q) {f : Nat} (hlt : f < 5000000) {c : Call} {oa : List O} (ho : o.op = .call c) (hcf : c.callee = .value (.func f)) (ha : args P c.args.toList c.argTypes.toList = some oa)
  (hk : opx (Sat P) ow (.cf f oa) t h K KP) : o.wp P a w nxt Q := by
 obtain ⟨g1, g2⟩ := args_ok hC _ _ _ ha
 have hrun : callOk P f = true → (execOp a.eval o).run P w = .ok (.enter f (c.args.map a.eval)) w := fun hok => by
  have := callFunc_ok (P := P) (w := w) (as := c.args.map a.eval) hok
  simp [execOp, ho, resolve, hcf, Act.eval, Deferred.ofValue, invoke, this]
 have hU : ∀ (i : Nat) (x : V), (oa.map fun x => clean1 (gv t x))[i]? = some x → Rep2 G w ρ ((c.args.map a.eval).getD i undef) x := by
  intro i x hx
  rw [List.getElem?_map] at hx
  cases hc : oa[i]? with
  | none => rw [hc] at hx; cases hx
  | some y =>
   rw [hc] at hx; cases hx
   have := g2 i y hc
   rw [List.getD_eq_getElem?_getD, List.getElem?_map, Array.getElem?_toList] at this
   rw [Array.getD_eq_getD_getElem?, Array.getElem?_map]
   exact clean1_ok this
 simp only [opx, fl_eq] at hk
 cases how : ow f <;> rw [how] at hk
 ·simp only [cond_false] at hk
  exact gcall_ok hC hn hp hlt hrun (by simp [g1]) hU hk
 ·simp only [cond_true] at hk
  exact call_ok hC hn hp hlt hrun (by simp [g1]) hU hk
theorem ptE_ok {x : D} {v : Value} (h : RepD G w v x) : RepK G w ρ v (ptE x) := by
 cases h with
 | pt b o off row U h1 h2 h3 => exact .e b o off row U h1 h2 h3
 | int k n => exact .d (.int k n)
 | bool b => exact .d (.bool b)
 | str s hs => exact .d (.str s hs)
 | slz z => exact .d (.slz z)
 | sle a z => exact .d (.sle a z)
 | sl b o cap z rows U h1 h2 h3 h4 h5 h6 => exact .d (.sl b o cap z rows U h1 h2 h3 h4 h5 h6)
 | np => exact .d .np
 | nf => exact .d .nf
 | ni => exact .d .ni
 | nm => exact .d .nm
 | fn f => exact .d (.fn f)
 | fc F _ cs caps h1 h2 h3 => exact .d (.fc F _ cs caps h1 h2 h3)
theorem fcD_ok {x : V} {v : Value} (h : Rep2 G w ρ v x) : Rep2 G w ρ v (fcD x) := by
 unfold fcD
 split
 ·rename_i f caps
  cases h.toD with
  | fc F _ cs _ h1 h2 h3 =>
   refine .o (.c (.fc _ _ cs _ h1 (by simpa using h2) fun i x hx => ?_))
   rw [List.getElem?_map, Option.map_eq_some_iff] at hx
   obtain ⟨y, hy, rfl⟩ := hx
   exact ptE_ok (h3 i y hy)
 ·exact h
theorem op_cc (hC : Conc E n G ρ t h a w) (hn : Nxt E n a o K nxt) (hp : Pnc E n a KP Q) {c : Call} {x : Operand} {ox : O} {oa : List O} {t1 : TypeId} (ho : o.op = .call c) (hcf : c.callee = .value x) (hx : opd P t1 x = some ox) (ha : args P c.args.toList c.argTypes.toList = some oa)
  (hk : opx (Sat P) ow (.cc ox oa) t h K KP) : o.wp P a w nxt Q := by
 obtain ⟨g1, g2⟩ := args_ok hC _ _ _ ha
 have hvx := fcD_ok (opd_ok hC hx)
 have hA : ∀ (i : Nat) (x : V), (oa.map fun x => clean1 (gv t x))[i]? = some x → Rep2 G w ρ ((c.args.map a.eval).getD i undef) x := by
  intro i x hx
  rw [List.getElem?_map] at hx
  cases hc : oa[i]? with
  | none => rw [hc] at hx; cases hx
  | some y =>
   rw [hc] at hx; cases hx
   have := g2 i y hc
   rw [List.getD_eq_getElem?_getD, List.getElem?_map, Array.getElem?_toList] at this
   rw [Array.getD_eq_getD_getElem?, Array.getElem?_map]
   exact clean1_ok this
 simp only [opx, fl_eq] at hk
 split at hk
 ·rename_i f caps hg
  rw [hg] at hvx
  obtain ⟨cs, hv0, hcl, hcr⟩ := hvx.fcl
  cases hb : Nat.blt f 1000000 <;> rw [hb] at hk
  ·simp only [cond_false] at hk
   cases hb2 : Nat.blt f 2000000 <;> rw [hb2] at hk
   ·exact hk.elim
   simp only [cond_true] at hk
   have hv := fcv_bm hv0 (fun hl => by rw [← Nat.blt_eq, hb] at hl; cases hl) (by simpa [Nat.blt_eq] using hb2)
   have hrun : callOk P (f - 1000000) = true → (execOp a.eval o).run P w = .ok (.enter (f - 1000000) (cs ++ c.args.map a.eval)) w := fun hok => by
    have := callFunc_ok (P := P) (w := w) (as := cs ++ c.args.map a.eval) hok
    simp [execOp, ho, resolve, hcf, hv, Deferred.ofValue, invoke, this]
   have hU : ∀ (i : Nat) (x : V), (caps ++ (oa.map fun x => clean1 (gv t x)))[i]? = some x → Rep2 G w ρ ((cs ++ c.args.map a.eval).getD i undef) x := by
    intro i x hx
    by_cases hi : i < caps.length
    ·rw [List.getElem?_append_left hi] at hx
     have := hcr i x hx
     rw [Array.getD_eq_getD_getElem?] at this ⊢
     rw [Array.getElem?_append_left (by omega)]
     exact .k this
    ·rw [List.getElem?_append_right (by omega)] at hx
     have := hA _ x hx
     rw [Array.getD_eq_getD_getElem?] at this ⊢
     rw [Array.getElem?_append_right (by omega), hcl]
     exact this
   exact gcall_ok hC hn hp (by have := hb2; simp [Nat.blt_eq] at this; omega) hrun (by simp [g1, hcl]) hU hk
  simp only [cond_true] at hk
  have hv := fcv_fn hv0 (by simpa [Nat.blt_eq] using hb)
  have hrun : callOk P f = true → (execOp a.eval o).run P w = .ok (.enter f (c.args.map a.eval ++ cs)) w := fun hok => by
   have := callFunc_ok (P := P) (w := w) (as := c.args.map a.eval ++ cs) hok
   simp [execOp, ho, resolve, hcf, hv, Deferred.ofValue, invoke, this]
  have hU : ∀ (i : Nat) (x : V), ((oa.map fun x => clean1 (gv t x)) ++ caps)[i]? = some x → Rep2 G w ρ ((c.args.map a.eval ++ cs).getD i undef) x := by
   intro i x hx
   have hsz : (c.args.map a.eval).size = (oa.map fun x => clean1 (gv t x)).length := by simp [g1]
   by_cases hi : i < (oa.map fun x => clean1 (gv t x)).length
   ·rw [List.getElem?_append_left hi] at hx
    have := hA i x hx
    rw [Array.getD_eq_getD_getElem?] at this ⊢
    rw [Array.getElem?_append_left (by omega)]
    exact this
   ·rw [List.getElem?_append_right (by omega)] at hx
    have := hcr _ x hx
    rw [Array.getD_eq_getD_getElem?] at this ⊢
    rw [Array.getElem?_append_right (by omega), hsz]
    exact .k this
  exact gcall_ok hC hn hp (by have := hb; simp [Nat.blt_eq] at this; omega) hrun (by simp [g1, hcl]) hU hk
 ·rename_i f hg
  rw [hg] at hvx
  have hv := fn_val hvx.toD
  have hrun : callOk P f = true → (execOp a.eval o).run P w = .ok (.enter f (c.args.map a.eval)) w := fun hok => by
   have := callFunc_ok (P := P) (w := w) (as := c.args.map a.eval) hok
   simp [execOp, ho, resolve, hcf, hv, Deferred.ofValue, invoke, this]
  cases hb : Nat.blt f 5000000 <;> rw [hb] at hk
  ·exact hk.elim
  ·rw [cond_true] at hk
   exact gcall_ok hC hn hp (by simpa [Nat.blt_eq] using hb) hrun (by simp [g1]) hA hk
 ·exact hk.elim
end
end Go.Vx
namespace Go.Vx
section
variable {P : Program} {E : Ent} {n : Nat} {G : Nat → Prop} {ρ : List Value} {t : T} {h : H} {a : Act} {w : World} {o : Oper} {nxt : Act → World → Prop} {Q : Exit → Act → World → Prop} {K KP : V → T → H → Prop}
variable (S : Nat → List V → H → (Out → H → Prop) → Prop) (ow : Nat → Bool)
theorem op_nq (hC : Conc E n G ρ t h a w) (hn : Nxt E n a o K nxt) {ne : Bool} {ty e t1 t2 : TypeId} {x : Operand} {ox : O} (ho : o.op = .binOp (bif ne then .neq else .eql) ty x (.const (.slice none 0 0)) t2) (hu : P.underlying ty = some (.slice e)) (hx : opd P t1 x = some ox)
  (hk : opx S ow (.nq ne ox) t h K KP) : o.wp P a w nxt Q := by
 have hv := opd_ok hC hx
 have run : ∀ (ad : Option Addr) (m c : Nat), a.eval x = .slice ad m c → (execOp a.eval o).run P w = .ok (.value (.bool (bif ne then !ad.isNone else ad.isNone))) w := by
  intro ad m c he
  have e0 : a.eval (.const (.slice none 0 0)) = .slice none 0 0 := rfl
  have heq : ∀ k, (Op.equalIn (k + 1) ty (.slice ad m c) (.slice none 0 0)).run P w = .ok ad.isNone w := fun k => by
   cases ad <;> simp [Op.equalIn, run_underlying hu]
  have heq : (Op.equal ty (.slice ad m c) (.slice none 0 0)).run P w = .ok ad.isNone w := heq 9999
  cases ne <;> simp only [cond_true, cond_false] at ho ⊢ <;> simp only [execOp, ho, he, e0]
  ·refine run_execv ?_
   simp [eqGuard, binOp, heq]
  ·refine run_execv ?_
   simp [eqGuard, binOp, heq]
 have both : ∀ (ad : Option Addr) (m c : Nat), a.eval x = .slice ad m c → K (.d (.bool true)) t h ∧ K (.d (.bool false)) t h → o.wp P a w nxt Q := by
  intro ad m c he hk
  refine wp_quiet hC hn (v := .d (.bool (bif ne then !ad.isNone else ad.isNone))) (run ad m c he) (.d (.bool _)) ?_
  cases (bif ne then !ad.isNone else ad.isNone)
  ·exact hk.2
  ·exact hk.1
 have one : ∀ (ad : Addr) (m c : Nat), a.eval x = .slice (some ad) m c → K (.d (.bool ne)) t h → o.wp P a w nxt Q := by
  intro ad m c he hk
  have := run (some ad) m c he
  exact wp_quiet hC hn this (.d (.bool _)) (by cases ne <;> exact hk)
 have data : ∀ (z : Nat) (r : List (List D)), RepD G w (a.eval x) (.sl z r) → (match r with | [] => K (.d (.bool true)) t h ∧ K (.d (.bool false)) t h | _ :: _ => K (.d (.bool ne)) t h) → o.wp P a w nxt Q := by
  intro z r hD hk
  cases r with
  | nil =>
   obtain ⟨ad, c, he, _⟩ := hD.len
   exact both ad _ c he hk
  | cons r0 rs =>
   rcases hD.sll with ⟨_, h2⟩ | ⟨b, o, cap, U, he, _⟩
   ·cases h2
   ·exact one _ _ cap he hk
 simp only [opx] at hk
 split at hk
 ·rename_i z r hg
  rw [hg] at hv
  exact data z r hv.toD hk
 ·rename_i z r hg
  rw [hg] at hv
  obtain ⟨ad, m, he, hD⟩ := hv.cll
  exact data z r (he ▸ hD) hk
 ·rename_i id hg
  rw [hg] at hv
  rw [get?_eq] at hk
  split at hk
  ·rename_i z r hcs
   obtain ⟨ad, c, he, _, hρ⟩ := own_val hC hv hcs
   cases r with
   | nil => exact both ad _ c he hk
   | cons r0 rs =>
    rcases hC.ok.hr.rep id _ _ hρ hcs with ⟨_, h2⟩ | ⟨b, cap, arr, ty', hb, _⟩
    ·cases h2
    ·rw [hb] at he
     exact one _ _ cap he hk
  ·exact hk.elim
 ·exact hk.elim
theorem op_ns (hC : Conc E n G ρ t h a w) (hn : Nxt E n a o K nxt) {ty e : TypeId} {zs : List V} (ho : o.op = .buildSlice ty 0 #[]) (hu : P.underlying ty = some (.slice e)) (hz : zer P e = some zs) (hk : opx S ow (.ns (P.cellsOf e)) t h K KP) : o.wp P a w nxt Q := by
 obtain ⟨i, z, hi, _⟩ := zer_ok (G := G) (w := w) (ρ := ρ) hz
 simp only [opx, fl_eq, fnat_eq] at hk
 have hC2 := hC.push (Grw.alloc w (.cells #[] e)) (.slice (some ⟨w.heap.size, 0, none⟩) 0 0) (.rows (P.cellsOf e) []) (by intro b hb; simp only [blk, Option.some.injEq] at hb; omega)
  (.inr ⟨w.heap.size, 0, #[], e, rfl, heap_alloc_new w _, Nat.le_refl _, by simp, by simp, by simp⟩)
 refine wp_val (v' := .slice (some ⟨w.heap.size, 0, none⟩) 0 0) ?_ (hn _ _ _ _ _ _ _ hC2 (.k (.os h.length _ 0 0 (by rw [← hC.ok.hr.len]; simp))) hk)
 have hrun : (Instr.buildSlice ty 0 #[]).run P w = .ok (.slice (some ⟨w.heap.size, 0, none⟩) 0 0) (w.alloc (.cells #[] e)) := by
  simp [Instr.buildSlice, Instr.fill, run_underlying hu, sizeOf, typeInfo, hi, newRow]
  congr 2
  exact Array.eq_empty_of_size_eq_zero (by simp)
 simp only [execOp, ho]
 exact run_execv (by simpa using hrun)
theorem op_ix (hC : Conc E n G ρ t h a w) (hn : Nxt E n a o K nxt) {ty t1 t2 : TypeId} {x i : Operand} {ox oi : O} (ho : o.op = .index ty x i) (hu : P.underlying ty = some .string) (hx : opd P t1 x = some ox) (hi : opd P t2 i = some oi)
  (hk : opx S ow (.ix ox oi) t h K KP) : o.wp P a w nxt Q := by
 have hvx := opd_ok hC hx
 have hvi := opd_ok hC hi
 simp only [opx] at hk
 split at hk
 ·rename_i s k m hgx hgi
  rw [hgx] at hvx
  rw [hgi] at hvi
  obtain ⟨sv, e1, rfl, _⟩ := hvx.str
  have e2 := hvi.int
  obtain ⟨b, ⟨h1, h2⟩, hk⟩ := hk
  have hb : sv[m.toNat]? = some b := by
   rw [Array.getElem?_toList] at h2
   exact h2
  refine wp_quiet hC hn (v' := .int .u8 b.toNat) ?_ (.d (.int _ _)) hk
  simp [execOp, ho, e1, e2, Instr.index, asIntOf, run_underlying hu, h1, hb]
 ·exact hk.elim
theorem Rep2.ovl {v : Value} {id z i : Nat} (h : Rep2 G w ρ v (.ov id z i)) : ∃ a n c, ρ[id]? = some (.slice a n c) ∧ v = sliced a i n c z := by
 cases h with | o h => cases h with | c h => cases h with | k h => cases h with | ov _ _ _ _ a n c h1 h2 => exact ⟨a, n, c, h1, h2⟩
theorem mapM_get0 {α β : Type} {f : α → Option β} : ∀ {l : List α} {r : List β}, l.mapM f = some r → r.length = l.length ∧ ∀ (k : Nat) (x : α) (y : β), l[k]? = some x → r[k]? = some y → f x = some y := by
 intro l
 induction l with
 | nil => intro r h; simp at h; subst h; simp
 | cons x l ih =>
  intro r h
  simp only [List.mapM_cons, Option.bind_eq_bind, Option.bind_eq_some_iff, Option.pure_def, Option.some.injEq] at h
  obtain ⟨y, hy, ys, hys, rfl⟩ := h
  obtain ⟨h1, h2⟩ := ih hys
  refine ⟨by simp [h1], fun k x' y' hx hy' => ?_⟩
  cases k with
  | zero => simp at hx hy'; subst hx hy'; exact hy
  | succ k => exact h2 k x' y' (by simpa using hx) (by simpa using hy')
theorem dof_ok {v : Value} {x : V} {d : D} (hv : RepK G w ρ v x) (hd : dof x = some d) : RepD G w v d := by
 cases hv <;> simp only [dof, reduceCtorEq, Option.some.injEq] at hd
 ·subst hd; assumption
 ·subst hd; exact .slz _
theorem op_clr (hC : Conc E n G ρ t h a w) (hn : Nxt E n a o K nxt) {ty e t1 : TypeId} {zs : List V} {ds : List D} {x : Operand} {ox : O} (ho : o.op = .call { callee := .builtin .clear, args := #[x], argTypes := #[ty] }) (hu : P.underlying ty = some (.slice e)) (hz : zer P e = some zs)
  (hd : zs.mapM dof = some ds) (hzl : zs.length = P.cellsOf e) (hz0 : P.cellsOf e ≠ 0) (hx : opd P t1 x = some ox) (hk : opx S ow (.clr ox ds (P.cellsOf e)) t h K KP) : o.wp P a w nxt Q := by
 have hv := opd_ok hC hx
 obtain ⟨it, z, hi, hz1, hzs, hst, hzr⟩ := zer_ok (G := G) (w := w) (ρ := ρ) hz
 obtain ⟨hdl, hdg⟩ := mapM_get0 hd
 have hci : P.cellsOf e = it.size := by simp [Program.cellsOf, hi]
 generalize hzz : P.cellsOf e = zz at *
 simp only [opx] at hk
 split at hk
 ·rename_i id z' i hg
  rw [hg] at hv
  rw [get?_eq] at hk
  split at hk
  ·rename_i z'' r hcs
   obtain ⟨⟨k1, k2, k3⟩, hk⟩ := hk
   obtain rfl := nbq k1
   obtain rfl := nbq k2
   have k3 := Nat.le_of_ble_eq_true k3
   rw [fl_eq] at hk
   obtain ⟨ad, m, c, hρ, hval⟩ := hv.ovl
   have hrep := hC.ok.hr.rep id _ _ hρ hcs
   have hlc : m = r.length ∧ m ≤ c := by
    rcases hrep with ⟨he, rfl⟩ | ⟨b, cap, arr, ty, he, h1, h2, _⟩
    ·simp only [Value.slice.injEq] at he
     obtain ⟨rfl, rfl, rfl⟩ := he
     simp
    ·simp only [Value.slice.injEq] at he
     obtain ⟨rfl, rfl, rfl⟩ := he
     exact ⟨rfl, h2⟩
   obtain ⟨rfl, hmc⟩ := hlc
   have runs : ∀ (v : Value) (w' : World), a.eval x = v → (Builtin.clear_ #[ty] o.type #[v]).run P w = .ok (.tuple #[]) w' → (execOp a.eval o).run P w = .ok (.value (.tuple #[])) w' := by
    intro v w' he hr
    simp [execOp, ho, resolve, invoke, builtin, he, hr]
   by_cases hil : i = r.length
   ·have hsame : h.set id (.rows z'' (r.take i ++ List.replicate (r.length - i) ds)) = h := by
     rw [hil, List.take_length, Nat.sub_self, List.replicate_zero, List.append_nil]
     exact set_self hcs
    rw [hsame] at hk
    refine wp_val (runs _ w hval ?_) (hn _ _ _ _ _ _ _ hC (.tu #[] [] rfl (by simp)) hk)
    subst hil
    simp only [sliced, Nat.sub_self]
    cases (if c = r.length then ad else ad.map (·.add (r.length * z''))) <;> simp [Builtin.clear_, run_underlying hu]
   ·have hil : i < r.length := by omega
    rcases hrep with ⟨_, rfl⟩ | ⟨b, cap, arr, ty', he, h1, h2, h3, h4, h5⟩
    ·simp at hil
    simp only [Value.slice.injEq] at he
    obtain ⟨rfl, _, rfl⟩ := he
    have hv2 : a.eval x = .slice (some ⟨b, i * z'', none⟩) (r.length - i) (c - i) := by
     rw [hval]
     simp [sliced, show ¬ c = i by omega, add_off]
    have hz'' : it.size = z'' := hci.symm
    have hzc : z.cells.size = z'' := by rw [hzs, hzl]
    have hzpos : 0 < z'' := by omega
    have hmul : (r.length - i) * z'' + i * z'' = r.length * z'' := by rw [← Nat.add_mul]; congr 1; omega
    have hle : r.length * z'' ≤ c * z'' := Nat.mul_le_mul_right _ h2
    have hnl : (Builtin.zeroCells z.cells (r.length - i)).toList.length = (r.length - i) * z'' := by simp [Builtin.zeroCells, hzc]
    have hng : ∀ k, k < (r.length - i) * z'' → (Builtin.zeroCells z.cells (r.length - i)).toList[k]? = some (z.cells.getD (k % z'') undef) := by
     intro k hk
     have hml : k % z'' < z.cells.size := by rw [hzc]; exact Nat.mod_lt _ hzpos
     simp only [Builtin.zeroCells, Array.getElem?_toList, Array.getElem?_map, hzc, Array.getElem?_range, hk, if_true, Option.map_some, Option.some.injEq]
     rw [getElem!_pos z.cells _ hml, Array.getD_eq_getD_getElem?, Array.getElem?_eq_getElem hml]
     rfl
    have hzj : ∀ j, j < z'' → ∃ x, zs[j]? = some x ∧ RepK G w ρ (z.cells.getD j undef) x := fun j hj => by
     have hjl : j < zs.length := by rw [hzl]; exact hj
     exact ⟨zs[j], List.getElem?_eq_getElem hjl, (hzr j _ (List.getElem?_eq_getElem hjl)).1⟩
    have hone : ∀ u ∈ (Builtin.zeroCells z.cells (r.length - i)).toList, u.oneCell' = true := by
     intro u hu
     obtain ⟨k, hk⟩ := List.mem_iff_getElem?.1 hu
     have hkl : k < (r.length - i) * z'' := by rw [← hnl]; exact (List.getElem?_eq_some_iff.1 hk).1
     rw [hng k hkl] at hk
     cases hk
     obtain ⟨y, hy, hr⟩ := hzj (k % z'') (Nat.mod_lt _ hzpos)
     exact one_ok (.k hr) (List.all_eq_true.1 hst y (List.mem_of_getElem? hy))
    have hrun := run_storeCells_at (P := P) b (i * z'') ty' (Builtin.zeroCells z.cells (r.length - i)).toList 0 arr w h1 (by rw [hnl]; omega) hone
    rw [Nat.add_zero, hnl] at hrun
    have hC' := hC.upd1 (w' := w.setRow b (arr.toList.take (i * z'') ++ (Builtin.zeroCells z.cells (r.length - i)).toList ++ arr.toList.drop (i * z'' + (r.length - i) * z'')).toArray) (x1 := .rows z'' (r.take i ++ List.replicate (r.length - i) ds)) hρ hcs (by simp) (by simp)
     (fun c hc => setRow_other w b c _ (by simp only [blk, ne_eq, Option.some.injEq] at hc; omega)) rfl rfl rfl
     (.inr ⟨b, c, _, ty', by simp; omega, setRow_heap w b arr _ ty' _ h1, by simp; omega, h3, by
      simp only [List.size_toArray, List.length_append, List.length_take, List.length_drop, Array.length_toList, hnl]; omega, fun i' row hi' => by
      have hs' : ∀ c, G c → (w.setRow b (arr.toList.take (i * z'') ++ (Builtin.zeroCells z.cells (r.length - i)).toList ++ arr.toList.drop (i * z'' + (r.length - i) * z'')).toArray).heap[c]? = w.heap[c]? := fun c hc => setRow_other w b c _ (fun e => by
       subst e; exact hC.ok.hr.gd c hc ⟨id, _, _, hρ, hcs, by simp, mem_bks.2 (.inl rfl)⟩)
      have hgetr := fun k => row_get (arr := arr) (off := i * z'') hnl (by omega) k
      by_cases hii : i' < i
      ·rw [List.getElem?_append_left (by simp; omega), List.getElem?_take, if_pos hii] at hi'
       obtain ⟨g1, g2⟩ := h5 i' row hi'
       refine ⟨g1, fun j x hj => ?_⟩
       have hjl : j < z'' := by rw [← g1]; exact (List.getElem?_eq_some_iff.1 hj).1
       have : i' * z'' + z'' ≤ i * z'' := by
        have := Nat.mul_le_mul_right z'' (show i' + 1 ≤ i by omega)
        rwa [Nat.add_mul, Nat.one_mul] at this
       rw [hgetr, if_neg (by omega)]
       exact (g2 j x hj).mono (fun _ h => h) hs'
      ·rw [List.getElem?_append_right (by simp; omega)] at hi'
       have hmin : (r.take i).length = i := by simp; omega
       rw [hmin, List.getElem?_replicate] at hi'
       split at hi'
       ·rename_i hlt
        cases hi'
        refine ⟨by rw [hdl, hzl], fun j x hj => ?_⟩
        have hjl : j < z'' := by rw [← hzl, ← hdl]; exact (List.getElem?_eq_some_iff.1 hj).1
        have hi1 : i' * z'' = i * z'' + (i' - i) * z'' := by rw [← Nat.add_mul]; congr 1; omega
        have hi2 : (i' - i) * z'' + z'' ≤ (r.length - i) * z'' := by
         have := Nat.mul_le_mul_right z'' (show (i' - i) + 1 ≤ r.length - i by omega)
         rwa [Nat.add_mul, Nat.one_mul] at this
        rw [hgetr, if_pos ⟨by omega, by omega⟩]
        have hk : i' * z'' + j - i * z'' = j + (i' - i) * z'' := by omega
        rw [hk, List.getD_eq_getElem?_getD, hng _ (by omega), Nat.add_mul_mod_self_right, Nat.mod_eq_of_lt hjl]
        obtain ⟨y, hy, hr⟩ := hzj j hjl
        exact (dof_ok hr (hdg j y x hy hj)).mono (fun _ h => h) hs'
       ·cases hi'⟩)
    refine wp_val (runs _ _ hv2 ?_) (hn _ _ _ _ _ _ _ hC' (.tu #[] [] rfl (by simp)) hk)
    have hn0 : ¬ (r.length - i = 0) := by omega
    obtain ⟨k, hk⟩ := Nat.exists_eq_succ_of_ne_zero hn0
    rw [hk] at hrun ⊢
    simp [Builtin.clear_, run_underlying hu, zeroValue, typeInfo, hi, hz1, hrun]
  ·exact hk.elim
 ·exact hk.elim
end
end Go.Vx
