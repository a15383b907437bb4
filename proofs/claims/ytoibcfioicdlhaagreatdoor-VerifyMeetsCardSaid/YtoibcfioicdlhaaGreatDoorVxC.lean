/- How the frame's picture is kept when a block is laid, written, given up. Conditions: none; lemmas on the definitions before. -/
import Derived.Test.YtoibcfioicdlhaaGreatDoorVxB
namespace Go.Vx

/-- The world has gone on: what was there is as it was. -/
structure Grw (w w' : World) : Prop where
  size : w.heap.size ≤ w'.heap.size
  old : ∀ b, b < w.heap.size → w'.heap[b]? = w.heap[b]?
  os : w'.os = w.os
  tape : w'.tape = w.tape
  out : w'.output = w.output

theorem Grw.refl (w : World) : Grw w w := ⟨Nat.le_refl _, fun _ _ => rfl, rfl, rfl, rfl⟩
theorem Grw.trans {a b c : World} (h : Grw a b) (k : Grw b c) : Grw a c :=
  ⟨Nat.le_trans h.size k.size, fun i hi => (k.old i (Nat.lt_of_lt_of_le hi h.size)).trans (h.old i hi), k.os.trans h.os, k.tape.trans h.tape, k.out.trans h.out⟩
theorem Grw.alloc (w : World) (o : Obj) : Grw w (w.alloc o) :=
  ⟨by simp, fun b hb => by show (w.heap.push o)[b]? = _; rw [Array.getElem?_push, if_neg (by omega)], rfl, rfl, rfl⟩
theorem Grw.drew (w : World) : Grw w w.drew := ⟨Nat.le_refl _, fun _ _ => rfl, rfl, rfl, rfl⟩
theorem Grw.draw (w : World) (n : Nat) : Grw w { w with drawn := n } := ⟨Nat.le_refl _, fun _ _ => rfl, rfl, rfl, rfl⟩

section
variable {E : Ent} {G G' : Nat → Prop} {w w' : World} {ρ : List Value} {h : H}

theorem HR.lt (hr : HR G w ρ h) {id : Nat} {v : Value} {x : B} {b : Nat} (hv : ρ[id]? = some v) (hx : h[id]? = some x) (hn : x ≠ .no) (hb : blk v = some b) : b < w.heap.size := by
  have := hr.rep id v x hv hx
  cases x with
  | no => exact absurd rfl hn
  | nw =>
    have hu : v = undef := this
    subst hu
    simp [blk, undef] at hb
  | cells cs =>
    obtain ⟨b', arr, ty, rfl, h1, _⟩ := this
    simp only [blk, Option.some.injEq] at hb
    subst hb
    exact (Array.getElem?_eq_some_iff.1 h1).1
  | mp es =>
    obtain ⟨b', arr, clk, rfl, h1, _⟩ := this
    simp only [blk, Option.some.injEq] at hb
    subst hb
    exact (Array.getElem?_eq_some_iff.1 h1).1
  | dm es =>
    obtain ⟨b', arr, clk, rfl, h1, _⟩ := this
    simp only [blk, Option.some.injEq] at hb
    subst hb
    exact (Array.getElem?_eq_some_iff.1 h1).1
  | rows z rs =>
    rcases this with ⟨rfl, _⟩ | ⟨b', cap, arr, ty, rfl, h1, _⟩
    · simp [blk] at hb
    · simp only [blk, Option.some.injEq] at hb
      subst hb
      exact (Array.getElem?_eq_some_iff.1 h1).1

theorem HR.ownlt (hr : HR G w ρ h) {b : Nat} (ho : own ρ h b) : b < w.heap.size := by
  obtain ⟨id, v, x, h1, h2, h3, h4⟩ := ho
  exact hr.lt h1 h2 h3 h4

/-- The world grows; new blocks may be data. -/
theorem Ok.grow (hO : Ok E G w ρ h) (hg : Grw w w') (hG : ∀ b, G b → G' b) (hG' : ∀ b, G' b → G b ∨ (w.heap.size ≤ b ∧ b < w'.heap.size)) : Ok E G' w' ρ h := by
  have hw : ∀ b, G b → w'.heap[b]? = w.heap[b]? := fun b hb => hg.old b (hO.hr.gl b hb)
  refine ⟨⟨hO.hr.len, fun id v x hv hx => ?_, hO.hr.dis, fun b hb => ?_, fun b hb ho => ?_, hO.hr.glb.mono hG hw⟩, fun b hb => hG b (hO.gm b hb), fun b hb => ?_, hO.oo, fun b hb hn => ?_, Nat.le_trans hO.size hg.size,
    hg.os.trans hO.os, hg.tape.trans hO.tape, hg.out.trans hO.out, hO.hand, hO.hl⟩
  · cases x with
    | no => trivial
    | _ => exact (hO.hr.rep id v _ hv hx).mono hG hw (fun b hb => hg.old b (hO.hr.lt hv hx (by simp) hb)) (fun _ _ => rfl)
  · rcases hG' b hb with h1 | h1
    · exact Nat.lt_of_lt_of_le (hO.hr.gl b h1) hg.size
    · exact h1.2
  · rcases hG' b hb with h1 | h1
    · exact hO.hr.gd b h1 ho
    · have := hO.hr.ownlt ho; omega
  · rcases hG' b hb with h1 | h1
    · exact hO.go b h1
    · exact .inr (.inl (Nat.le_trans hO.size h1.1))
  · exact (hg.old b (Nat.lt_of_lt_of_le hb hO.size)).trans (hO.frame b hb hn)

theorem own_append {ρ : List Value} {h : H} {hd : Value} {x : B} {b : Nat} (hl : ρ.length = h.length) (ho : own (ρ ++ [hd]) (h ++ [x]) b) : own ρ h b ∨ (x ≠ .no ∧ blk hd = some b) := by
  obtain ⟨id, v, y, h1, h2, h3, h4⟩ := ho
  by_cases hi : id < ρ.length
  · rw [List.getElem?_append_left hi] at h1
    rw [List.getElem?_append_left (hl ▸ hi)] at h2
    exact .inl ⟨id, v, y, h1, h2, h3, h4⟩
  · have hid : id = ρ.length := by
      have := (List.getElem?_eq_some_iff.1 h1).1
      simp at this
      omega
    subst hid
    simp at h1
    rw [hl] at h2
    simp at h2
    subst h1 h2
    exact .inr ⟨h3, h4⟩

theorem own_left {ρ : List Value} {h : H} {hd : Value} {x : B} {b : Nat} (hl : ρ.length = h.length) (ho : own ρ h b) : own (ρ ++ [hd]) (h ++ [x]) b := by
  obtain ⟨id, v, y, h1, h2, h3, h4⟩ := ho
  have hi := (List.getElem?_eq_some_iff.1 h1).1
  exact ⟨id, v, y, by rw [List.getElem?_append_left hi]; exact h1, by rw [List.getElem?_append_left (hl ▸ hi)]; exact h2, h3, h4⟩

/-- A new block of one's own. -/
theorem Ok.push (hO : Ok E G w ρ h) (hg : Grw w w') (hd : Value) (x : B) (hbk : ∀ b, blk hd = some b → w.heap.size ≤ b) (hx : RepB G w' (ρ ++ [hd]) hd x) : Ok E G w' (ρ ++ [hd]) (h ++ [x]) := by
  have hw : ∀ b, G b → w'.heap[b]? = w.heap[b]? := fun b hb => hg.old b (hO.hr.gl b hb)
  have hl := hO.hr.len
  have get : ∀ (id : Nat) (v : Value) (y : B), (ρ ++ [hd])[id]? = some v → (h ++ [x])[id]? = some y → (ρ[id]? = some v ∧ h[id]? = some y) ∨ (id = ρ.length ∧ v = hd ∧ y = x) := by
    intro id v y h1 h2
    by_cases hi : id < ρ.length
    · rw [List.getElem?_append_left hi] at h1
      rw [List.getElem?_append_left (hl ▸ hi)] at h2
      exact .inl ⟨h1, h2⟩
    · have hid : id = ρ.length := by
        have := (List.getElem?_eq_some_iff.1 h1).1
        simp at this
        omega
      subst hid
      simp at h1
      rw [hl] at h2
      simp at h2
      exact .inr ⟨rfl, h1.symm, h2.symm⟩
  have hpre : ∀ i, i < ρ.length → (ρ ++ [hd])[i]? = ρ[i]? := fun i hi => List.getElem?_append_left hi
  refine ⟨⟨by simp [hl], fun id v y hv hy => ?_, fun id id' v v' y y' b h1 h2 h3 h4 h5 h6 h7 h8 => ?_, fun b hb => Nat.lt_of_lt_of_le (hO.hr.gl b hb) hg.size, fun b hb ho => ?_, hO.hr.glb.mono (fun _ h => h) hw⟩, hO.gm, hO.go, fun b hb => ?_,
    fun b hb hn => (hg.old b (Nat.lt_of_lt_of_le hb hO.size)).trans (hO.frame b hb hn), Nat.le_trans hO.size hg.size, hg.os.trans hO.os, hg.tape.trans hO.tape, hg.out.trans hO.out, fun id v hv hs => ?_, by simpa using Nat.le_succ_of_le hO.hl⟩
  · rcases get id v y hv hy with ⟨h1, h2⟩ | ⟨rfl, rfl, rfl⟩
    · have hr := hO.hr.rep id v y h1 h2
      cases y with
      | no => trivial
      | _ => exact hr.mono (fun _ h => h) hw (fun b hb => hg.old b (hO.hr.lt h1 h2 (by simp) hb)) (fun i hi => hpre i (hr.lt i hi))
    · exact hx
  · rcases get id v y h1 h2 with ⟨g1, g2⟩ | ⟨rfl, rfl, rfl⟩ <;> rcases get id' v' y' h4 h5 with ⟨k1, k2⟩ | ⟨rfl, rfl, rfl⟩
    · exact hO.hr.dis id id' v v' y y' b g1 g2 h3 k1 k2 h6 h7 h8
    · have := hO.hr.lt g1 g2 h3 h7; have := hbk b h8; omega
    · have := hO.hr.lt k1 k2 h6 h8; have := hbk b h7; omega
    · rfl
  · rcases own_append hl ho with h1 | ⟨h1, h2⟩
    · exact hO.hr.gd b hb h1
    · have := hO.hr.gl b hb; have := hbk b h2; omega
  · rcases own_append hl hb with h1 | ⟨h1, h2⟩
    · exact hO.oo b h1
    · exact .inl (Nat.le_trans hO.size (hbk b h2))
  · have := hO.hand id v hv hs
    rw [hpre id (List.getElem?_eq_some_iff.1 this).1]
    exact this

theorem own_set {ρ : List Value} {h : H} {id : Nat} {v1 : Value} {x1 : B} {b : Nat} (ho : own (ρ.set id v1) (h.set id x1) b) : (∃ (j : Nat) (v : Value) (y : B), j ≠ id ∧ ρ[j]? = some v ∧ h[j]? = some y ∧ y ≠ .no ∧ blk v = some b) ∨ (x1 ≠ .no ∧ blk v1 = some b) := by
  obtain ⟨j, v, y, h1, h2, h3, h4⟩ := ho
  rw [List.getElem?_set] at h1 h2
  split at h1
  · rename_i hj
    subst hj
    rw [if_pos rfl] at h2
    split at h1
    · split at h2
      · cases h1; cases h2
        exact .inr ⟨h3, h4⟩
      · cases h2
    · cases h1
  · rename_i hj
    rw [if_neg hj] at h2
    exact .inl ⟨j, v, y, fun e => hj e.symm, h1, h2, h3, h4⟩

/-- A block of one's own is written, or goes elsewhere. -/
theorem Ok.upd (hO : Ok E G w ρ h) {id : Nat} {v0 v1 : Value} {x0 x1 : B} (hv : ρ[id]? = some v0) (hx : h[id]? = some x0) (hn : x0 ≠ .no) (hs : w.heap.size ≤ w'.heap.size)
    (same : ∀ b, b < w.heap.size → blk v0 ≠ some b → w'.heap[b]? = w.heap[b]?) (ho : w'.os = w.os) (ht : w'.tape = w.tape) (hou : w'.output = w.output)
    (new : RepB G w' (ρ.set id v1) v1 x1) (hb1 : ∀ b, blk v1 = some b → blk v0 = some b ∨ w.heap.size ≤ b) (hs1 : isSl v0 = false → v1 = v0)
    (h' : H) (hh : h'.length = h.length) (hh' : ∀ (j : Nat) (y : B), h'[j]? = some y → j ≠ id → ∃ y0, h[j]? = some y0 ∧ (y0 = .no ↔ y = .no) ∧ (∀ v, ρ[j]? = some v → RepB G w ρ v y0 → RepB G w (ρ.set id v1) v y)) :
    Ok E G w' (ρ.set id v1) (h'.set id x1) := by
  have hgb : ∀ b, G b → blk v0 ≠ some b := fun b hb e => hO.hr.gd b hb ⟨id, v0, x0, hv, hx, hn, e⟩
  have hw : ∀ b, G b → w'.heap[b]? = w.heap[b]? := fun b hb => same b (hO.hr.gl b hb) (hgb b hb)
  have hil : id < ρ.length := (List.getElem?_eq_some_iff.1 hv).1
  have hihl : id < h'.length := by rw [hh]; exact (List.getElem?_eq_some_iff.1 hx).1
  have get : ∀ (j : Nat) (v : Value) (y : B), (ρ.set id v1)[j]? = some v → (h'.set id x1)[j]? = some y → (j ≠ id ∧ ρ[j]? = some v ∧ h'[j]? = some y) ∨ (j = id ∧ v = v1 ∧ y = x1) := by
    intro j v y h1 h2
    rw [List.getElem?_set] at h1 h2
    split at h1
    · rename_i hj
      subst hj
      rw [if_pos rfl, if_pos hihl] at h2
      cases h1; cases h2
      exact .inr ⟨rfl, rfl, rfl⟩
    · rename_i hj
      rw [if_neg hj] at h2
      exact .inl ⟨fun e => hj e.symm, h1, h2⟩
  have old : ∀ (j : Nat) (v : Value) (y : B) (b : Nat), j ≠ id → ρ[j]? = some v → h'[j]? = some y → y ≠ .no → blk v = some b → b < w.heap.size ∧ blk v0 ≠ some b ∧ own ρ h b ∧ w'.heap[b]? = w.heap[b]? := by
    intro j v y b hj h1 h2 h3 h4
    obtain ⟨y0, g1, g2, _⟩ := hh' j y h2 hj
    have hy0 : y0 ≠ .no := fun e => h3 (g2.1 e)
    have hlt := hO.hr.lt h1 g1 hy0 h4
    have hne : blk v0 ≠ some b := fun e => hj (hO.hr.dis j id v v0 y0 x0 b h1 g1 hy0 hv hx hn h4 e)
    exact ⟨hlt, hne, ⟨j, v, y0, h1, g1, hy0, h4⟩, same b hlt hne⟩
  have hown : ∀ b, own (ρ.set id v1) (h'.set id x1) b → own ρ h b ∨ w.heap.size ≤ b := by
    intro b hb
    rcases own_set hb with ⟨j, v, y, h0, h1, h2, h3, h4⟩ | ⟨h1, h2⟩
    · exact .inl (old j v y b h0 h1 h2 h3 h4).2.2.1
    · rcases hb1 b h2 with h3 | h3
      · exact .inl ⟨id, v0, x0, hv, hx, hn, h3⟩
      · exact .inr h3
  refine ⟨⟨by simp [hO.hr.len, hh], fun j v y h1 h2 => ?_, fun j j' v v' y y' b h1 h2 h3 h4 h5 h6 h7 h8 => ?_, fun b hb => Nat.lt_of_lt_of_le (hO.hr.gl b hb) hs, fun b hb hob => ?_, hO.hr.glb.mono (fun _ h => h) hw⟩, hO.gm, hO.go, fun b hb => ?_,
    fun b hb hnb => ?_, Nat.le_trans hO.size hs, ho.trans hO.os, ht.trans hO.tape, hou.trans hO.out, fun j v hv' hsl => ?_, by simpa [hh] using hO.hl⟩
  · rcases get j v y h1 h2 with ⟨hj, g1, g2⟩ | ⟨rfl, rfl, rfl⟩
    · obtain ⟨y0, k1, k2, k3⟩ := hh' j y g2 hj
      have hr := k3 v g1 (hO.hr.rep j v y0 g1 k1)
      by_cases hy : y = .no
      · subst hy; trivial
      · exact hr.mono (fun _ h => h) hw (fun b hb => (old j v y b hj g1 g2 hy hb).2.2.2) (fun _ _ => rfl)
    · exact new
  · rcases get j v y h1 h2 with ⟨hj, g1, g2⟩ | ⟨rfl, rfl, rfl⟩ <;> rcases get j' v' y' h4 h5 with ⟨hj', k1, k2⟩ | ⟨rfl, rfl, rfl⟩
    · obtain ⟨y0, e1, e2, _⟩ := hh' j y g2 hj
      obtain ⟨y0', f1, f2, _⟩ := hh' j' y' k2 hj'
      exact hO.hr.dis j j' v v' y0 y0' b g1 e1 (fun e => h3 (e2.1 e)) k1 f1 (fun e => h6 (f2.1 e)) h7 h8
    · have := old j v y b hj g1 g2 h3 h7
      rcases hb1 b h8 with h9 | h9
      · exact absurd h9 this.2.1
      · omega
    · have := old j' v' y' b hj' k1 k2 h6 h8
      rcases hb1 b h7 with h9 | h9
      · exact absurd h9 this.2.1
      · omega
    · rfl
  · rcases hown b hob with h1 | h1
    · exact hO.hr.gd b hb h1
    · have := hO.hr.gl b hb; omega
  · rcases hown b hb with h1 | h1
    · exact hO.oo b h1
    · exact .inl (Nat.le_trans hO.size h1)
  · by_cases hbl : blk v0 = some b
    · rcases hO.oo b ⟨id, v0, x0, hv, hx, hn, hbl⟩ with h1 | h1
      · omega
      · exact absurd h1 hnb
    · exact (same b (Nat.lt_of_lt_of_le hb hO.size) hbl).trans (hO.frame b hb hnb)
  · have h0 := hO.hand j v hv' hsl
    rw [List.getElem?_set]
    split
    · rename_i hj
      subst hj
      rw [hv] at h0
      cases h0
      rw [hs1 hsl]
    · exact h0
end
end Go.Vx
