/- Owned slices given up as data, or gone elsewhere; operands read; slots written. Conditions: none; lemmas on the definitions before. -/
import Derived.Test.YtjpgfgajkjhonaaGreatDoorQTAD
import Derived.Laws.Entries
import Derived.Laws.Cells
import Derived.Laws.Slices
import Derived.Laws.Tables
import Derived.Laws.AppendOwn
import Derived.Laws.OwnMore
import Derived.Laws.StructEq
namespace Go.Vx
theorem nbeq {i j : Nat} (h : i ≠ j) : Nat.beq i j = false := by
 cases hb : Nat.beq i j
 ·rfl
 ·exact absurd (Nat.eq_of_beq_eq_true hb) h
section
variable {G G' : Nat → Prop} {w w' : World} {ρ : List Value}
theorem RepB.data {v0 : Value} {z : Nat} {rs : List (List D)} (h : RepB G w ρ v0 (.rows z rs)) : RepD (fun b => G b ∨ blk v0 = some b) w v0 (.sl z rs) := by
 rcases h with ⟨rfl, rfl⟩ | ⟨b, cap, arr, ty, rfl, h1, h2, h3, h4, h5⟩
 ·exact .slz z
 ·refine .sl b 0 cap z rs (fun i j => arr.getD (i * z + j) undef) h2 h3 (.inr rfl) (fun i row hr => (h5 i row hr).1) (fun i row j x hr hx => ?_) (fun i row j x hr hx => ?_)
  ·obtain ⟨hz, _⟩ := h5 i row hr
   have hi : i < rs.length := (List.getElem?_eq_some_iff.1 hr).1
   have hj : j < row.length := (List.getElem?_eq_some_iff.1 hx).1
   have hlt : i * z + j < arr.size := by
    rw [h4]
    have : (i + 1) * z ≤ cap * z := Nat.mul_le_mul_right _ (by omega)
    rw [Nat.add_mul] at this
    omega
   simp only [World.cell?, h1, Nat.zero_add]
   simp [Array.getElem?_eq_getElem hlt]
  ·exact ((h5 i row hr).2 j x hx).mono (fun _ h => .inl h) (fun _ _ => rfl)
theorem allD_eq : ∀ {cs : List V} {ds : List D}, allD cs = some ds → cs = ds.map .d
 | [], ds, h => by cases h; rfl
 | x :: r, ds, h => by
  unfold allD at h
  split at h
  ·rename_i a b ha hb
   cases h
   rw [allD_eq hb]
   cases x <;> cases ha
   rfl
  ·cases h
theorem RepB.dataC {v0 : Value} {cs : List V} {ds : List D} (h : RepB G w ρ v0 (.cells cs)) (hd : allD cs = some ds) : RepD (fun b => G b ∨ blk v0 = some b) w v0 (.pt ds 0) := by
 obtain rfl := allD_eq hd
 obtain ⟨b, arr, ty, rfl, h1, h2, h3⟩ := h
 refine .pt b 0 0 ds (fun j => arr.getD j undef) (.inr rfl) (fun j x hx => ?_) fun j x hx => ?_
 ·have : j < arr.size := by rw [h2, List.length_map]; exact (List.getElem?_eq_some_iff.1 hx).1
  simp only [World.cell?, h1, Nat.zero_add]
  simp [Array.getElem?_eq_getElem this]
 ·have := h3 j (.d x) (by rw [List.getElem?_map, hx]; rfl)
  generalize arr.getD j undef = u at this
  cases this with | k h => cases h with | d h => exact h.mono (fun _ h => .inl h) (fun _ _ => rfl)
theorem RepK.sub {id : Nat} {v0 : Value} {y : D} (hv : ρ[id]? = some v0) (hG : ∀ b, G b → G' b) (hy : RepD G' w v0 y) {v : Value} {x : V} (h : RepK G w ρ v x) : RepK G' w ρ v (sub0 id (.d y) x) := by
 by_cases hx : ∃ j, x = .os j
 ·obtain ⟨j, rfl⟩ := hx
  cases h with
  | os _ a n c h =>
   simp only [sub0]
   by_cases hj : j = id
   ·subst hj
    rw [hv] at h
    cases h
    simpa using RepK.d hy
   ·have : Nat.beq j id = false := nbeq hj
    rw [this]
    exact .os j a n c h
 ·by_cases hp : ∃ j o, x = .p j o
  ·obtain ⟨j, o, rfl⟩ := hp
   have keep : RepK G' w ρ v (.p j o) := h.mono hG (fun _ _ => rfl) (fun _ _ => rfl)
   simp only [sub0]
   by_cases hj : j = id
   ·subst hj
    have hb : Nat.beq j j = true := Nat.beq_refl j
    rw [hb, cond_true]
    unfold ptO
    split
    ·rename_i row off hy'
     cases hy'
     cases ho : Nat.beq off 0
     ·exact keep
     ·have ho := Nat.eq_of_beq_eq_true ho
      subst ho
      rw [cond_true]
      cases h with
      | p _ _ b h =>
       rw [hv] at h
       obtain rfl := Option.some.inj h
       generalize hq : (Value.pointer (some ⟨b, 0, none⟩)) = q at hy
       cases hy with
       | pt b' o' _ _ U g1 g2 g3 =>
        cases hq
        have := RepK.e (ρ := ρ) b 0 o row U g1 g2 g3
        rwa [Nat.zero_add] at this
    ·exact keep
   ·rw [nbeq hj]
    exact keep
  ·have : sub0 id (.d y) x = x := by cases x <;> first | rfl | exact absurd ⟨_, rfl⟩ hx | exact absurd ⟨_, _, rfl⟩ hp
   rw [this]
   exact h.mono hG (fun _ _ => rfl) (fun _ _ => rfl)
theorem RepC.sub {id : Nat} {v0 : Value} {y : D} (hv : ρ[id]? = some v0) (hG : ∀ b, G b → G' b) (hy : RepD G' w v0 y) {v : Value} {x : V} (h : RepC G w ρ v x) : RepC G' w ρ v (subC id (.d y) x) := by
 cases h with
 | k h =>
  have : subC id (.d y) x = sub0 id (.d y) x := by cases h <;> rfl
  rw [this]
  exact .k (h.sub hv hG hy)
 | fc f u cs caps h0 h1 h2 =>
  refine .fc f _ cs _ h0 (by simpa using h1) (fun i x hx => ?_)
  rw [List.getElem?_map] at hx
  cases hc : caps[i]? with
  | none => rw [hc] at hx; cases hx
  | some x0 => rw [hc] at hx; cases hx; exact (h2 i x0 hc).sub hv hG hy
theorem Rep1.sub {id : Nat} {v0 : Value} {y : D} (hv : ρ[id]? = some v0) (hG : ∀ b, G b → G' b) (hy : RepD G' w v0 y) {v : Value} {x : V} (h : Rep1 G w ρ v x) : Rep1 G' w ρ v (sub1 id (.d y) x) := by
 cases h with
 | c h =>
  have : sub1 id (.d y) x = subC id (.d y) x := by
   cases h with
   | k h => cases h <;> rfl
   | fc => rfl
  rw [this]
  exact .c (h.sub hv hG hy)
 | ag cs vs h1 h2 =>
  refine .ag cs _ (by simpa using h1) (fun i x hx => ?_)
  rw [List.getElem?_map] at hx
  cases hc : vs[i]? with
  | none => rw [hc] at hx; cases hx
  | some x0 => rw [hc] at hx; cases hx; exact (h2 i x0 hc).sub hv hG hy
theorem Rep2.sub {id : Nat} {v0 : Value} {y : D} (hv : ρ[id]? = some v0) (hG : ∀ b, G b → G' b) (hy : RepD G' w v0 y) {v : Value} {x : V} (h : Rep2 G w ρ v x) : Rep2 G' w ρ v (sub2 id (.d y) x) := by
 cases h with
 | o h =>
  have : sub2 id (.d y) x = sub1 id (.d y) x := by
   cases h with
   | c h => cases h with
    | k h => cases h <;> rfl
    | fc => rfl
   | ag => rfl
  rw [this]
  exact .o (h.sub hv hG hy)
 | tu cs vs h1 h2 =>
  refine .tu cs _ (by simpa using h1) (fun i x hx => ?_)
  rw [List.getElem?_map] at hx
  cases hc : vs[i]? with
  | none => rw [hc] at hx; cases hx
  | some x0 => rw [hc] at hx; cases hx; exact (h2 i x0 hc).sub hv hG hy
theorem allD_ok : ∀ {l : List V} {ds : List D}, allD l = some ds → l = ds.map .d
 | [], ds, h => by cases h; rfl
 | x :: r, ds, h => by
  have e : allD (x :: r) = match dOf x, allD r with
   | some a, some b => some (a :: b)
   | _, _ => none := rfl
  rw [e] at h
  cases x with
  | d x =>
   cases hr : allD r with
   | none => rw [hr] at h; cases h
   | some b =>
    rw [hr] at h
    cases h
    rw [allD_ok hr]
    rfl
  | _ => cases h
theorem RepC.toD0 {v : Value} {x : D} (h : RepC G w ρ v (.d x)) : RepD G w v x := by
 cases h with
 | k h => cases h with
  | d h => exact h
theorem RepB.unx {hd : Value} {z k : Nat} {rs : List (List D)} {r : List V} (h : RepB G w ρ hd (.rx z rs k r)) : RepB G w ρ hd (unx z rs k r) := by
 unfold Vx.unx
 cases hd' : allD r with
 | none => exact h
 | some ds =>
  obtain rfl := allD_ok hd'
  obtain ⟨b, cap, arr, ty, rfl, h1, h2, h3, h4, h0, h5, h6⟩ := h
  refine .inr ⟨b, cap, arr, ty, by simp, h1, by simpa using h2, h3, h4, fun i row hr => ?_⟩
  rw [List.getElem?_set] at hr
  split at hr
  ·rename_i hi
   subst hi
   rw [if_pos h0.1] at hr
   cases hr
   refine ⟨by simpa using h0.2, fun j x hx => (h6 j (.d x) (by rw [List.getElem?_map, hx]; rfl)).toD0⟩
  ·rename_i hi
   exact h5 i row hr (fun e => hi e.symm)
theorem RepMs.outs {G G' : Nat → Prop} {w : World} {ρ ρ' : List Value} {hd : Value} {z : Nat} {es : List ME} {out : Option (Nat × V)} {f : V → V} (h : RepMs G' w ρ' hd z es none) (h0 : RepMs G w ρ hd z es out)
  (hf : ∀ (i : Nat) (v : V) (u : Value), out = some (i, v) → RepC G w ρ u v → RepC G' w ρ' u (f v)) : RepMs G' w ρ' hd z es (out.map fun p => (p.1, f p.2)) := by
 obtain ⟨r, arr, clk, rfl, h1, h2, h3, h4, h5, _⟩ := h
 obtain ⟨r', arr', clk', e0, k1, k2, k3, k4, k5, k6, k7⟩ := h0
 cases e0
 rw [h1] at k1
 cases k1
 refine ⟨r, arr, clk, rfl, h1, h2, h3, h4, h5, fun i v ho => ?_, fun i v e ho he => ?_⟩
 ·match out, ho, k6 with
  | some (j, u), ho, k6 => cases ho; exact k6 _ u rfl
 ·match out, ho, k7, hf with
  | some (j, u), ho, k7, hf => cases ho; exact hf _ u _ rfl (k7 _ u e rfl he)
theorem gh_unx (z : Nat) (rs : List (List D)) (i : Nat) (row : List V) : gh (unx z rs i row) = [] := by
 unfold Vx.unx
 cases allD row <;> rfl
theorem gh_subB (id : Nat) (x : V) (b : B) : gh (subB id x b) = gh b := by
 cases b <;> first | rfl | exact gh_unx _ _ _ _
theorem gh_kilB (id : Nat) (b : B) : gh (kilB id b) = gh b := by
 cases b <;> rfl
theorem RepB.sub {id : Nat} {v0 : Value} {y : D} (hv : ρ[id]? = some v0) (hG : ∀ b, G b → G' b) (hy : RepD G' w v0 y) {hd : Value} {x : B} (h : RepB G w ρ hd x) : RepB G' w ρ hd (subB id (.d y) x) := by
 cases x with
 | no => trivial
 | nw => exact h
 | cells cs =>
  obtain ⟨b, arr, ty, rfl, h1, h2, h3⟩ := h
  refine ⟨b, arr, ty, rfl, h1, by simpa using h2, fun i x hx => ?_⟩
  rw [List.getElem?_map] at hx
  cases hc : cs[i]? with
  | none => rw [hc] at hx; cases hx
  | some x0 => rw [hc] at hx; cases hx; exact (h3 i x0 hc).sub hv hG hy
 | mp es =>
  obtain ⟨r, arr, clk, rfl, h1, h2, h3, h4⟩ := h
  refine ⟨r, arr, clk, rfl, h1, by simpa using h2, h3, fun i e x he hx => ?_⟩
  rw [List.getElem?_map] at hx
  cases hc : es[i]? with
  | none => rw [hc] at hx; cases hx
  | some x0 => rw [hc] at hx; cases hx; exact ⟨(h4 i e x0 he hc).1.sub hv hG hy, (h4 i e x0 he hc).2.sub hv hG hy⟩
 | dm es => exact RepB.mono (x := .dm es) h hG (fun _ _ => rfl) (fun _ _ => rfl) (fun _ _ => rfl)
 | di es r l => exact RepB.mono (x := .di es r l) h hG (fun _ _ => rfl) (fun _ _ => rfl) (fun _ _ => rfl)
 | ms z es out it =>
  have h1 := RepB.mono (x := .ms z es none it) (w' := w) (ρ' := ρ) ⟨RepMs.drop h.1, h.2⟩ hG (fun _ _ => rfl) (fun _ _ => rfl) (fun _ _ => rfl)
  exact ⟨h1.1.outs h.1 (fun i v u ho hr => hr.sub hv hG hy), h.2⟩
 | rows z rs => exact RepB.mono (x := .rows z rs) h hG (fun _ _ => rfl) (fun _ _ => rfl) (fun _ _ => rfl)
 | rx z rs k r =>
  obtain ⟨b, cap, arr, ty, rfl, h1, h2, h3, h4, h0, h5, h6⟩ := h
  refine RepB.unx ⟨b, cap, arr, ty, rfl, h1, h2, h3, h4, by simpa using h0, fun i row hr hk => ⟨(h5 i row hr hk).1, fun j x hx => ((h5 i row hr hk).2 j x hx).mono hG (fun _ _ => rfl)⟩, fun i x hx => ?_⟩
  rw [List.getElem?_map] at hx
  cases hc : r[i]? with
  | none => rw [hc] at hx; cases hx
  | some x0 => rw [hc] at hx; cases hx; exact (h6 i x0 hc).sub hv hG hy
theorem RepK.kil {id : Nat} {v0 v1 : Value} (hv : ρ[id]? = some v0) (hs : isSl v0 = true) {v : Value} {x : V} (h : RepK G w ρ v x) : RepK G w (ρ.set id v1) v (kil0 id x) := by
 have get : ∀ j, j ≠ id → (ρ.set id v1)[j]? = ρ[j]? := fun j hj => by rw [List.getElem?_set, if_neg (fun e => hj e.symm)]
 cases h with
 | un => exact .un _
 | ud => exact .ud
 | d h => exact .d h
 | p j off b h =>
  have hj : j ≠ id := fun e => by subst e; rw [hv] at h; cases h; simp [isSl] at hs
  exact .p j off b ((get j hj).trans h)
 | e b o off row U h1 h2 h3 => exact .e b o off row U h1 h2 h3
 | os j a n c h =>
  simp only [kil0]
  by_cases hj : j = id
  ·subst hj; simpa using RepK.un _
  ·have : Nat.beq j id = false := nbeq hj
   rw [this]
   exact .os j a n c ((get j hj).trans h)
 | q j z i off b n c h =>
  simp only [kil0]
  by_cases hj : j = id
  ·subst hj; simpa using RepK.un _
  ·have : Nat.beq j id = false := nbeq hj
   rw [this]
   exact .q j z i off b n c ((get j hj).trans h)
 | cl a n z rows h => exact .cl a n z rows h
 | nl z => exact .nl z
 | mp j r h =>
  have hj : j ≠ id := fun e => by subst e; rw [hv] at h; cases h; simp [isSl] at hs
  exact .mp j r ((get j hj).trans h)
 | ov j z i _ a n c h hv' =>
  simp only [kil0]
  by_cases hj : j = id
  ·subst hj; simpa using RepK.un _
  ·have : Nat.beq j id = false := nbeq hj
   rw [this]
   exact .ov j z i _ a n c ((get j hj).trans h) hv'
 | it j r m h =>
  have hj : j ≠ id := fun e => by subst e; rw [hv] at h; cases h; simp [isSl] at hs
  exact .it j r m ((get j hj).trans h)
theorem RepC.kil {id : Nat} {v0 v1 : Value} (hv : ρ[id]? = some v0) (hs : isSl v0 = true) {v : Value} {x : V} (h : RepC G w ρ v x) : RepC G w (ρ.set id v1) v (kilC id x) := by
 cases h with
 | k h =>
  have : kilC id x = kil0 id x := by cases h <;> rfl
  rw [this]
  exact .k (h.kil hv hs)
 | fc f u cs caps h0 h1 h2 =>
  refine .fc f _ cs _ h0 (by simpa using h1) (fun i x hx => ?_)
  rw [List.getElem?_map] at hx
  cases hc : caps[i]? with
  | none => rw [hc] at hx; cases hx
  | some x0 => rw [hc] at hx; cases hx; exact (h2 i x0 hc).kil hv hs
theorem Rep1.kil {id : Nat} {v0 v1 : Value} (hv : ρ[id]? = some v0) (hs : isSl v0 = true) {v : Value} {x : V} (h : Rep1 G w ρ v x) : Rep1 G w (ρ.set id v1) v (kil1 id x) := by
 cases h with
 | c h =>
  have : kil1 id x = kilC id x := by
   cases h with
   | k h => cases h <;> rfl
   | fc => rfl
  rw [this]
  exact .c (h.kil hv hs)
 | ag cs vs h1 h2 =>
  refine .ag cs _ (by simpa using h1) (fun i x hx => ?_)
  rw [List.getElem?_map] at hx
  cases hc : vs[i]? with
  | none => rw [hc] at hx; cases hx
  | some x0 => rw [hc] at hx; cases hx; exact (h2 i x0 hc).kil hv hs
theorem Rep2.kil {id : Nat} {v0 v1 : Value} (hv : ρ[id]? = some v0) (hs : isSl v0 = true) {v : Value} {x : V} (h : Rep2 G w ρ v x) : Rep2 G w (ρ.set id v1) v (kil2 id x) := by
 cases h with
 | o h =>
  have : kil2 id x = kil1 id x := by
   cases h with
   | c h => cases h with
    | k h => cases h <;> rfl
    | fc => rfl
   | ag => rfl
  rw [this]
  exact .o (h.kil hv hs)
 | tu cs vs h1 h2 =>
  refine .tu cs _ (by simpa using h1) (fun i x hx => ?_)
  rw [List.getElem?_map] at hx
  cases hc : vs[i]? with
  | none => rw [hc] at hx; cases hx
  | some x0 => rw [hc] at hx; cases hx; exact (h2 i x0 hc).kil hv hs
theorem RepB.kil {id : Nat} {v0 v1 : Value} (hv : ρ[id]? = some v0) (hs : isSl v0 = true) {hd : Value} {x : B} (h : RepB G w ρ hd x) : RepB G w (ρ.set id v1) hd (kilB id x) := by
 cases x with
 | no => trivial
 | nw => exact h
 | cells cs =>
  obtain ⟨b, arr, ty, rfl, h1, h2, h3⟩ := h
  refine ⟨b, arr, ty, rfl, h1, by simpa using h2, fun i x hx => ?_⟩
  rw [List.getElem?_map] at hx
  cases hc : cs[i]? with
  | none => rw [hc] at hx; cases hx
  | some x0 => rw [hc] at hx; cases hx; exact (h3 i x0 hc).kil hv hs
 | mp es =>
  obtain ⟨r, arr, clk, rfl, h1, h2, h3, h4⟩ := h
  refine ⟨r, arr, clk, rfl, h1, by simpa using h2, h3, fun i e x he hx => ?_⟩
  rw [List.getElem?_map] at hx
  cases hc : es[i]? with
  | none => rw [hc] at hx; cases hx
  | some x0 => rw [hc] at hx; cases hx; exact ⟨(h4 i e x0 he hc).1.kil hv hs, (h4 i e x0 he hc).2.kil hv hs⟩
 | dm es => exact RepB.mono (x := .dm es) h (fun _ h => h) (fun _ _ => rfl) (fun _ _ => rfl) (fun i hi => by cases hi)
 | di es r l => exact RepB.mono (x := .di es r l) h (fun _ h => h) (fun _ _ => rfl) (fun _ _ => rfl) (fun i hi => by cases hi)
 | ms z es out it =>
  have h1 := RepB.mono (x := .ms z es none it) (w' := w) (ρ' := ρ.set id v1) ⟨RepMs.drop h.1, h.2⟩ (fun _ h => h) (fun _ _ => rfl) (fun _ _ => rfl) (fun i hi => by cases hi)
  exact ⟨h1.1.outs h.1 (fun i v u ho hr => hr.kil hv hs), h.2⟩
 | rows z rs => exact h
 | rx z rs k r =>
  obtain ⟨b, cap, arr, ty, rfl, h1, h2, h3, h4, h0, h5, h6⟩ := h
  refine ⟨b, cap, arr, ty, rfl, h1, h2, h3, h4, by simpa using h0, h5, fun i x hx => ?_⟩
  rw [List.getElem?_map] at hx
  cases hc : r[i]? with
  | none => rw [hc] at hx; cases hx
  | some x0 => rw [hc] at hx; cases hx; exact (h6 i x0 hc).kil hv hs
end
theorem gs_map (f : V → V) (hf : f .un = .un) (t : T) (i : Nat) : gs (t.map fun p => (p.1, f p.2)) i = f (gs t i) := by
 induction t with
 | nil => exact hf.symm
 | cons p r ih =>
  obtain ⟨j, v⟩ := p
  simp only [List.map_cons, gs_cons]
  cases Nat.beq j i <;> simp [ih]
section
variable {E : Ent} {G G' : Nat → Prop} {w w' : World} {ρ : List Value} {h : H} {n : Nat} {t : T} {a : Act}
theorem Ok.freeg (hO : Ok E G w ρ h) {id : Nat} {v0 : Value} {x0 : B} {yd : D} (hv : ρ[id]? = some v0) (hx : h[id]? = some x0) (hn0 : x0 ≠ .no) (hd : RepD (fun b => G b ∨ blk v0 = some b) w v0 yd) (hcl : ∀ b, blk v0 = some b → clb w b) :
  Ok E (fun b => G b ∨ blk v0 = some b) w ρ (subH id (.d yd) h) := by
 have hG : ∀ b, G b → (fun b => G b ∨ blk v0 = some b) b := fun b h => .inl h
 have hbl : ∀ b, blk v0 = some b → own ρ h b := fun b hb => ⟨id, v0, _, hv, hx, hn0, mem_bks.2 (.inl hb)⟩
 have get : ∀ (j : Nat) (y : B), (subH id (.d yd) h)[j]? = some y → (y = .no) ∨ (j ≠ id ∧ ∃ y0, h[j]? = some y0 ∧ y = subB id (.d yd) y0 ∧ (y ≠ .no → y0 ≠ .no)) := by
  intro j y hj
  simp only [subH, List.getElem?_set, List.getElem?_map] at hj
  split at hj
  ·split at hj <;> cases hj
   exact .inl rfl
  ·rename_i hne
   cases hy : h[j]? with
   | none => rw [hy] at hj; cases hj
   | some y0 =>
    rw [hy] at hj
    cases hj
    exact .inr ⟨fun e => hne e.symm, y0, rfl, rfl, fun h0 e => h0 (by subst e; rfl)⟩
 have hownb : ∀ b, own ρ (subH id (.d yd) h) b → own ρ h b ∧ blk v0 ≠ some b := by
  rintro b ⟨j, v, y, h1, h2, h3, h4⟩
  rcases get j y h2 with rfl | ⟨hj, y0, g1, g2, g3⟩
  ·exact absurd rfl h3
  ·rw [g2, bks, gh_subB] at h4
   exact ⟨⟨j, v, y0, h1, g1, g3 h3, h4⟩, fun e => hj (hO.hr.dis j id v v0 y0 _ b h1 g1 (g3 h3) hv hx hn0 h4 (mem_bks.2 (.inl e)))⟩
 refine ⟨⟨by simp [subH, hO.hr.len], fun j v y h1 h2 => ?_, fun j j' v v' y y' b h1 h2 h3 h4 h5 h6 h7 h8 => ?_, fun b hb => ?_, fun b hb ho => ?_, hO.hr.glb.mono (fun _ h => .inl h) (fun _ _ => rfl)⟩, fun b hb => .inl (hO.gm b hb), fun b hb => ?_, fun b hb => hO.oo b (hownb b hb).1,
  hO.frame, hO.size, hO.os, hO.tape, hO.out, hO.hand, by simpa [subH] using hO.hl, fun r hr => ?_⟩
 ·rcases get j y h2 with rfl | ⟨hj, y0, g1, rfl, g3⟩
  ·trivial
  ·exact (hO.hr.rep j v y0 h1 g1).sub hv hG hd
 ·rcases get j y h2 with rfl | ⟨hj, y0, g1, rfl, g3⟩
  ·exact absurd rfl h3
  ·rcases get j' y' h5 with rfl | ⟨hj', y0', k1, rfl, k3⟩
   ·exact absurd rfl h6
   ·rw [bks, gh_subB] at h7 h8
    exact hO.hr.dis j j' v v' y0 y0' b h1 g1 (g3 h3) h4 k1 (k3 h6) h7 h8
 ·rcases hb with hb | hb
  ·exact hO.hr.gl b hb
  ·exact hO.hr.ownlt (hbl b hb)
 ·obtain ⟨h1, h2⟩ := hownb b ho
  rcases hb with hb | hb
  ·exact hO.hr.gd b hb h1
  ·exact h2 hb
 ·rcases hb with hb | hb
  ·exact hO.go b hb
  ·exact .inr ⟨hcl b hb, hO.oo b (hbl b hb)⟩
 ·obtain ⟨h1, h2, h3⟩ := hO.mks r hr
  exact ⟨h1, fun h4 => h4.elim h2 fun h5 => h3 (hbl r h5), fun h4 => h3 (hownb r h4).1⟩
theorem Ok.free (hO : Ok E G w ρ h) {id : Nat} {v0 : Value} {z : Nat} {rs : List (List D)} (hv : ρ[id]? = some v0) (hx : h[id]? = some (.rows z rs)) :
  Ok E (fun b => G b ∨ blk v0 = some b) w ρ (subH id (.d (.sl z rs)) h) := by
 refine hO.freeg hv hx (by simp) (hO.hr.rep id v0 _ hv hx).data fun b hb => ?_
 rcases hO.hr.rep id v0 _ hv hx with ⟨e, _⟩ | ⟨b0, cap, arr, ty, e, h1, _⟩
 ·rw [e] at hb
  cases hb
 ·rw [e] at hb
  cases hb
  exact ⟨_, _, _, h1⟩
theorem Conc.freeC (hC : Conc E n G ρ t h a w) {id : Nat} {cs : List V} {ds : List D} (hx : h[id]? = some (.cells cs)) (hD : allD cs = some ds) :
  ∃ v0, ρ[id]? = some v0 ∧ RepD (fun b => G b ∨ blk v0 = some b) w v0 (.pt ds 0) ∧ Conc E n (fun b => G b ∨ blk v0 = some b) ρ (subT id (.d (.pt ds 0)) t) (subH id (.d (.pt ds 0)) h) a w := by
 have hi : id < ρ.length := by rw [hC.ok.hr.len]; exact (List.getElem?_eq_some_iff.1 hx).1
 have hr := hC.ok.hr.rep id _ _ (List.getElem?_eq_getElem hi) hx
 have hd := hr.dataC hD
 refine ⟨ρ[id], List.getElem?_eq_getElem hi, hd, hC.ok.freeg (List.getElem?_eq_getElem hi) hx (by simp) hd (fun b hb => ?_), hC.df, hC.sz, fun i => ?_⟩
 ·obtain ⟨b', arr, ty, e, h1, _⟩ := hr
  rw [e] at hb
  cases hb
  exact ⟨_, _, _, h1⟩
 ·rw [subT, gs_map _ rfl]
  exact (hC.tm i).sub (List.getElem?_eq_getElem hi) (fun b h => .inl h) hd
theorem Conc.free (hC : Conc E n G ρ t h a w) {id : Nat} {z : Nat} {rs : List (List D)} (hx : h[id]? = some (.rows z rs)) :
  ∃ v0, ρ[id]? = some v0 ∧ RepD (fun b => G b ∨ blk v0 = some b) w v0 (.sl z rs) ∧ Conc E n (fun b => G b ∨ blk v0 = some b) ρ (subT id (.d (.sl z rs)) t) (subH id (.d (.sl z rs)) h) a w := by
 have hi : id < ρ.length := by rw [hC.ok.hr.len]; exact (List.getElem?_eq_some_iff.1 hx).1
 refine ⟨ρ[id], List.getElem?_eq_getElem hi, (hC.ok.hr.rep id _ _ (List.getElem?_eq_getElem hi) hx).data, hC.ok.free (List.getElem?_eq_getElem hi) hx, hC.df, hC.sz, fun i => ?_⟩
 rw [subT, gs_map _ rfl]
 exact (hC.tm i).sub (List.getElem?_eq_getElem hi) (fun b h => .inl h) (hC.ok.hr.rep id _ _ (List.getElem?_eq_getElem hi) hx).data
theorem Conc.put (hC : Conc E n G ρ t h a w) (d : Option Nat) {v : Value} {x : V} (hd : ∀ i, d = some i → i < n) (hr : Rep2 G w ρ v x) :
  Conc E n G ρ (match d with | some i => (i, x) :: t | none => t) h (a.put d v) w := by
 cases d with
 | none => exact hC
 | some i =>
  refine ⟨hC.ok, hC.df, by simpa [Act.put] using hC.sz, fun j => ?_⟩
  simp only [gs_cons, Act.put]
  by_cases hj : i = j
  ·subst hj
   have hi := hd i rfl
   rw [← hC.sz] at hi
   simpa [Array.getElem?_setIfInBounds, hi] using hr
  ·have hb : Nat.beq i j = false := nbeq hj
   rw [hb]
   have := hC.tm j
   simpa [Array.getElem?_setIfInBounds, hj] using this
theorem Conc.grow (hC : Conc E n G ρ t h a w) (hg : Grw w w') (hG : ∀ b, G b → G' b) (hG' : ∀ b, G' b → G b ∨ (w.heap.size ≤ b ∧ b < w'.heap.size ∧ clb w' b)) : Conc E n G' ρ t h a w' :=
 ⟨hC.ok.grow hg hG hG', hC.df, hC.sz, fun i => (hC.tm i).mono hG (fun b hb => hg.old b (hC.ok.hr.gl b hb)) (fun _ _ => rfl)⟩
theorem Conc.push (hC : Conc E n G ρ t h a w) (hg : Grw w w') (hd : Value) (x : B) (hbk : ∀ b, blk hd = some b → w.heap.size ≤ b) (hx : RepB G w' (ρ ++ [hd]) hd x) (hgh : gh x = [] := by rfl) : Conc E n G (ρ ++ [hd]) t (h ++ [x]) a w' :=
 ⟨hC.ok.push hg hd x hbk hx hgh, hC.df, hC.sz, fun i => (hC.tm i).mono (fun _ h => h) (fun b hb => hg.old b (hC.ok.hr.gl b hb)) (fun j hj => List.getElem?_append_left ((hC.tm i).lt j hj))⟩
end
end Go.Vx
namespace Go.Vx
section
variable {G : Nat → Prop} {w : World} {ρ : List Value}
theorem Rep2.c {v : Value} {x : V} (h : RepC G w ρ v x) : Rep2 G w ρ v x := .o (.c h)
theorem Rep2.k {v : Value} {x : V} (h : RepK G w ρ v x) : Rep2 G w ρ v x := .o (.c (.k h))
theorem Rep2.d {v : Value} {x : D} (h : RepD G w v x) : Rep2 G w ρ v (.d x) := .o (.c (.k (.d h)))
theorem Rep2.toD {v : Value} {x : D} (h : Rep2 G w ρ v (.d x)) : RepD G w v x := by
 cases h with | o h => cases h with | c h => cases h with | k h => cases h with | d h => exact h
theorem Rep2.int {v : Value} {k : IntKind} {n : Int} (h : Rep2 G w ρ v (.d (.int k n))) : v = .int k n := by cases h.toD; rfl
theorem Rep2.bool {v : Value} {b : Bool} (h : Rep2 G w ρ v (.d (.bool b))) : v = .bool b := by cases h.toD; rfl
theorem Rep2.str {v : Value} {b : List UInt8} (h : Rep2 G w ρ v (.d (.str b))) : ∃ s : ByteArray, v = .string s ∧ s.data.toList = b ∧ s.size ≤ maxLen := by
 cases h.toD; exact ⟨_, rfl, rfl, ‹_›⟩
theorem Rep2.pt {v : Value} {id off : Nat} (h : Rep2 G w ρ v (.p id off)) : ∃ b, v = .pointer (some ⟨b, off, none⟩) ∧ ρ[id]? = some (.pointer (some ⟨b, 0, none⟩)) := by
 cases h with | o h => cases h with | c h => cases h with | k h => cases h with | p _ _ b h => exact ⟨b, rfl, h⟩
theorem Rep2.el {v : Value} {row : List D} {off : Nat} (h : Rep2 G w ρ v (.e row off)) : ∃ (b o : Nat) (U : Nat → Value), v = .pointer (some ⟨b, o + off, none⟩) ∧ G b ∧
  (∀ (j : Nat) (x : D), row[j]? = some x → w.cell? ⟨b, o + j, none⟩ = some (U j)) ∧ (∀ (j : Nat) (x : D), row[j]? = some x → RepD G w (U j) x) := by
 cases h with | o h => cases h with | c h => cases h with | k h => cases h with | e b o _ _ U h1 h2 h3 => exact ⟨b, o, U, rfl, h1, h2, h3⟩
theorem Rep2.osl {v : Value} {id : Nat} (h : Rep2 G w ρ v (.os id)) : ∃ a n c, v = .slice a n c ∧ ρ[id]? = some (.slice a n c) := by
 cases h with | o h => cases h with | c h => cases h with | k h => cases h with | os _ a n c h => exact ⟨a, n, c, rfl, h⟩
theorem Rep2.ql {v : Value} {id z i off : Nat} (h : Rep2 G w ρ v (.q id z i off)) : ∃ b n c, v = .pointer (some ⟨b, i * z + off, none⟩) ∧ ρ[id]? = some (.slice (some ⟨b, 0, none⟩) n c) := by
 cases h with | o h => cases h with | c h => cases h with | k h => cases h with | q _ _ _ _ b n c h => exact ⟨b, n, c, rfl, h⟩
theorem Rep2.cll {v : Value} {z : Nat} {rows : List (List D)} (h : Rep2 G w ρ v (.cl z rows)) : ∃ a n, v = .slice a n n ∧ RepD G w (.slice a n n) (.sl z rows) := by
 cases h with | o h => cases h with | c h => cases h with | k h => cases h with | cl a n _ _ h => exact ⟨a, n, rfl, h⟩
theorem Rep2.fcl {v : Value} {f : Nat} {caps : List V} (h : Rep2 G w ρ v (.fc f caps)) : ∃ cs : Array Value, fcv f v cs ∧ cs.size = caps.length ∧ ∀ (i : Nat) (x : V), caps[i]? = some x → RepK G w ρ (cs.getD i undef) x := by
 cases h with
 | o h => cases h with
  | c h => cases h with
   | k h => cases h
   | fc _ _ cs _ h0 h1 h2 => exact ⟨cs, h0, h1, h2⟩
theorem Rep2.agl {v : Value} {vs : List V} (h : Rep2 G w ρ v (.ag vs)) : ∃ cs : Array Value, v = .agg cs ∧ cs.size = vs.length ∧ ∀ (i : Nat) (x : V), vs[i]? = some x → RepC G w ρ (cs.getD i undef) x := by
 cases h with
 | o h => cases h with
  | c h => cases h with
   | k h => cases h
  | ag cs _ h1 h2 => exact ⟨cs, rfl, h1, h2⟩
theorem Rep2.tul {v : Value} {vs : List V} (h : Rep2 G w ρ v (.tu vs)) : ∃ cs : Array Value, v = .tuple cs ∧ cs.size = vs.length ∧ ∀ (i : Nat) (x : V), vs[i]? = some x → Rep1 G w ρ (cs.getD i undef) x := by
 cases h with
 | o h => cases h with
  | c h => cases h with
   | k h => cases h
 | tu cs _ h1 h2 => exact ⟨cs, rfl, h1, h2⟩
theorem dv_ok {v : Value} {x : V} (h : Rep2 G w ρ v x) : Rep2 G w ρ v (dv x) := by
 by_cases hx : ∃ z, x = .nl z
 ·obtain ⟨z, rfl⟩ := hx
  cases h with | o h => cases h with | c h => cases h with | k h => cases h with | nl => exact .d (.slz z)
 ·have : dv x = x := by cases x <;> first | rfl | exact absurd ⟨_, rfl⟩ hx
  rw [this]; exact h
theorem RepD.emp (a : Option Addr) (z : Nat) : RepD G w (.slice a 0 0) (.sl z []) := by
 cases a with
 | none => exact .slz z
 | some a => exact .sle a z
theorem RepD.sll {v : Value} {z : Nat} {rows : List (List D)} (h : RepD G w v (.sl z rows)) : ((∃ a, v = .slice a 0 0) ∧ rows = []) ∨ ∃ (b o cap : Nat) (U : Nat → Nat → Value), v = .slice (some ⟨b, o, none⟩) rows.length cap ∧ rows.length ≤ cap ∧ cap ≤ maxLen ∧ G b ∧
  (∀ (i : Nat) (row : List D), rows[i]? = some row → row.length = z) ∧
  (∀ (i : Nat) (row : List D) (j : Nat) (x : D), rows[i]? = some row → row[j]? = some x → w.cell? ⟨b, o + (i * z + j), none⟩ = some (U i j)) ∧
  (∀ (i : Nat) (row : List D) (j : Nat) (x : D), rows[i]? = some row → row[j]? = some x → RepD G w (U i j) x) := by
 cases h with
 | slz => exact .inl ⟨⟨_, rfl⟩, rfl⟩
 | sle a => exact .inl ⟨⟨_, rfl⟩, rfl⟩
 | sl b o cap z rows U h1 h2 h3 h4 h5 h6 => exact .inr ⟨b, o, cap, U, rfl, h1, h2, h3, h4, h5, h6⟩
theorem RepD.len {v : Value} {z : Nat} {rows : List (List D)} (h : RepD G w v (.sl z rows)) : ∃ a c, v = .slice a rows.length c ∧ rows.length ≤ 9223372036854775807 := by
 rcases h.sll with ⟨⟨a, rfl⟩, rfl⟩ | ⟨b, o, cap, U, rfl, h1, h2, _⟩
 ·exact ⟨a, 0, rfl, by simp⟩
 ·exact ⟨_, _, rfl, by simp [maxLen] at h2; omega⟩
theorem cst_ok {P : Program} {ty : TypeId} {v : Value} {x : V} (h : cst P ty v = some x) : RepK G w ρ v x ∧ stor x = true ∧ (∀ cs, v ≠ .agg cs) ∧ idc x = [] := by
 unfold cst at h
 split at h <;> first | (cases h; done) | skip
 ·cases h; exact ⟨.d (.int _ _), rfl, by simp, rfl⟩
 ·cases h; exact ⟨.d (.bool _), rfl, by simp, rfl⟩
 ·split at h <;> cases h
  exact ⟨.d (.str _ (by simp only [maxLen]; omega)), rfl, by simp, rfl⟩
 ·cases h; exact ⟨.nl _, rfl, by simp, rfl⟩
 ·cases h; exact ⟨.d .np, rfl, by simp, rfl⟩
 ·cases h; exact ⟨.d .nf, rfl, by simp, rfl⟩
 ·cases h; exact ⟨.d .ni, rfl, by simp, rfl⟩
 ·cases h; exact ⟨.d .nm, rfl, by simp, rfl⟩
end
section
variable {P : Program} {E : Ent} {n : Nat} {G : Nat → Prop} {ρ : List Value} {t : T} {h : H} {a : Act} {w : World} {o : Oper} {nxt : Act → World → Prop} {Q : Exit → Act → World → Prop} {K KP : V → T → H → Prop}
theorem opd_ok (hC : Conc E n G ρ t h a w) {ty : TypeId} {x : Operand} {ox : O} (hx : opd P ty x = some ox) : Rep2 G w ρ (a.eval x) (gv t ox) := by
 cases x with
 | tmp i => cases hx; exact hC.tm i
 | const v =>
  simp only [opd, Option.map_eq_some_iff] at hx
  obtain ⟨y, hy, rfl⟩ := hx
  have hk := (cst_ok (G := G) (w := w) (ρ := ρ) hy).1
  by_cases hnl : ∃ z, y = .nl z
  ·obtain ⟨z, rfl⟩ := hnl
   cases hk
   exact .k (.d (.slz z))
  ·have : gv t (.k y) = y := by cases y <;> first | rfl | exact absurd ⟨_, rfl⟩ hnl
   rw [this]
   exact .k hk
 | func f => cases hx; exact .k (.d (.fn f))
 | global g =>
  cases hx
  show Rep2 G w ρ (.pointer (some ⟨g, 0, none⟩)) (match tget glL g with | some row => .e row 0 | none => .un)
  cases hg : tget glL g with
  | none => exact .k (.un _)
  | some row =>
   obtain ⟨h1, U, h2, h3⟩ := hC.ok.hr.glb g row hg
   exact .k (.e g 0 0 row U h1 h2 h3)
theorem nlv_ok (hC : Conc E n G ρ t h a w) {ty : TypeId} {x : Operand} {ox : O} (hx : opd P ty x = some ox) : Rep2 G w ρ (a.eval x) (nlv t ox) := by
 have h0 := opd_ok hC hx
 by_cases hn : ∃ z, ox = .k (.nl z)
 ·obtain ⟨z, rfl⟩ := hn
  cases x with
  | tmp i => cases hx
  | const v =>
   simp only [opd, Option.map_eq_some_iff] at hx
   obtain ⟨y, hy, he⟩ := hx
   cases he
   exact .k (cst_ok (G := G) (w := w) (ρ := ρ) hy).1
  | func f => cases hx
  | global g => cases hx
 ·have : nlv t ox = gv t ox := by
   cases ox with
   | s i => rfl
   | g i => rfl
   | k v => cases v <;> first | rfl | exact absurd ⟨_, rfl⟩ hn
  rw [this]
  exact h0
def Nxt (E : Ent) (n : Nat) (a : Act) (o : Oper) (K : V → T → H → Prop) (nxt : Act → World → Prop) : Prop :=
 ∀ (v' : Value) (w' : World) (G' : Nat → Prop) (ρ' : List Value) (t' : T) (h' : H) (v : V), Conc E n G' ρ' t' h' a w' → Rep2 G' w' ρ' v' v → K v t' h' → nxt (a.put o.dst v') w'
theorem wp_val {v' : Value} {w' : World} (hr : (execOp a.eval o).run P w = .ok (.value v') w') (h : nxt (a.put o.dst v') w') : o.wp P a w nxt Q := by
 unfold Oper.wp; rw [hr]; exact h
theorem wp_unit {w' : World} (hr : (execOp a.eval o).run P w = .ok .skip w') (h : nxt (a.put o.dst undef) w') : o.wp P a w nxt Q := by
 unfold Oper.wp; rw [hr]; exact h
theorem wp_quiet (hC : Conc E n G ρ t h a w) (hn : Nxt E n a o K nxt) {v' : Value} {v : V} (hr : (execOp a.eval o).run P w = .ok (.value v') w) (hv : Rep2 G w ρ v' v) (hk : K v t h) : o.wp P a w nxt Q :=
 wp_val hr (hn v' w G ρ t h v hC hv hk)
theorem run_execv {s : Sem Value} {v' : Value} {w' : World} (hs : s.run P w = .ok v' w') : ((do pure (Next.value (← s))) : Sem Next).run P w = .ok (.value v') w' := by
 simp [hs]
theorem op_mv (hC : Conc E n G ρ t h a w) (hn : Nxt E n a o K nxt) {x : Operand} {ox : O} {ty : TypeId} (ho : o.op = .move x ∨ o.op = .assign x) (hx : opd P ty x = some ox) (hk : K (gv t ox) t h) : o.wp P a w nxt Q := by
 refine wp_quiet hC hn (v' := a.eval x) ?_ (opd_ok hC hx) hk
 rcases ho with ho | ho <;> simp [execOp, ho]
theorem op_nil (hC : Conc E n G ρ t h a w) (hn : Nxt E n a o K nxt) {z : Nat} (ho : o.op = .move (.const (.slice none 0 0)) ∨ o.op = .assign (.const (.slice none 0 0))) (hk : K (.os h.length) t (h ++ [.rows z []])) : o.wp P a w nxt Q := by
 have hC' := hC.push (Grw.refl w) (.slice none 0 0) (.rows z []) (by simp [blk]) (.inl ⟨rfl, rfl⟩)
 refine wp_quiet hC' hn (v' := .slice none 0 0) ?_ (.k (.os h.length none 0 0 ?_)) hk
 ·rcases ho with ho | ho <;> simp [execOp, ho, Act.eval]
 ·rw [← hC.ok.hr.len]; simp
theorem op_pk (hC : Conc E n G ρ t h a w) (hn : Nxt E n a o K nxt) {c x y : Operand} {oc ox oy : O} {t1 t2 t3 : TypeId} (ho : o.op = .pick c x y) (hc : opd P t1 c = some oc) (hx : opd P t2 x = some ox) (hy : opd P t3 y = some oy)
  {b : Bool} (hb : gv t oc = .d (.bool b)) (hk : sp b (K (gv t ox) t h) (K (gv t oy) t h)) : o.wp P a w nxt Q := by
 have hv := (hb ▸ opd_ok hC hc).bool
 cases b
 ·exact wp_quiet hC hn (v' := a.eval y) (by simp [execOp, ho, hv, asBool]) (opd_ok hC hy) hk
 ·exact wp_quiet hC hn (v' := a.eval x) (by simp [execOp, ho, hv, asBool]) (opd_ok hC hx) hk
theorem cells_ok {v : Value} {x : V} (hv : Rep2 G w ρ v x) (hs : x.cs.all stor = true) : v.cells.size = x.cs.length ∧ (∀ (i : Nat) (y : V), x.cs[i]? = some y → RepC G w ρ (v.cells.getD i undef) y) := by
 by_cases hag : ∃ vs, x = .ag vs
 ·obtain ⟨vs, rfl⟩ := hag
  obtain ⟨cs, rfl, h1, h2⟩ := hv.agl
  exact ⟨h1, h2⟩
 ·have hcs : x.cs = [x] := by cases x <;> first | rfl | exact absurd ⟨_, rfl⟩ hag
  rw [hcs] at hs ⊢
  simp only [List.all_cons, List.all_nil, Bool.and_true] at hs
  have hc : RepC G w ρ v x := by
   cases hv with
   | o h => cases h with
    | c h => exact h
    | ag cs vs => exact absurd ⟨_, rfl⟩ hag
   | tu => simp [stor] at hs
  have hvc : v.cells = #[v] := by
   cases hc with
   | k hk => cases hk <;> first | rfl | (simp [stor] at hs; done) | exact RepD.cells ‹_› | (rename_i hd; cases hd; rfl)
   | fc _ _ _ _ h0 => exact fcv_cells h0
  rw [hvc]
  refine ⟨rfl, fun i y hi => ?_⟩
  cases i with
  | zero => simp at hi; subst hi; simpa using hc
  | succ i => simp at hi
theorem fcv_one {F : Nat} {v : Value} {cs : Array Value} (h : fcv F v cs) : v.oneCell' = true := by
 rcases h with ⟨_, rfl⟩ | ⟨_, ⟨f, _, _, rfl⟩ | ⟨f, _, _, rfl⟩ | ⟨f, x, _, _, rfl, _⟩⟩ <;> rfl
theorem RepD.one {G : Nat → Prop} {w : World} {v : Value} {x : D} (h : RepD G w v x) : v.oneCell' = true := by
 cases h <;> first | rfl | exact fcv_one ‹_›
theorem one_ok {v : Value} {x : V} (hv : RepC G w ρ v x) (hs : stor x = true) : v.oneCell' = true := by
 cases hv with
 | k hk => cases hk <;> first | rfl | (simp [stor] at hs; done) | exact RepD.one ‹_› | (rename_i hd; cases hd; rfl)
 | fc _ _ _ _ h0 => exact fcv_one h0
theorem RepC.alloc {v : Value} {x : V} {b : Obj} {hd : Value} (hC : HR G w ρ h) (hv : RepC G w ρ v x) : RepC G (w.alloc b) (ρ ++ [hd]) v x :=
 hv.mono (fun _ h => h) (fun c hc => (Grw.alloc w b).old c (hC.gl c hc)) (fun i hi => List.getElem?_append_left (hv.lt i hi))
theorem op_new (hC : Conc E n G ρ t h a w) (hn : Nxt E n a o K nxt) {ty : TypeId} {arr : Array Value} {cs : List V} (hr : (execOp a.eval o).run P w = .ok (.value (.pointer (some ⟨w.heap.size, 0, none⟩))) (w.alloc (.cells arr ty)))
  (hs : arr.size = cs.length) (hcs : ∀ (i : Nat) (y : V), cs[i]? = some y → RepC G w ρ (arr.getD i undef) y) (hk : K (.p h.length 0) t (h ++ [.cells cs])) : o.wp P a w nxt Q := by
 have hb : RepB G (w.alloc (.cells arr ty)) (ρ ++ [.pointer (some ⟨w.heap.size, 0, none⟩)]) (.pointer (some ⟨w.heap.size, 0, none⟩)) (.cells cs) :=
  ⟨w.heap.size, arr, ty, rfl, heap_alloc_new w _, hs, fun i y hi => (hcs i y hi).alloc hC.ok.hr⟩
 have hC' := hC.push (Grw.alloc w (.cells arr ty)) _ _ (by intro b hb; simp only [blk, Option.some.injEq] at hb; omega) hb
 refine wp_val hr (hn _ _ _ _ _ _ _ hC' (.k (.p h.length 0 w.heap.size ?_)) hk)
 rw [← hC.ok.hr.len]; simp
theorem op_bx (hC : Conc E n G ρ t h a w) (hn : Nxt E n a o K nxt) {x : Operand} {ox : O} {ty t1 : TypeId} (ho : o.op = .box ty x) (hx : opd P t1 x = some ox)
  (hk : (gv t ox).cs.all stor = true ∧ K (.p h.length 0) t (h ++ [.cells (gv t ox).cs])) : o.wp P a w nxt Q := by
 obtain ⟨h1, h2⟩ := cells_ok (opd_ok hC hx) hk.1
 refine op_new hC hn (ty := ty) (arr := (a.eval x).cells) ?_ h1 h2 hk.2
 simp [execOp, ho, Instr.box, newVar, newRow]
theorem zer_ok {ty : TypeId} {zs : List V} (hz : zer P ty = some zs) : ∃ i z, P.info? ty = some i ∧ i.zero = some z ∧ z.cells.size = zs.length ∧ zs.all stor = true ∧ ∀ (j : Nat) (x : V), zs[j]? = some x → RepK G w ρ (z.cells.getD j undef) x ∧ idc x = [] := by
 simp only [zer, Option.bind_eq_bind, Option.bind_eq_some_iff] at hz
 obtain ⟨i, hi, z, hz0, hm⟩ := hz
 split at hm
 ·rename_i hts
  refine ⟨i, z, hi, hz0, ?_⟩
  have key : ∀ (l : List Value) (ts : List TypeId) (zs : List V), ts.length = l.length → (l.zip ts).mapM (fun p => cst P p.2 p.1) = some zs → l.length = zs.length ∧ zs.all stor = true ∧ ∀ (j : Nat) (x : V), zs[j]? = some x → RepK G w ρ (l.getD j undef) x ∧ idc x = [] := by
   intro l
   induction l with
   | nil => intro ts zs _ h; simp at h; subst h; simp
   | cons v l ih =>
    intro ts zs hl h
    cases ts with
    | nil => simp at hl
    | cons ty ts =>
     simp only [List.zip_cons_cons, List.mapM_cons, Option.bind_eq_bind, Option.bind_eq_some_iff, Option.pure_def, Option.some.injEq] at h
     obtain ⟨x, hx, xs, hxs, rfl⟩ := h
     obtain ⟨i1, i2, i3⟩ := ih ts xs (by simpa using hl) hxs
     have hc := cst_ok (G := G) (w := w) (ρ := ρ) hx
     refine ⟨by simp [i1], by simp [hc.2.1, i2], fun j y hy => ?_⟩
     cases j with
     | zero => simp at hy; subst hy; simpa using ⟨hc.1, hc.2.2.2⟩
     | succ j => simpa using i3 j y (by simpa using hy)
  obtain ⟨h1, h2, h3⟩ := key _ _ _ (by simpa using hts) hm
  refine ⟨by simpa using h1, h2, fun j x hx => ?_⟩
  have := h3 j x hx
  simpa [List.getD, Array.getD_eq_getD_getElem?] using this
 ·cases hm
theorem op_al (hC : Conc E n G ρ t h a w) (hn : Nxt E n a o K nxt) {ty : TypeId} {zs : List V} (ho : o.op = .alloc ty) (hz : zer P ty = some zs) (hk : K (.p h.length 0) t (h ++ [.cells zs])) : o.wp P a w nxt Q := by
 obtain ⟨i, z, hi, hz0, h1, _, h3⟩ := zer_ok (G := G) (w := w) (ρ := ρ) hz
 refine op_new hC hn (ty := ty) (arr := z.cells) ?_ h1 (fun j x hx => .k (h3 j x hx).1) hk
 simp [execOp, ho, Instr.alloc, zeroValue, typeInfo, hi, hz0, newVar, newRow]
end
end Go.Vx
namespace Go.Vx
section
variable {P : Program} {E : Ent} {n : Nat} {G : Nat → Prop} {ρ : List Value} {t : T} {h : H} {a : Act} {w : World} {o : Oper} {nxt : Act → World → Prop} {Q : Exit → Act → World → Prop} {K KP : V → T → H → Prop}
theorem run_isAgg {ty : TypeId} {b : Bool} (hb : isAg P ty = some b) : (isAgg ty).run P w = .ok b w := by
 simp only [isAg, Option.map_eq_some_iff] at hb
 obtain ⟨d, hd, rfl⟩ := hb
 simp only [isAgg, Sem.run_bind, run_underlying hd, Result.andThen_ok]
 cases d <;> rfl
theorem ldn_none {ty : TypeId} (hl : ldn P ty = some none) (ad : Addr) : (loadVar ty ad).run P w = (load ad).run P w := by
 simp only [ldn, Option.bind_eq_bind, Option.bind_eq_some_iff] at hl
 obtain ⟨i, hi, b, hb, hx⟩ := hl
 cases b
 ·simp [loadVar, run_isAgg hb]
 ·simp at hx
theorem ldn_some {ty : TypeId} {k : Nat} (hl : ldn P ty = some (some k)) (ad : Addr) (cs : List Value) (hk : cs.length = k) (hc : ∀ (j : Nat) (v : Value), cs[j]? = some v → w.cell? (ad.add j) = some v) :
  (loadVar ty ad).run P w = .ok (.agg cs.toArray) w := by
 simp only [ldn, Option.bind_eq_bind, Option.bind_eq_some_iff] at hl
 obtain ⟨i, hi, b, hb, hx⟩ := hl
 cases b
 ·simp at hx
 ·simp at hx
  subst hx
  have := run_loadCells_list (P := P) w ad cs hc
  rw [hk] at this
  simp [loadVar, run_isAgg hb, sizeOf, typeInfo, hi, this]
theorem add_off (b off j : Nat) : (⟨b, off, none⟩ : Addr).add j = ⟨b, off + j, none⟩ := by
 unfold Addr.add; split <;> simp_all
theorem cell_arr {b off : Nat} {arr : Array Value} {ty : TypeId} (hw : w.heap[b]? = some (.cells arr ty (0, 0))) : w.cell? ⟨b, off, none⟩ = arr[off]? := by
 simp [World.cell?, hw]
theorem ld_agg (hC : Conc E n G ρ t h a w) (hn : Nxt E n a o K nxt) {ty : TypeId} {x : Operand} {b off k : Nat} {U : Nat → Value} {vs : List V} (ho : o.op = .load ty x) (hp : a.eval x = .pointer (some ⟨b, off, none⟩)) (hl : ldn P ty = some (some k))
  (hlen : vs.length = k) (hU : ∀ (j : Nat) (y : V), vs[j]? = some y → w.cell? ⟨b, off + j, none⟩ = some (U j) ∧ RepC G w ρ (U j) y) (hk : K (.ag vs) t h) : o.wp P a w nxt Q := by
 have hrun : (loadVar ty ⟨b, off, none⟩).run P w = .ok (.agg ((List.range vs.length).map U).toArray) w := by
  refine ldn_some hl _ _ (by simpa using hlen) (fun j v hv => ?_)
  rw [add_off]
  simp only [List.getElem?_map, Option.map_eq_some_iff] at hv
  obtain ⟨j', hj', rfl⟩ := hv
  have hjl : j < vs.length := by
   have := (List.getElem?_eq_some_iff.1 hj').1
   simpa using this
  rw [List.getElem?_range hjl] at hj'
  cases hj'
  exact (hU j _ (List.getElem?_eq_getElem hjl)).1
 refine wp_quiet hC hn (v' := .agg ((List.range vs.length).map U).toArray) ?_ (.o (.ag _ vs (by simp) (fun i y hi => ?_))) hk
 ·simp [execOp, ho, hp, Instr.loadAt, Instr.sureAddr, hrun]
 ·have hil : i < vs.length := (List.getElem?_eq_some_iff.1 hi).1
  simpa [Array.getD_eq_getD_getElem?, hil] using (hU i y hi).2
theorem ld_one (hC : Conc E n G ρ t h a w) (hn : Nxt E n a o K nxt) {ty : TypeId} {x : Operand} {ad : Addr} {v' : Value} {v : V} (ho : o.op = .load ty x) (hp : a.eval x = .pointer (some ad)) (hl : ldn P ty = some none)
  (hc : w.cell? ad = some v') (hv : RepC G w ρ v' v) (hk : K v t h) : o.wp P a w nxt Q := by
 refine wp_quiet hC hn (v' := v') ?_ (.c hv) hk
 simp [execOp, ho, hp, Instr.loadAt, Instr.sureAddr, ldn_none hl, hc]
theorem nbq {i j : Nat} (h : Nat.beq i j = true) : i = j := Nat.eq_of_beq_eq_true h
theorem rows_cell {hd : Value} {z : Nat} {rs : List (List D)} (hr : RepB G w ρ hd (.rows z rs)) {i : Nat} {row : List D} (hi : rs[i]? = some row) :
  ∃ b cap arr ty, hd = .slice (some ⟨b, 0, none⟩) rs.length cap ∧ w.heap[b]? = some (.cells arr ty (0, 0)) ∧ row.length = z ∧ i * z + z ≤ arr.size ∧
   ∀ (j : Nat) (x : D), row[j]? = some x → w.cell? ⟨b, i * z + j, none⟩ = some (arr.getD (i * z + j) undef) ∧ RepD G w (arr.getD (i * z + j) undef) x := by
 rcases hr with ⟨_, rfl⟩ | ⟨b, cap, arr, ty, rfl, h1, h2, h3, h4, h5⟩
 ·simp at hi
 ·obtain ⟨hz, hx⟩ := h5 i row hi
  have hil : i < rs.length := (List.getElem?_eq_some_iff.1 hi).1
  have hle : i * z + z ≤ arr.size := by
   rw [h4]
   have : (i + 1) * z ≤ cap * z := Nat.mul_le_mul_right _ (by omega)
   rw [Nat.add_mul] at this
   omega
  refine ⟨b, cap, arr, ty, rfl, h1, hz, hle, fun j x hj => ⟨?_, hx j x hj⟩⟩
  have hjl : j < row.length := (List.getElem?_eq_some_iff.1 hj).1
  rw [cell_arr h1, Array.getD_eq_getD_getElem?, Array.getElem?_eq_getElem (by omega)]
  rfl
section
variable (S : Nat → List V → H → (Out → H → Prop) → Prop) (ow : Nat → Bool)
theorem op_ld (hC : Conc E n G ρ t h a w) (hn : Nxt E n a o K nxt) {ty t1 : TypeId} {x : Operand} {ox : O} {m : Option Nat} (ho : o.op = .load ty x) (hx : opd P t1 x = some ox) (hl : ldn P ty = some m)
  (hk : opx S ow (.ld ox m) t h K KP) : o.wp P a w nxt Q := by
 have hv := opd_ok hC hx
 simp only [opx] at hk
 split at hk
 ·skip
  rename_i id off hg
  rw [hg] at hv
  obtain ⟨b, hp, hρ⟩ := hv.pt
  rw [get?_eq] at hk
  split at hk
  ·rename_i cs hcs
   obtain ⟨b', arr, ty', hb, h1, h2, h3⟩ := hC.ok.hr.rep id _ _ hρ hcs
   simp only [Value.pointer.injEq, Option.some.injEq, Addr.mk.injEq, and_true] at hb
   obtain ⟨rfl, _⟩ := hb
   cases m with
   | none =>
    simp only [get?_eq] at hk
    split at hk
    ·rename_i v hvv
     have hol : off < arr.size := by rw [h2]; exact (List.getElem?_eq_some_iff.1 hvv).1
     refine ld_one hC hn ho hp hl (v' := arr[off]) (by rw [cell_arr h1]; exact Array.getElem?_eq_getElem hol) ?_ hk
     have := h3 off v hvv
     simpa [Array.getD_eq_getD_getElem?, hol] using this
    ·exact hk.elim
   | some k =>
    simp only [fl_eq] at hk
    have hlen := nbq hk.1
    refine ld_agg hC hn ho hp hl (U := fun j => arr.getD (off + j) undef) hlen (fun j y hy => ?_) hk.2
    have hj : j < k := by rw [← hlen]; exact (List.getElem?_eq_some_iff.1 hy).1
    rw [List.getElem?_take, if_pos hj, List.getElem?_drop] at hy
    have hol : off + j < arr.size := by rw [h2]; exact (List.getElem?_eq_some_iff.1 hy).1
    refine ⟨?_, h3 (off + j) y hy⟩
    rw [cell_arr h1, Array.getD_eq_getD_getElem?, Array.getElem?_eq_getElem hol]; rfl
  ·exact hk.elim
 ·skip
  rename_i row off hg
  rw [hg] at hv
  obtain ⟨b, oo, U, hp, hGb, hU, hD⟩ := hv.el
  cases m with
  | none =>
   simp only [get?_eq] at hk
   split at hk
   ·rename_i v hvv
    exact ld_one hC hn ho hp hl (hU off v hvv) (.k (.d (hD off v hvv))) hk
   ·exact hk.elim
  | some k =>
   simp only [fl_eq] at hk
   have hlen := nbq hk.1
   refine ld_agg hC hn ho hp hl (U := fun j => U (off + j)) hlen (fun j y hy => ?_) hk.2
   have hj : j < k := by rw [← hlen]; exact (List.getElem?_eq_some_iff.1 hy).1
   rw [List.getElem?_map, List.getElem?_take, if_pos hj, List.getElem?_drop] at hy
   cases hr : row[off + j]? with
   | none => rw [hr] at hy; cases hy
   | some y0 =>
    rw [hr] at hy; cases hy
    exact ⟨by rw [Nat.add_assoc]; exact hU _ _ hr, .k (.d (hD _ _ hr))⟩
 ·skip
  rename_i id z i off hg
  rw [hg] at hv
  obtain ⟨b, nn, c, hp, hρ⟩ := hv.ql
  rw [get?_eq] at hk
  split at hk
  ·rename_i z' rs hrs
   obtain ⟨hz, row, hrow, hk⟩ := hk
   obtain rfl := nbq hz
   obtain ⟨b', cap, arr, ty', hb, h1, h2, hle, h3⟩ := rows_cell (hC.ok.hr.rep id _ _ hρ hrs) hrow
   simp only [Value.slice.injEq, Option.some.injEq, Addr.mk.injEq, and_true] at hb
   obtain ⟨rfl, _, _⟩ := hb
   cases m with
   | none =>
    simp only [get?_eq] at hk
    split at hk
    ·rename_i v hvv
     exact ld_one hC hn ho hp hl (h3 off v hvv).1 (.k (.d (h3 off v hvv).2)) hk
    ·exact hk.elim
   | some k =>
    simp only [fl_eq] at hk
    have hlen := nbq hk.1
    refine ld_agg hC hn ho hp hl (U := fun j => arr.getD (i * z + (off + j)) undef) hlen (fun j y hy => ?_) hk.2
    have hj : j < k := by rw [← hlen]; exact (List.getElem?_eq_some_iff.1 hy).1
    rw [List.getElem?_map, List.getElem?_take, if_pos hj, List.getElem?_drop] at hy
    cases hr : row[off + j]? with
    | none => rw [hr] at hy; cases hy
    | some y0 =>
     rw [hr] at hy; cases hy
     exact ⟨by rw [Nat.add_assoc]; exact (h3 _ _ hr).1, .k (.d (h3 _ _ hr).2)⟩
  ·rename_i z' rs i' row hrs
   obtain ⟨⟨hz, rfl⟩, hk⟩ := hk
   obtain rfl := nbq hz
   obtain ⟨b', cap, arr, ty', hb, h1, h2, h3, h4, ⟨h0, hrz⟩, h5, h6⟩ := hC.ok.hr.rep id _ _ hρ hrs
   simp only [Value.slice.injEq, Option.some.injEq, Addr.mk.injEq, and_true] at hb
   obtain ⟨rfl, _, _⟩ := hb
   cases m with
   | none =>
    simp only [get?_eq] at hk
    split at hk
    ·rename_i v hvv
     have hol : off < row.length := (List.getElem?_eq_some_iff.1 hvv).1
     have hle : i * z + z ≤ arr.size := by
      rw [h4]
      have : (i + 1) * z ≤ cap * z := Nat.mul_le_mul_right _ (by omega)
      rw [Nat.add_mul] at this
      omega
     refine ld_one hC hn ho hp hl (v' := arr.getD (i * z + off) undef) ?_ (h6 off v hvv) hk
     rw [cell_arr h1, Array.getD_eq_getD_getElem?, Array.getElem?_eq_getElem (by omega)]
     rfl
    ·exact hk.elim
   | some k => exact hk.elim
  ·exact hk.elim
 ·exact hk.elim
theorem op_fa (hC : Conc E n G ρ t h a w) (hn : Nxt E n a o K nxt) {ty t1 : TypeId} {x : Operand} {f : Nat} {fs : Array Field} {fd : Field} {ox : O} (ho : o.op = .fieldAddr ty x f) (hu : P.underlying ty = some (.struct fs)) (hf : fs[f]? = some fd)
  (hz : P.cellsOf fd.type ≠ 0) (hx : opd P t1 x = some ox) (hk : opx S ow (.fa ox fd.offset) t h K KP) : o.wp P a w nxt Q := by
 have hv := opd_ok hC hx
 have hrun : ∀ ad : Addr, a.eval x = .pointer (some ad) → (execOp a.eval o).run P w = .ok (.value (.pointer (some (ad.add fd.offset)))) w := by
  intro ad had
  unfold Program.cellsOf at hz
  cases hi : P.info? fd.type with
  | none => rw [hi] at hz; simp at hz
  | some i =>
   rw [hi] at hz
   simp at hz
   simp [execOp, ho, had, Instr.fieldAt, run_underlying hu, hf, Instr.sureAddr, fieldPlace, sizeOf, typeInfo, hi, hz]
 simp only [opx] at hk
 split at hk
 ·rename_i id off hg
  rw [hg] at hv
  obtain ⟨b, hp, hρ⟩ := hv.pt
  rw [fnat_eq] at hk
  refine wp_quiet hC hn (hrun _ hp) ?_ hk
  rw [add_off]
  exact .k (.p id _ b hρ)
 ·rename_i row off hg
  rw [hg] at hv
  obtain ⟨b, oo, U, hp, hGb, hU, hD⟩ := hv.el
  rw [fnat_eq] at hk
  refine wp_quiet hC hn (hrun _ hp) ?_ hk
  rw [add_off, Nat.add_assoc]
  exact .k (.e b oo _ row U hGb hU hD)
 ·rename_i id z i off hg
  rw [hg] at hv
  obtain ⟨b, nn, c, hp, hρ⟩ := hv.ql
  rw [fnat_eq] at hk
  refine wp_quiet hC hn (hrun _ hp) ?_ hk
  rw [add_off, Nat.add_assoc]
  exact .k (.q id z i _ b nn c hρ)
 ·exact hk.elim
theorem op_ia (hC : Conc E n G ρ t h a w) (hn : Nxt E n a o K nxt) {ty e t1 t2 : TypeId} {x i : Operand} {ox oi : O} (ho : o.op = .indexAddr ty x i) (hu : P.underlying ty = some (.slice e)) (hc0 : P.cellsOf e ≠ 0) (hx : opd P t1 x = some ox) (hi : opd P t2 i = some oi)
  (hk : opx S ow (.ia ox oi (P.cellsOf e)) t h K KP) : o.wp P a w nxt Q := by
 have hvx := opd_ok hC hx
 have hvi := opd_ok hC hi
 have hrun : ∀ (b off len cap : Nat) (k : IntKind) (m : Int), a.eval x = .slice (some ⟨b, off, none⟩) len cap → a.eval i = .int k m → 0 ≤ m → m < len →
   (execOp a.eval o).run P w = .ok (.value (.pointer (some ⟨b, off + m.toNat * P.cellsOf e, none⟩))) w := by
  intro b off len cap k m h1 h2 h3 h4
  unfold Program.cellsOf at hc0 ⊢
  cases hie : P.info? e with
  | none => rw [hie] at hc0; simp at hc0
  | some ie =>
   simp [execOp, ho, h1, h2, Instr.indexAt, asIntOf, run_underlying hu, h3, h4, sizeOf, typeInfo, hie, add_off]
 simp only [opx] at hk
 split at hk
 ·rename_i k m hgi
  rw [hgi] at hvi
  have hei := hvi.int
  have data : ∀ (z' : Nat) (rows : List (List D)), RepD G w (a.eval x) (.sl z' rows) → (∃ row, (0 ≤ m ∧ rows[m.toNat]? = some row ∧ Nat.beq z' (P.cellsOf e) = true) ∧ K (.e row 0) t h) → o.wp P a w nxt Q := by
   rintro z' rows hD ⟨row, ⟨h0, hr, hz⟩, hk⟩
   obtain rfl := nbq hz
   have hlt : m.toNat < rows.length := (List.getElem?_eq_some_iff.1 hr).1
   rcases hD.sll with ⟨_, rfl⟩ | ⟨b, oo, cap, U, hv, g1, g2, g3, g4, g5, g6⟩
   ·simp at hlt
   ·refine wp_quiet hC hn (hrun b oo rows.length cap k m hv hei h0 (by omega)) ?_ hk
    exact .k (.e b (oo + m.toNat * P.cellsOf e) 0 row (fun j => U m.toNat j) g3 (fun j x hj => by rw [Nat.add_assoc]; exact g5 _ _ _ _ hr hj) (fun j x hj => g6 _ _ _ _ hr hj))
  split at hk
  ·rename_i z' rows hgx
   rw [hgx] at hvx
   exact data z' rows hvx.toD hk
  ·rename_i z' rows hgx
   rw [hgx] at hvx
   obtain ⟨ad, nn, hv, hD⟩ := hvx.cll
   rw [← hv] at hD
   exact data z' rows hD hk
  ·rename_i id hgx
   rw [hgx] at hvx
   obtain ⟨ad, nn, c, hv, hρ⟩ := hvx.osl
   rw [get?_eq] at hk
   split at hk
   ·rename_i z' rs hrs
    obtain ⟨⟨h0, hlt, hz⟩, hk⟩ := hk
    obtain rfl := nbq hz
    have hlt' : m.toNat < rs.length := by omega
    obtain ⟨b', cap, arr, ty', hb, h1, h2, hle, h3⟩ := rows_cell (hC.ok.hr.rep id _ _ hρ hrs) (List.getElem?_eq_getElem hlt')
    simp only [Value.slice.injEq] at hb
    obtain ⟨rfl, rfl, rfl⟩ := hb
    refine wp_quiet hC hn (hrun b' 0 rs.length c k m hv hei h0 hlt) ?_ hk
    rw [Nat.zero_add]
    exact .k (.q id _ _ 0 b' _ _ hρ)
   ·exact hk.elim
  ·exact hk.elim
 ·exact hk.elim
end
end
end Go.Vx
