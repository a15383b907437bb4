/- Ways to use the conditions of a range over a function. Conditions: none; lemmas on the definitions before. -/
import Derived.Test.YtjpgfgajkjhonaaGreatDoorQTAS
namespace Go.Vx
def keepS (t : T) : T := (keepT [] t).filter fun p => !(sl2 p.2)
theorem subs_filter {t : T} (f : Nat × V → Bool) : ∀ {r : T}, subs t r → subs t (r.filter f)
 | [], _ => trivial
 | p :: r, h => by
  rw [List.filter_cons]
  split
  ·exact ⟨h.1, subs_filter f h.2⟩
  ·exact subs_filter f h.2
theorem keepS_subs (t : T) : subs t (keepS t) := subs_filter _ (keepT_subs t t [] fun _ _ => rfl)
theorem keepS_all (t : T) : ((keepS t).all fun p => !(sl2 p.2)) = true := by
 rw [List.all_eq_true]
 exact fun p hp => (List.mem_filter.1 hp).2
theorem Sat.iter {P : Program} {f : Nat} {vs : List V} {h : H} {xs : List (List D)} (hI : IterP P f vs h xs) (z : Nat) : Sat P (5000000 + f) vs h fun o h' => o = .ret (.d (.sl z xs)) ∧ h' = [] :=
 .inr ⟨Nat.le_add_right .., z, xs, by rw [Nat.add_sub_cancel_left]; exact hI, rfl, rfl⟩
theorem rf_use {P : Program} {n0 : Nat} {iha ihb : Nat → T → H → (Ex → T → H → Prop) → Prop} {g : O} {p : Nat} {t : T} {h : H} {K : Ex → T → H → Prop} (f : Nat) (caps : List V) (ids : List Nat) {β : Type} (l : List β) (fd : β → D) {A : Type} (I : Nat → A → Prop) (Hs : A → H) (x0 : A) (n1 : Nat)
  (h1 : gv t g = .fc f caps) (h2 : (Nat.blt f 1000000 && (chk h ids (caps.flatMap idc) && ((caps.all fun x => !(slc x)) && ids.all fun i => plc ((get? h i).getD .no)))) = true)
  (hI : IterP P f (caps.map (rnc (pos ids))) (ids.map fun i => rnB (pos ids) ((get? h i).getD .no)) (l.map fun b => [fd b])) (hd : ∀ b, rwd (fd b)) (h0 : I 0 x0) (h3 : subh h (Hs x0))
  (hL : ∀ x, (Hs x).length = n1 ∧ lts n0 (keepS t) (Hs x) = true ∧ (ids.map fun j => get? (Hs x) j) = ids.map fun j => get? h j)
  (hR : ∀ (i : Nat) (b : β) (x : A), l[i]? = some b → I i x → fl (lys [p] [fd b] (keepS t)) fun t1 => iha n1 t1 (Hs x) fun e t' h' => match e with
   | .nrm => ihb h'.length t' h' fun e _ h' => (match e with
    | .nrm => ∃ y, I (i + 1) y ∧ subh h' (Hs y)
    | .ext j => fl (keepS t) fun t => K (.ext j) t h'
    | .ret => fl (keepS t) fun t => K .ret t h'
    | .pan _ => False)
   | _ => False)
  (hD : ∀ x, I l.length x → fl (keepS t) fun t => K .nrm t (Hs x)) : rfx (Sat P) n0 iha ihb g [p] t h K := by
 unfold rfx
 simp only [Bool.and_eq_true] at h2
 simp only [fl_eq] at hR hD
 refine ⟨f, caps, ids, keepS t, A, I, Hs, x0, n1, 1, l.map fun b => [fd b], ⟨h1, h2.1, h2.2.1, h2.2.2.1, h2.2.2.2⟩, .iter hI 1, ⟨rfl, fun r hr => ?_⟩, ⟨keepS_subs t, ⟨h0, h3⟩, keepS_all t⟩, hL, fun i r x hr hi => ?_, by rw [List.length_map]; exact hD⟩
 ·obtain ⟨b, _, rfl⟩ := List.mem_map.1 hr
  exact ⟨rfl, fun d hm => by rw [List.mem_singleton.1 hm]; exact hd b⟩
 ·rw [List.getElem?_map, Option.map_eq_some_iff] at hr
  obtain ⟨b, hb, rfl⟩ := hr
  exact hR i b x hb hi
theorem own_nil {ρ : List Value} {h : H} (hl : ρ.length = h.length) {cs : List V} {z b i k : Nat} (hb : h[b]? = some (.cells cs)) (ho : own (ρ ++ [.slice none 0 0]) (h.set b (.cells (cs.set i (.os h.length))) ++ [.rows z []]) k) : own ρ h k := by
 obtain ⟨id, v, x, h1, h2, h3, h4⟩ := ho
 by_cases hi : id < ρ.length
 ·rw [List.getElem?_append_left hi] at h1
  rw [List.getElem?_append_left (by simpa [← hl] using hi)] at h2
  by_cases e : b = id
  ·subst e
   rw [List.getElem?_set_self (List.getElem?_eq_some_iff.1 hb).1] at h2
   cases h2
   exact ⟨b, v, _, h1, hb, by simp, h4⟩
  ·rw [List.getElem?_set_ne e] at h2
   exact ⟨id, v, x, h1, h2, h3, h4⟩
 ·have hid : id = ρ.length := by
   have := (List.getElem?_eq_some_iff.1 h1).1
   simp at this
   omega
  subst hid
  simp at h1
  rw [List.getElem?_append_right (by simp [hl])] at h2
  simp [hl] at h2
  subst h1 h2
  simp [bks, blk, gh] at h4
theorem SatF.own {P : Program} {f : Nat} {vs : List V} {h : H} {K : Out → H → Prop} (b i : Nat) {cs : List V} {z : Nat} (hb : h[b]? = some (.cells cs)) (hi : cs[i]? = some (.nl z)) (hs : SatF P f vs (h.set b (.cells (cs.set i (.os h.length))) ++ [.rows z []]) K) : SatF P f vs h K := by
 refine ⟨hs.1, fun G w ρ as hR hl hv => ?_⟩
 have hln := hR.len
 have hpre : ∀ j, j < h.length → (ρ ++ [Value.slice none 0 0])[j]? = ρ[j]? := fun j hj => List.getElem?_append_left (by omega)
 have hidB : ∀ (id : Nat) (v : Value) (x : B), ρ[id]? = some v → h[id]? = some x → ∀ j ∈ idB x, j < h.length := fun id v x h1 h2 j hj => by
  have := (hR.rep id v x h1 h2).lt j hj
  omega
 have hR' : HR G w (ρ ++ [.slice none 0 0]) (h.set b (.cells (cs.set i (.os h.length))) ++ [.rows z []]) := by
  refine ⟨by simp [hln], fun id v x h1 h2 => ?_, fun id id' v v' x x' k h1 h2 h3 h4 h5 h6 h7 h8 => ?_, hR.gl, fun k hk ho => hR.gd k hk (own_nil hln hb ho), hR.glb⟩
  ·by_cases hid : id < ρ.length
   ·rw [List.getElem?_append_left hid] at h1
    rw [List.getElem?_append_left (by simpa [← hln] using hid)] at h2
    by_cases e : b = id
    ·subst e
     rw [List.getElem?_set_self (by omega)] at h2
     cases h2
     have hcl := hidB b v _ h1 hb
     obtain ⟨k, arr, ty, rfl, g1, g2, g3⟩ := hR.rep b v _ h1 hb
     refine ⟨k, arr, ty, rfl, g1, by simpa using g2, fun j y hy => ?_⟩
     by_cases ej : i = j
     ·subst ej
      rw [List.getElem?_set_self (List.getElem?_eq_some_iff.1 hi).1] at hy
      cases hy
      have := g3 i _ hi
      generalize arr.getD i undef = u at this ⊢
      cases this with
      | k h => cases h with
       | nl => exact .k (.os _ none 0 0 (by rw [← hln]; simp))
     ·rw [List.getElem?_set_ne ej] at hy
      exact (g3 j y hy).mono (fun _ h => h) (fun _ _ => rfl) (fun q hq => hpre q (hcl q (by simp only [idB, List.mem_flatMap]; exact ⟨y, List.mem_of_getElem? hy, hq⟩)))
    ·rw [List.getElem?_set_ne e] at h2
     exact (hR.rep id v x h1 h2).mono (fun _ h => h) (fun _ _ => rfl) (fun _ _ => rfl) (fun q hq => hpre q (hidB id v x h1 h2 q hq))
   ·have hid : id = ρ.length := by
     have := (List.getElem?_eq_some_iff.1 h1).1
     simp at this
     omega
    subst hid
    simp at h1
    rw [List.getElem?_append_right (by simp [hln])] at h2
    simp [hln] at h2
    subst h1 h2
    exact .inl ⟨rfl, rfl⟩
  ·have low : ∀ (id : Nat) (v : Value) (x : B), (ρ ++ [Value.slice none 0 0])[id]? = some v → (h.set b (.cells (cs.set i (.os h.length))) ++ [.rows z []])[id]? = some x → x ≠ .no → k ∈ bks v x → ∃ y, ρ[id]? = some v ∧ h[id]? = some y ∧ y ≠ .no ∧ k ∈ bks v y := by
    intro id v x h1 h2 h3 h4
    by_cases hid : id < ρ.length
    ·rw [List.getElem?_append_left hid] at h1
     rw [List.getElem?_append_left (by simpa [← hln] using hid)] at h2
     by_cases e : b = id
     ·subst e
      rw [List.getElem?_set_self (List.getElem?_eq_some_iff.1 hb).1] at h2
      cases h2
      exact ⟨_, h1, hb, by simp, h4⟩
     ·rw [List.getElem?_set_ne e] at h2
      exact ⟨_, h1, h2, h3, h4⟩
    ·have hid : id = ρ.length := by
      have := (List.getElem?_eq_some_iff.1 h1).1
      simp at this
      omega
     subst hid
     simp at h1
     rw [List.getElem?_append_right (by simp [hln])] at h2
     simp [hln] at h2
     subst h1 h2
     simp [bks, blk, gh] at h4
   obtain ⟨y, a1, a2, a3, a4⟩ := low id v x h1 h2 h3 h7
   obtain ⟨y', b1, b2, b3, b4⟩ := low id' v' x' h4 h5 h6 h8
   exact hR.dis id id' v v' y y' k a1 a2 a3 b1 b2 b3 a4 b4
 refine (hs.2 G w (ρ ++ [.slice none 0 0]) as hR' hl (fun j x hx => (hv j x hx).mono (fun _ h => h) (fun _ _ => rfl) (fun q hq => hpre q (by have := (hv j x hx).lt q hq; omega)))).mono fun e w' ⟨G', ρ', h', out, hO, hrep, hk⟩ => ⟨G', ρ', h', out, ?_, hrep, hk⟩
 have hle := hO.hl
 simp at hle
 exact ⟨hO.hr, hO.gm, fun k hk => (hO.go k hk).imp (fun h => h) fun ⟨c, d⟩ => ⟨c, d.imp (fun h => h) (own_nil hln hb)⟩, fun k hk => (hO.oo k hk).imp (fun h => h) (own_nil hln hb), fun k hk hn => hO.frame k hk fun ho => hn (own_nil hln hb ho), hO.size, hO.os, hO.tape, hO.out,
  fun id v hv hs => hO.hand id v (by show (ρ ++ [_])[id]? = _; rw [List.getElem?_append_left (List.getElem?_eq_some_iff.1 hv).1]; exact hv) hs, by show h.length ≤ h'.length; omega, fun _ h => nomatch h⟩
theorem Sat.own {P : Program} {f : Nat} {vs : List V} {h : H} {K : Out → H → Prop} (hf : f < 5000000) (b i : Nat) {cs : List V} {z : Nat} (hb : h[b]? = some (.cells cs)) (hi : cs[i]? = some (.nl z)) (hs : Sat P f vs (h.set b (.cells (cs.set i (.os h.length))) ++ [.rows z []]) K) : Sat P f vs h K :=
 .inl ((hs.fn hf).own b i hb hi)
theorem pin_fc {P : Program} {f : Nat} {vs : List V} {F : Nat} {rows : List (List D)} {x : D} (hf : f < 5000000)
  (hs : Sat P f vs [] fun o h => o = .ret (.ag [.fc F ((List.range rows.length).map fun i => .p i 0), .d x]) ∧ h = rows.map fun r => .cells (r.map .d)) :
  SatP P f vs (.ag [.d (.fc F (rows.map fun r => .pt r 0)), .d x]) := by
 have hs := hs.fn hf
 refine .inl ⟨hs.1, fun G w ρ as hR hl hv => ?_⟩
 match ρ, hR.len with
 | [], _ =>
 refine Calls.mono (hs.2 G w [] as hR hl hv) ?_
 rintro e w' ⟨G', ρ', h', out, hO, hrep, rfl, rfl⟩
 obtain ⟨v, rfl, hv2⟩ := hrep
 have no : ∀ b, ¬ own ([] : List Value) [] b := by rintro b ⟨id, v, x, h1, _⟩; cases h1
 have hcl : ∀ b, own ρ' (rows.map fun r => B.cells (r.map V.d)) b → clb w' b := by
  rintro b ⟨id, v, y, h1, h2, h3, h4⟩
  have hr := hO.hr.rep id v y h1 h2
  rw [List.getElem?_map, Option.map_eq_some_iff] at h2
  obtain ⟨r, _, rfl⟩ := h2
  obtain ⟨b', arr, ty, rfl, g1, _⟩ := hr
  have := (mem_bk0).1 h4
  cases this
  exact ⟨arr, ty, _, g1⟩
 have hlt : ∀ b, clb w' b → b < w'.heap.size := fun b ⟨_, _, _, h⟩ => (Array.getElem?_eq_some_iff.1 h).1
 have same : ∀ b, G' b → w'.heap[b]? = w'.heap[b]? := fun _ _ => rfl
 refine ⟨fun b => G' b ∨ own ρ' (rows.map fun r => B.cells (r.map V.d)) b, [], [], .ret (.ag [.d (.fc F (rows.map fun r => .pt r 0)), .d x]), ⟨⟨rfl, fun id v x h1 => by (cases h1), fun id _ _ _ _ _ _ h1 => by (cases h1), fun b hb => hb.elim (hO.hr.gl b) fun h => hlt b (hcl b h), fun b _ => no b, hO.hr.glb.mono (fun _ h => .inl h) same⟩,
  fun b h => .inl (hO.gm b h), fun b hb => ?_, fun b h => absurd h (no b), hO.frame, hO.size, hO.os, hO.tape, hO.out, fun id v h1 => by (cases h1), Nat.le_refl _, fun _ h => nomatch h⟩, ⟨v, rfl, ?_⟩, rfl, rfl⟩
 ·rcases hb with h | h
  ·exact hO.go b h
  ·exact .inr ⟨hcl b h, hO.oo b h⟩
 ·cases hv2 with | o hv2 =>
  cases hv2 with
  | c h => cases h with | k h => cases h
  | ag cs _ h1 h2 =>
   refine .o (.ag cs _ h1 fun i y hy => ?_)
   match i, hy with
   | 1, hy =>
    have := h2 1 _ rfl
    cases hy
    generalize cs.getD 1 undef = u at this
    cases this with | k h => cases h with | d h => exact .k (.d (h.mono (fun _ h => .inl h) same))
   | 0, hy =>
    have := h2 0 _ rfl
    cases hy
    generalize cs.getD 0 undef = u at this
    cases this with
    | k h => cases h
    | fc _ _ as _ g1 g2 g3 =>
     refine .k (.d (.fc _ _ as _ g1 (by simpa using g2) fun j y hy => ?_))
     rw [List.getElem?_map, Option.map_eq_some_iff] at hy
     obtain ⟨r, hr, rfl⟩ := hy
     have hj := (List.getElem?_eq_some_iff.1 hr).1
     have g4 := g3 j (.p j 0) (by rw [List.getElem?_map, List.getElem?_range hj]; rfl)
     generalize as.getD j undef = u at g4
     cases g4 with
     | p _ _ b hb =>
      have hh : (rows.map fun r => B.cells (r.map V.d))[j]? = some (.cells (r.map V.d)) := by rw [List.getElem?_map, hr]; rfl
      obtain ⟨b', arr, ty, e1, e2, e3, e4⟩ := hO.hr.rep j _ _ hb hh
      cases e1
      have ho : own ρ' (rows.map fun r => B.cells (r.map V.d)) b := ⟨j, _, _, hb, hh, by simp, (mem_bk0).2 rfl⟩
      refine .pt b 0 0 r (fun k => arr.getD k undef) (.inr ho) (fun k x hk => ?_) fun k x hk => ?_
      ·have : k < arr.size := by rw [e3, List.length_map]; exact (List.getElem?_eq_some_iff.1 hk).1
       rw [Nat.zero_add, cell_arr e2, Array.getD_eq_getD_getElem?, Array.getElem?_eq_getElem this]
       rfl
      ·have := e4 k (.d x) (by rw [List.getElem?_map, hk]; rfl)
       generalize arr.getD k undef = u at this
       cases this with | k h => cases h with | d h => exact h.mono (fun _ h => .inl h) same
end Go.Vx
