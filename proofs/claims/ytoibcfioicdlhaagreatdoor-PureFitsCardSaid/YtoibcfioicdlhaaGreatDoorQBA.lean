/- Ways to use the conditions of a range over a function. Conditions: none; lemmas on the definitions before. -/
import Derived.Test.YtoibcfioicdlhaaGreatDoorQAR
namespace Go.Vx
def keepS (t : T) : T := (keepT [] t).filter fun p => !(sl2 p.2)
theorem subs_filter {t : T} (f : Nat × V → Bool) : ∀ {r : T}, subs t r → subs t (r.filter f)
  | [], _ => trivial
  | p :: r, h => by
    rw [List.filter_cons]
    split
    · exact ⟨h.1, subs_filter f h.2⟩
    · exact subs_filter f h.2
theorem keepS_subs (t : T) : subs t (keepS t) := subs_filter _ (keepT_subs t t [] fun _ _ => rfl)
theorem keepS_all (t : T) : ((keepS t).all fun p => !(sl2 p.2)) = true := by
  rw [List.all_eq_true]
  exact fun p hp => (List.mem_filter.1 hp).2
theorem Sat.iter {P : Program} {f : Nat} {vs : List V} {h : H} {xs : List (List D)} (hI : IterP P f vs h xs) (z : Nat) : Sat P (5000000 + f) vs h fun o h' => o = .ret (.d (.sl z xs)) ∧ h' = [] :=
  .inr ⟨Nat.le_add_right .., z, xs, by rw [Nat.add_sub_cancel_left]; exact hI, rfl, rfl⟩
theorem rf_use {P : Program} {n0 : Nat} {iha ihb : Nat → T → H → (Ex → T → H → Prop) → Prop} {g : O} {p : Nat} {t : T} {h : H} {K : Ex → T → H → Prop} (f : Nat) (caps : List V) (ids : List Nat) {β : Type} (l : List β) (fd : β → D) {A : Type} (I : Nat → A → Prop) (Hs : A → H) (x0 : A) (n1 : Nat)
    (h1 : gv t g = .fc f caps) (h2 : (Nat.blt f 1000000 && (chk h ids (caps.flatMap idc) && ((caps.all fun x => !(slc x)) && ids.all fun i => plc ((get? h i).getD .no)))) = true)
    (hI : IterP P f (caps.map (rnc (pos ids))) (ids.map fun i => rnB (pos ids) ((get? h i).getD .no)) (l.map fun b => [fd b])) (hd : ∀ b, rwd (fd b)) (h0 : I 0 x0) (h3 : subh h (Hs x0))
    (hL : ∀ x, (Hs x).length = n1 ∧ lts n0 (keepS t) (Hs x) = true ∧ (ids.map fun j => get? (Hs x) j) = ids.map fun j => get? h j)
    (hR : ∀ (i : Nat) (b : β) (x : A), l[i]? = some b → I i x → fl (lys [p] [fd b] (keepS t)) fun t1 => iha n1 t1 (Hs x) fun e t' h' => match e with
      | .nrm => ihb h'.length t' h' fun e _ h' => (match e with
        | .nrm => ∃ y, I (i + 1) y ∧ subh h' (Hs y)
        | .ext j => fl (keepS t) fun t => K (.ext j) t h'
        | .ret => fl (keepS t) fun t => K .ret t h'
        | .pan _ => False)
      | _ => False)
    (hD : ∀ x, I l.length x → fl (keepS t) fun t => K .nrm t (Hs x)) : rfx (Sat P) n0 iha ihb g [p] t h K := by
  unfold rfx
  simp only [Bool.and_eq_true] at h2
  simp only [fl_eq] at hR hD
  refine ⟨f, caps, ids, keepS t, A, I, Hs, x0, n1, 1, l.map fun b => [fd b], ⟨h1, h2.1, h2.2.1, h2.2.2.1, h2.2.2.2⟩, .iter hI 1, ⟨rfl, fun r hr => ?_⟩, ⟨keepS_subs t, ⟨h0, h3⟩, keepS_all t⟩, hL, fun i r x hr hi => ?_, by rw [List.length_map]; exact hD⟩
  · obtain ⟨b, _, rfl⟩ := List.mem_map.1 hr
    exact ⟨rfl, fun d hm => by rw [List.mem_singleton.1 hm]; exact hd b⟩
  · rw [List.getElem?_map, Option.map_eq_some_iff] at hr
    obtain ⟨b, hb, rfl⟩ := hr
    exact hR i b x hb hi
theorem own_nil {ρ : List Value} {h : H} (hl : ρ.length = h.length) {cs : List V} {z b i k : Nat} (hb : h[b]? = some (.cells cs)) (ho : own (ρ ++ [.slice none 0 0]) (h.set b (.cells (cs.set i (.os h.length))) ++ [.rows z []]) k) : own ρ h k := by
  obtain ⟨id, v, x, h1, h2, h3, h4⟩ := ho
  by_cases hi : id < ρ.length
  · rw [List.getElem?_append_left hi] at h1
    rw [List.getElem?_append_left (by simpa [← hl] using hi)] at h2
    by_cases e : b = id
    · subst e
      exact ⟨b, v, _, h1, hb, by simp, h4⟩
    · rw [List.getElem?_set_ne e] at h2
      exact ⟨id, v, x, h1, h2, h3, h4⟩
  · have hid : id = ρ.length := by
      have := (List.getElem?_eq_some_iff.1 h1).1
      simp at this
      omega
    subst hid
    simp at h1
    subst h1
    simp [blk] at h4
theorem SatF.own {P : Program} {f : Nat} {vs : List V} {h : H} {K : Out → H → Prop} (b i : Nat) {cs : List V} {z : Nat} (hb : h[b]? = some (.cells cs)) (hi : cs[i]? = some (.nl z)) (hs : SatF P f vs (h.set b (.cells (cs.set i (.os h.length))) ++ [.rows z []]) K) : SatF P f vs h K := by
  refine ⟨hs.1, fun G w ρ as hR hl hv => ?_⟩
  have hln := hR.len
  have hpre : ∀ j, j < h.length → (ρ ++ [Value.slice none 0 0])[j]? = ρ[j]? := fun j hj => List.getElem?_append_left (by omega)
  have hidB : ∀ (id : Nat) (v : Value) (x : B), ρ[id]? = some v → h[id]? = some x → ∀ j ∈ idB x, j < h.length := fun id v x h1 h2 j hj => by
    have := (hR.rep id v x h1 h2).lt j hj
    omega
  have hR' : HR G w (ρ ++ [.slice none 0 0]) (h.set b (.cells (cs.set i (.os h.length))) ++ [.rows z []]) := by
    refine ⟨by simp [hln], fun id v x h1 h2 => ?_, fun id id' v v' x x' k h1 h2 h3 h4 h5 h6 h7 h8 => ?_, hR.gl, fun k hk ho => hR.gd k hk (own_nil hln hb ho), hR.glb⟩
    · by_cases hid : id < ρ.length
      · rw [List.getElem?_append_left hid] at h1
        rw [List.getElem?_append_left (by simpa [← hln] using hid)] at h2
        by_cases e : b = id
        · subst e
          rw [List.getElem?_set_self (by omega)] at h2
          cases h2
          have hcl := hidB b v _ h1 hb
          obtain ⟨k, arr, ty, rfl, g1, g2, g3⟩ := hR.rep b v _ h1 hb
          refine ⟨k, arr, ty, rfl, g1, by simpa using g2, fun j y hy => ?_⟩
          by_cases ej : i = j
          · subst ej
            rw [List.getElem?_set_self (List.getElem?_eq_some_iff.1 hi).1] at hy
            cases hy
            have := g3 i _ hi
            generalize arr.getD i undef = u at this ⊢
            cases this with
            | k h => cases h with
              | nl => exact .k (.os _ none 0 0 (by rw [← hln]; simp))
          · rw [List.getElem?_set_ne ej] at hy
            exact (g3 j y hy).mono (fun _ h => h) (fun _ _ => rfl) (fun q hq => hpre q (hcl q (by simp only [idB, List.mem_flatMap]; exact ⟨y, List.mem_of_getElem? hy, hq⟩)))
        · rw [List.getElem?_set_ne e] at h2
          exact (hR.rep id v x h1 h2).mono (fun _ h => h) (fun _ _ => rfl) (fun _ _ => rfl) (fun q hq => hpre q (hidB id v x h1 h2 q hq))
      · have hid : id = ρ.length := by
          have := (List.getElem?_eq_some_iff.1 h1).1
          simp at this
          omega
        subst hid
        simp at h1
        rw [List.getElem?_append_right (by simp [hln])] at h2
        simp [hln] at h2
        subst h1 h2
        exact .inl ⟨rfl, rfl⟩
    · have low : ∀ (id : Nat) (v : Value) (x : B), (ρ ++ [Value.slice none 0 0])[id]? = some v → (h.set b (.cells (cs.set i (.os h.length))) ++ [.rows z []])[id]? = some x → x ≠ .no → blk v = some k → ∃ y, ρ[id]? = some v ∧ h[id]? = some y ∧ y ≠ .no := by
        intro id v x h1 h2 h3 h4
        by_cases hid : id < ρ.length
        · rw [List.getElem?_append_left hid] at h1
          rw [List.getElem?_append_left (by simpa [← hln] using hid)] at h2
          by_cases e : b = id
          · subst e
            exact ⟨_, h1, hb, by simp⟩
          · rw [List.getElem?_set_ne e] at h2
            exact ⟨_, h1, h2, h3⟩
        · have hid : id = ρ.length := by
            have := (List.getElem?_eq_some_iff.1 h1).1
            simp at this
            omega
          subst hid
          simp at h1
          subst h1
          simp [blk] at h4
      obtain ⟨y, a1, a2, a3⟩ := low id v x h1 h2 h3 h7
      obtain ⟨y', b1, b2, b3⟩ := low id' v' x' h4 h5 h6 h8
      exact hR.dis id id' v v' y y' k a1 a2 a3 b1 b2 b3 h7 h8
  refine (hs.2 G w (ρ ++ [.slice none 0 0]) as hR' hl (fun j x hx => (hv j x hx).mono (fun _ h => h) (fun _ _ => rfl) (fun q hq => hpre q (by have := (hv j x hx).lt q hq; omega)))).mono fun e w' ⟨G', ρ', h', out, hO, hrep, hk⟩ => ⟨G', ρ', h', out, ?_, hrep, hk⟩
  have hle := hO.hl
  simp at hle
  exact ⟨hO.hr, hO.gm, fun k hk => (hO.go k hk).imp (fun h => h) fun ⟨c, d⟩ => ⟨c, d.imp (fun h => h) (own_nil hln hb)⟩, fun k hk => (hO.oo k hk).imp (fun h => h) (own_nil hln hb), fun k hk hn => hO.frame k hk fun ho => hn (own_nil hln hb ho), hO.size, hO.os, hO.tape, hO.out,
    fun id v hv hs => hO.hand id v (by show (ρ ++ [_])[id]? = _; rw [List.getElem?_append_left (List.getElem?_eq_some_iff.1 hv).1]; exact hv) hs, by show h.length ≤ h'.length; omega, fun _ h => nomatch h⟩
theorem Sat.own {P : Program} {f : Nat} {vs : List V} {h : H} {K : Out → H → Prop} (hf : f < 5000000) (b i : Nat) {cs : List V} {z : Nat} (hb : h[b]? = some (.cells cs)) (hi : cs[i]? = some (.nl z)) (hs : Sat P f vs (h.set b (.cells (cs.set i (.os h.length))) ++ [.rows z []]) K) : Sat P f vs h K :=
  .inl ((hs.fn hf).own b i hb hi)
end Go.Vx
