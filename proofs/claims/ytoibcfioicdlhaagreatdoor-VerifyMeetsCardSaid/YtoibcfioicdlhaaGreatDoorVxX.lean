/- From a picture's contract to a law's row. Conditions: the law takes data alone and answers true. -/
import Derived.Test.YtoibcfioicdlhaaGreatDoorVxW
import Derived.JoinedCond
import Derived.Carry
namespace Go.Vx
open Go.ChangeShapes Go.WideShapes Go.ChangeAt Go.RowKit
section
variable {H : Type} {enc : TypeId × Value → H} {P : Program} {W : World}

theorem calls_of_sat {f : Nat} {vs : List V} {args : Array Value} (hgl : Glb (all W) W) (hs : SatP P f vs (.d (.bool true))) (hl : args.size = vs.length) (hr : ∀ (i : Nat) (x : V), vs[i]? = some x → Rep2 (all W) W [] (args.getD i undef) x) :
    Calls P f args W fun e W' => e = .returned (.bool true) ∧ Below W.heap.size W W' := by
  have h0 : HR (all W) W [] [] := ⟨rfl, fun id v x h => by simp at h, fun id _ v _ _ _ _ h => by simp at h, fun b hb => hb, (fun b _ ho => by
    obtain ⟨id, v, x, h, _⟩ := ho
    simp at h), hgl⟩
  have := hs.run (all W) W [] args.toList h0 (by simpa using hl) (fun i x hi => by simpa [List.getD_eq_getElem?_getD, Array.getD_eq_getD_getElem?] using hr i x hi)
  rw [Array.toArray_toList] at this
  refine this.mono fun e W' hq => ?_
  obtain ⟨G', ρ', h', out, hO, he, rfl, rfl⟩ := hq
  obtain ⟨v, rfl, hv⟩ := he
  refine ⟨by rw [hv.bool], hO.os, hO.tape, hO.out, hO.size, fun b hb => hO.frame b hb ?_⟩
  rintro ⟨id, v, x, h, _⟩
  simp at h

theorem trodAll_stays (hlo : laidOutB P = true) {W' : World} (hb : Below W.heap.size W W') (sp : Nat → Bool) : ∀ (ts : List TypeId) (vs : List Value) (ds : List (DataW H)) (ps : List MemPlace), (∀ t ∈ ts, P.readableRec t = true ∧ t < P.types.size) → (∀ p ∈ ps, p.block < W.heap.size) → (∀ p ∈ ps, sp p.block = true) →
    DataW.TrodAll enc P W 0 (fun _ => true) true ts vs ds ps → DataW.TrodAll enc P W' 0 sp true ts vs ds ps := by
  intro ts
  induction ts with
  | nil =>
    intro vs ds ps _ _ _ h
    cases vs <;> cases ds <;> first | exact h | exact h.elim
  | cons t ts ih =>
    intro vs ds ps h1 h2 h3 h
    cases vs with
    | nil => exact h.elim
    | cons v vs => cases ds with
      | nil => exact h.elim
      | cons d ds =>
        obtain ⟨p, q, g1, g2, rfl⟩ := h
        obtain ⟨r1, r2⟩ := h1 t (by simp)
        exact ⟨p, q, WideElems.Trod_stays hlo r1 r2 g1 (fun x hx => hb.same (h2 x (by simp [hx]))) (fun x hx => h3 x (by simp [hx])), ih vs ds q (fun t ht => h1 t (by simp [ht])) (fun x hx => h2 x (by simp [hx])) (fun x hx => h3 x (by simp [hx])) g2, rfl⟩

theorem post_law {f : Func} {s : ChangeSpec} {W' : World} {args : Array Value} {ds gs : List (DataW H)} {before : List MemPlace} {tb : TypeId} (hlo : laidOutB P = true) (hread : ∀ t ∈ f.params.toList, P.readableRec t = true ∧ t < P.types.size)
    (hres : f.resultTypes = #[tb]) (htb : P.underlying tb = some .bool) (hv : s.vars = []) (hW : DataW.Whole enc P f.params.toList s.vars false W args.toList ds gs before)
    (h1 : (s.fn H (ds ++ gs)).results = [.lit (.bool true)]) (h2 : (s.fn H (ds ++ gs)).args = ds) (h3 : (s.fn H (ds ++ gs)).vars = []) (hb : Below W.heap.size W W') :
    s.post enc P f false true false false W args (.bool true) W' := by
  have hlt : ∀ p ∈ before, p.block < W.heap.size := fun p hp => hW.lt p hp
  have hW' := hW
  obtain ⟨p, q, hA, hV, rfl, hz, hn⟩ := hW
  rw [hv] at hV
  have hq : q = [] := by
    cases gs with
    | nil => exact hV
    | cons g gs => exact hV.elim
  subst hq
  have har : ∀ sp : Nat → Bool, (∀ x ∈ p ++ [], sp x.block = true) → DataW.TrodAll enc P W' 0 sp true f.params.toList args.toList (s.fn H (ds ++ gs)).args p := fun sp hsp => by
    rw [h2]
    exact trodAll_stays hlo hb sp _ _ _ _ hread (fun x hx => hlt x (by simp [hx])) (fun x hx => hsp x (by simp [hx])) hA
  have hvr : ∀ sp : Nat → Bool, DataW.TrodVars enc P W' sp s.vars (s.fn H (ds ++ gs)).vars [] := fun sp => by rw [hv, h3]; rfl
  have hre : ∀ (b : Nat) (sp : Nat → Bool) (hd : Bool), DataW.TrodAll enc P W' b sp hd f.resultTypes.toList ((Value.bool true).resultList f.resultTypes.size) (s.fn H (ds ++ gs)).results [] := fun b sp hd => by
    rw [h1, hres]
    exact trodAll_mk1 (shut_bool htb true)
  have hold : ∀ x ∈ p ++ [], (fun b => decide (b < W.heap.size)) x.block = true := fun x hx => by simpa using hlt x hx
  refine ⟨ds, gs, p ++ [], [], p, [], hW', hre _ _ _, har _ hold, hvr _, World.keptBut_mono (fun x hx => ⟨hx, ?_⟩) (hb.frame (· ∈ p ++ [])), fun h => by cases h⟩
  rw [List.mem_append] at hx
  exact .inr hx

theorem open_st {k : Nat} {t : TypeId} {a : Ty} {fs : Array Field} {N base : Nat} {v : Value} {d : DataW H} {p : List MemPlace} (ht : tyOf P k t = some a) (hu : P.underlying t = some (.struct fs)) (hok : Value.okWide P W .any base t v) (h : DataW.Trod enc P W 0 (fun _ => true) true t v d p) (hl : lim N d) :
    ∃ xs, shp N a xs ∧ Rep2 (all W) W [] v (.ag (xs.map .d)) := by
  obtain ⟨cs, rfl, _⟩ := okWide_struct hu hok
  obtain ⟨fuel, hf⟩ := h
  obtain ⟨xs, g1, g2, g3⟩ := trod_rep k t a ht fuel _ _ _ hf hl
  refine ⟨xs, g1, .o (.ag cs _ (by simpa [Value.cells] using g2.symm) fun i x hx => ?_)⟩
  rw [List.getElem?_map] at hx
  cases hy : xs[i]? with
  | none => rw [hy] at hx; cases hx
  | some y =>
    rw [hy] at hx
    cases hx
    exact .k (.d (by simpa [Value.cells, List.getD_eq_getElem?_getD, Array.getD_eq_getD_getElem?] using g3 i y hy))
theorem open_sl {k : Nat} {t e : TypeId} {a : Ty} {N base : Nat} {v : Value} {d : DataW H} {p : List MemPlace} (ht : tyOf P k t = some (.sl a)) (hu : P.underlying t = some (.slice e)) (hok : Value.okWide P W .any base t v) (h : DataW.Trod enc P W 0 (fun _ => true) true t v d p) (hl : lim N d) :
    ∃ rows, shp N (.sl a) [.sl a.n rows] ∧ Rep2 (all W) W [] v (.d (.sl a.n rows)) := by
  obtain ⟨ad, len, cap, rfl⟩ := okWide_slice hu hok
  obtain ⟨fuel, hf⟩ := h
  obtain ⟨xs, g1, g2, g3⟩ := trod_rep k t (.sl a) ht fuel _ _ _ hf hl
  cases xs with
  | nil => exact g1.elim
  | cons x r => cases r with
    | cons y r => cases x <;> exact g1.elim
    | nil =>
      cases x with
      | sl z rows =>
        have g1' := g1
        obtain ⟨rfl, _⟩ := g1'
        refine ⟨rows, g1, .o (.c (.k (.d ?_)))⟩
        simpa [Value.cells] using g3 0 _ rfl
      | _ => exact g1.elim
theorem open_nt {t : TypeId} {k : IntKind} {base : Nat} {v : Value} {d : DataW H} {p : List MemPlace} (hu : P.underlying t = some (.int k)) (hok : Value.okWide P W .any base t v) (h : DataW.Trod enc P W 0 (fun _ => true) true t v d p) :
    ∃ n, inR k n ∧ Rep2 (all W) W [] v (.d (.int k n)) := by
  obtain ⟨a, rfl, _, _, wa⟩ := open_int hu hok h
  exact ⟨a, inR_of wa, .o (.c (.k (.d (.int k a))))⟩
theorem open_bl {t : TypeId} {base : Nat} {v : Value} {d : DataW H} {p : List MemPlace} (hu : P.underlying t = some .bool) (hok : Value.okWide P W .any base t v) (h : DataW.Trod enc P W 0 (fun _ => true) true t v d p) :
    ∃ b, Rep2 (all W) W [] v (.d (.bool b)) := by
  obtain ⟨a, rfl, _, _⟩ := open_bool hu hok h
  exact ⟨a, .o (.c (.k (.d (.bool a))))⟩

theorem shp_int {N : Nat} {k : IntKind} {xs : List D} (h : shp N (.int k) xs) : ∃ n, xs = [.int k n] ∧ inR k n := by
  match xs, h with
  | [.int q n], h => exact ⟨n, by rw [h.1], h.2⟩
theorem shp_bool {N : Nat} {xs : List D} (h : shp N .bool xs) : ∃ b, xs = [.bool b] := by
  match xs, h with
  | [.bool b], _ => exact ⟨b, rfl⟩
theorem shp_str {N : Nat} {xs : List D} (h : shp N .str xs) : ∃ s, xs = [.str s] ∧ s.length ≤ N := by
  match xs, h with
  | [.str s], h => exact ⟨s, rfl, h⟩
theorem shp_sl {N : Nat} {a : Ty} {xs : List D} (h : shp N (.sl a) xs) : ∃ rows, xs = [.sl a.n rows] ∧ rows.length ≤ N ∧ ∀ row ∈ rows, shp N a row := by
  match xs, h with
  | [.sl z rows], h => exact ⟨rows, by rw [h.1], h.2.1, h.2.2⟩
theorem shp_pr {N : Nat} {a b : Ty} {xs : List D} (h : shp N (.pr a b) xs) : ∃ ys zs, xs = ys ++ zs ∧ shp N a ys ∧ shp N b zs := by
  cases xs <;> exact ⟨_, _, (List.take_append_drop a.n _).symm, h.1, h.2.1⟩
theorem shp_un {N : Nat} {xs : List D} (h : shp N .un xs) : xs = [] := by
  cases xs <;> exact h

/-- Rows of a build are rows of things. -/
theorem rows_map {α : Type} {enc : α → List D} : ∀ (rows : List (List D)), (∀ row ∈ rows, ∃ x, row = enc x) → ∃ l : List α, rows = l.map enc
  | [], _ => ⟨[], rfl⟩
  | r :: rs, h => by
    obtain ⟨x, rfl⟩ := h r (by simp)
    obtain ⟨l, rfl⟩ := rows_map rs (fun y hy => h y (by simp [hy]))
    exact ⟨x :: l, rfl⟩
end
end Go.Vx
