/- Calls, and every small operation, in the picture. Conditions: none; lemmas on the definitions before. -/
import Derived.Test.YtoibcfioicdlhaaGreatDoorRAI
import Derived.Laws.CopyRow
namespace Go.Vx
section
variable {P : Program} {E : Ent} {n : Nat} {G : Nat → Prop} {ρ : List Value} {t : T} {h : H} {a : Act} {w : World} {o : Oper} {nxt : Act → World → Prop} {Q : Exit → Act → World → Prop} {K KP : V → T → H → Prop}

/-- What comes behind a panic. -/
def Pnc (E : Ent) (n : Nat) (a : Act) (KP : V → T → H → Prop) (Q : Exit → Act → World → Prop) : Prop :=
  ∀ (v' : Value) (w' : World) (G' : Nat → Prop) (ρ' : List Value) (t' : T) (h' : H) (v : V), Conc E n G' ρ' t' h' a w' → Rep2 G' w' ρ' v' v → KP v t' h' → Q (.panic [{ v := v', recovered := false }]) a w'

theorem clean_k {v : Value} {x : V} (hv : RepK G w ρ v x) : RepK G w ρ v (clean x) := by
  cases hv with
  | cl a n z rows h => exact .d h
  | nl z => exact .d (.slz z)
  | un => exact .un _
  | ud => exact .ud
  | d h => exact .d h
  | p id off b h => exact .p id off b h
  | e b o off row U h1 h2 h3 => exact .e b o off row U h1 h2 h3
  | os id a n c h => exact .os id a n c h
  | q id z i off b n c h => exact .q id z i off b n c h
  | mp id r h => exact .mp id r h
  | ov id z i _ a n c h hv => exact .ov id z i _ a n c h hv
theorem clean_c {v : Value} {x : V} (hv : RepC G w ρ v x) : RepC G w ρ v (clean x) := by
  cases hv with
  | k h => exact .k (clean_k h)
  | fc f u cs caps h0 h1 h2 =>
    cases caps with
    | nil =>
      rw [fcv_nil h0 (by simpa using h1)]
      exact .k (.d (.fn f))
    | cons c r => exact .fc f _ cs _ h0 h1 h2
theorem clean1_ok {v : Value} {x : V} (hv : Rep2 G w ρ v x) : Rep2 G w ρ v (clean1 x) := by
  cases hv with
  | o h => cases h with
    | c h =>
      have : clean1 x = clean x := by
        cases h with
        | k h => cases h <;> rfl
        | fc => rfl
      rw [this]
      exact .o (.c (clean_c h))
    | ag cs vs h1 h2 =>
      refine .o (.ag cs _ (by simpa using h1) (fun i x hx => ?_))
      rw [List.getElem?_map] at hx
      cases hc : vs[i]? with
      | none => rw [hc] at hx; cases hx
      | some x0 => rw [hc] at hx; cases hx; exact clean_c (h2 i x0 hc)
  | tu cs vs h1 h2 => exact .tu cs vs h1 h2

theorem give_ok {K : T → H → List V → Prop} : ∀ (ids : List Nat) (G : Nat → Prop) (t : T) (h : H) (vs : List V) (U : Nat → Value), Conc E n G ρ t h a w → (∀ (i : Nat) (x : V), vs[i]? = some x → Rep2 G w ρ (U i) x) → give ids t h vs K →
    ∃ (G' : Nat → Prop) (t' : T) (h' : H) (vs' : List V), Conc E n G' ρ t' h' a w ∧ vs'.length = vs.length ∧ (∀ (i : Nat) (x : V), vs'[i]? = some x → Rep2 G' w ρ (U i) x) ∧ K t' h' vs' := by
  intro ids
  induction ids with
  | nil => intro G t h vs U hC hU hk; exact ⟨G, t, h, vs, hC, rfl, hU, hk⟩
  | cons id ids ih =>
    intro G t h vs U hC hU hk
    simp only [give_cons, give1, get?_eq] at hk
    split at hk
    · rename_i z rs hx
      simp only [flv_eq, flt_eq, flb_eq] at hk
      obtain ⟨v0, hv0, hd, hC'⟩ := hC.free hx
      obtain ⟨G', t', h', vs', g1, g2, g3, g4⟩ := ih _ _ _ _ U hC' (fun i x hi => by
        rw [List.getElem?_map] at hi
        cases hc : vs[i]? with
        | none => rw [hc] at hi; cases hi
        | some x0 => rw [hc] at hi; cases hi; exact (hU i x0 hc).sub hv0 (fun b hb => .inl hb) hd) hk
      exact ⟨G', t', h', vs', g1, by simpa using g2, g3, g4⟩
    · exact hk.elim

theorem call_ok (hC : Conc E n G ρ t h a w) (hn : Nxt E n a o K nxt) (hp : Pnc E n a KP Q) {f : Nat} (hlt : f < 5000000) {as : Array Value} {vs : List V} (hrun : callOk P f = true → (execOp a.eval o).run P w = .ok (.enter f as) w) (hl : as.size = vs.length)
    (hv : ∀ (i : Nat) (x : V), vs[i]? = some x → Rep2 G w ρ (as.getD i undef) x) (hk : callx (Sat P) f vs t h K KP) : o.wp P a w nxt Q := by
  have upon : ∀ {R : Ending → World → Prop}, callOk P f = true → Calls P f as w R → (∀ e w', R e w' → match e with
      | .returned v => nxt (a.put o.dst v) w'
      | .panicked chain => Q (.panic chain) a w'
      | .outgrown => False) → o.wp P a w nxt Q := by
    intro R hok hc hR
    unfold Oper.wp
    rw [hrun hok, Oper.upon_enter]
    refine hc.mono fun e w' hr => ?_
    have := hR e w' hr
    cases e <;> first | exact this | exact this.elim
  have hget : ∀ i, as.toList.getD i undef = as.getD i undef := by
    intro i; rw [List.getD_eq_getElem?_getD, Array.getElem?_toList, Array.getD_eq_getD_getElem?]
  simp only [callx] at hk
  split at hk
  · -- data alone
    rename_i hids
    simp only [List.flatMap_eq_nil_iff] at hids
    obtain ⟨hok, hS⟩ := hk.fn hlt
    have hC0 := hC.ok.hr
    have hr0 : HR G w [] [] := ⟨rfl, by simp, by simp, hC0.gl, (fun b _ ho => by obtain ⟨_, _, _, h1, _⟩ := ho; simp at h1), hC0.glb⟩
    have hc := hS G w [] as.toList hr0 (by simpa using hl) (fun i x hx => by
      rw [hget]
      exact (hv i x hx).mono (fun _ h => h) (fun _ _ => rfl) (fun j hj => by rw [hids x (List.mem_of_getElem? hx)] at hj; cases hj))
    rw [Array.toArray_toList] at hc
    refine upon hok hc ?_
    rintro e w' ⟨G', ρ', h', out, hO, hR, hk⟩
    have hO' : Ok ⟨w, G, ([] : List Nat).map fun i => (ρ[i]?).getD undef, ([] : List Nat).map fun i => rnB (pos []) ((get? h i).getD .no), [], []⟩ G' w' ρ' h' := hO
    obtain ⟨hC', hren⟩ := hC.back (ids := []) List.nodup_nil (by simp) (by simp) (by simp) hO'
    have hrows : rowsOf h [] = [] := rfl
    rw [hrows] at hC'
    simp only [List.foldl_nil, kilH] at hC'
    have hbk : Vx.back [] (home h.length []) h h' = h ++ h'.map (rnB (home h.length [])) := by
      simp only [Vx.back, List.length_nil, List.drop_zero]
      congr 1
      apply List.ext_getElem?
      intro i
      simp only [List.getElem?_map, List.getElem?_zipIdx]
      cases h[i]? <;> rfl
    have hhome : home h.length [] = fun i => h.length + i := by funext i; simp [home, get?_eq]
    rw [hbk, hhome] at hC'
    rw [hhome] at hren
    cases h' with
    | nil =>
      have hρ' : ρ' = [] := List.eq_nil_of_length_eq_zero hO.hr.len
      subst hρ'
      simp only [List.map_nil, List.append_nil] at hC'
      have hidr : ∀ (v : Value) (r : V), Rep2 G' w' [] v r → rn2 (fun i => h.length + i) r = r := fun v r hr => rn2_id (by
        cases hh : id2 r with
        | nil => rfl
        | cons i l => have := hr.lt i (by rw [hh]; simp); simp at this)
      cases out with
      | ret r =>
        obtain ⟨v, rfl, hr⟩ := hR
        have := hren v r hr
        rw [hidr v r hr] at this
        exact hn v w' G' _ t h r hC' this hk
      | pan r =>
        obtain ⟨v, rfl, hr⟩ := hR
        have := hren v r hr
        rw [hidr v r hr] at this
        exact hp v w' G' _ t h r hC' this hk
    | cons b h' =>
      simp only [flb_eq] at hk
      cases out with
      | ret r =>
        obtain ⟨v, rfl, hr⟩ := hR
        exact hn v w' G' _ t _ _ hC' (hren v r hr) hk
      | pan r =>
        obtain ⟨v, rfl, hr⟩ := hR
        exact hp v w' G' _ t _ _ hC' (hren v r hr) hk
  · -- blocks of one's own are handed on
    rename_i i is hids
    simp only [fl_eq, flb_eq, fln_eq] at hk
    generalize reach h 100 (i :: is) [] = ids at hk
    obtain ⟨hchk, hkS⟩ := hk
    obtain ⟨hok, hS⟩ := hkS.fn hlt
    simp only [chk, Bool.and_eq_true] at hchk
    obtain ⟨⟨h1, h2⟩, h3⟩ := hchk
    have hnd := nodup_of h1
    have hall : ∀ i ∈ ids, i < h.length ∧ h[i]? ≠ some B.no ∧ ∀ x, h[i]? = some x → ∀ j ∈ idB x, j ∈ ids := by
      intro i hi
      have := List.all_eq_true.1 h2 i hi
      simp only [Bool.and_eq_true] at this
      obtain ⟨⟨g1, g2⟩, g3⟩ := this
      have hlt : i < h.length := by
        exact Nat.le_of_ble_eq_true g1
      have hx := List.getElem?_eq_getElem hlt
      rw [get?_eq, hx] at g2 g3
      simp only [Option.getD_some] at g2 g3
      refine ⟨hlt, ?_, ?_⟩
      · rw [hx]; intro e; rw [Option.some.inj e] at g2; cases g2
      · intro x hx' j hj
        rw [hx] at hx'
        cases hx'
        exact has_iff.1 (List.all_eq_true.1 g3 j hj)
    have hvid : ∀ x ∈ vs, ∀ j ∈ id2 x, j ∈ ids := fun x hx j hj => by
      have hm : j ∈ i :: is := by rw [← hids]; exact List.mem_flatMap.2 ⟨x, hx, hj⟩
      exact has_iff.1 (List.all_eq_true.1 h3 j hm)
    obtain ⟨hP, _⟩ := hC.ok.hr.part hnd (fun i hi => (hall i hi).1) (fun i hi => (hall i hi).2.2)
    have hρl := hC.ok.hr.len
    have hc := hS G w _ as.toList hP (by simpa using hl) (fun k x hx => by
      rw [List.getElem?_map] at hx
      cases hx0 : vs[k]? with
      | none => rw [hx0] at hx; cases hx
      | some x0 =>
        rw [hx0] at hx; cases hx
        rw [hget]
        refine (hv k x0 hx0).ren (fun j hj => ?_)
        have hjm := hvid x0 (List.mem_of_getElem? hx0) j hj
        have hjl := (hall j hjm).1
        rw [List.getElem?_map, pos_get hjm, Option.map_some, List.getElem?_eq_getElem (by omega)]; rfl)
    rw [Array.toArray_toList] at hc
    refine upon hok hc ?_
    rintro e w' ⟨G', ρ', h', out, hO, hR, hk⟩
    simp only [kils_eq] at hk
    obtain ⟨hC', hren⟩ := hC.back hnd (fun i hi => (hall i hi).1) (fun i hi => (hall i hi).2.1) (fun i hi => (hall i hi).2.2) hO
    cases out with
    | ret r =>
      obtain ⟨v, rfl, hr⟩ := hR
      exact hn v w' G' _ _ _ _ hC' (hren v r hr) hk
    | pan r =>
      obtain ⟨v, rfl, hr⟩ := hR
      exact hp v w' G' _ _ _ _ hC' (hren v r hr) hk

theorem args_ok (hC : Conc E n G ρ t h a w) : ∀ (xs : List Operand) (ts : List TypeId) (os : List O), args P xs ts = some os → os.length = xs.length ∧ ∀ (i : Nat) (x : O), os[i]? = some x → Rep2 G w ρ ((xs.map a.eval).getD i undef) (gv t x)
  | [], ts, os, h => by cases ts <;> (simp only [args] at h; cases h; simp)
  | x :: xs, [], os, h => by
    simp only [args, Option.bind_eq_bind, Option.bind_eq_some_iff] at h
    obtain ⟨y, hy, ys, hys, he⟩ := h
    cases he
    obtain ⟨g1, g2⟩ := args_ok hC xs [] ys hys
    refine ⟨by simp [g1], fun i z hz => ?_⟩
    cases i with
    | zero => simp at hz; subst hz; simpa using opd_ok hC hy
    | succ i => simpa using g2 i z (by simpa using hz)
  | x :: xs, ty :: ts, os, h => by
    simp only [args, Option.bind_eq_bind, Option.bind_eq_some_iff] at h
    obtain ⟨y, hy, ys, hys, he⟩ := h
    cases he
    obtain ⟨g1, g2⟩ := args_ok hC xs ts ys hys
    refine ⟨by simp [g1], fun i z hz => ?_⟩
    cases i with
    | zero => simp at hz; subst hz; simpa using opd_ok hC hy
    | succ i => simpa using g2 i z (by simpa using hz)

theorem callFunc_ok {f : Nat} {as : Array Value} (h : callOk P f = true) : (callFunc f as).run P w = .ok (.enter f as) w := by
  unfold callOk at h
  unfold callFunc
  cases hf : P.funcs[f]? with
  | none => rw [hf] at h; cases h
  | some fn =>
    rw [hf] at h
    simp only [Bool.and_eq_true, bne_iff_ne, ne_eq] at h
    have hb : ¬ fn.body = none := fun e => by rw [e] at h; cases h.2
    simp [hf, h.1, hb]

/-- All that is there is lent. -/
def all (w : World) (b : Nat) : Prop := b < w.heap.size

theorem borD_ok {v : Value} {x : V} {d : D} (hv : RepC G w ρ v x) (hd : borD x = some d) : RepD G w v d := by
  cases hv with
  | k hv =>
    cases hv <;> simp only [borD, reduceCtorEq, Option.some.injEq] at hd
    · subst hd; assumption
    · subst hd; assumption
    · subst hd; exact .slz _
  | fc f u cs caps h0 h1 h2 =>
    cases caps with
    | cons => simp [borD] at hd
    | nil =>
      simp only [borD, Option.some.injEq] at hd
      subst hd
      rw [fcv_nil h0 (by simpa using h1)]
      exact .fn f

theorem mapM_get1 {α β : Type} {f : α → Option β} : ∀ {l : List α} {r : List β}, l.mapM f = some r → r.length = l.length ∧ ∀ (k : Nat) (y : β), r[k]? = some y → ∃ x, l[k]? = some x ∧ f x = some y := by
  intro l
  induction l with
  | nil => intro r h; simp at h; subst h; simp
  | cons x l ih =>
    intro r h
    simp only [List.mapM_cons, Option.bind_eq_bind, Option.bind_eq_some_iff, Option.pure_def, Option.some.injEq] at h
    obtain ⟨y, hy, ys, hys, rfl⟩ := h
    obtain ⟨h1, h2⟩ := ih hys
    refine ⟨by simp [h1], fun k y' hy' => ?_⟩
    cases k with
    | zero => simp at hy'; subst hy'; exact ⟨x, rfl, hy⟩
    | succ k => simpa using h2 k y' (by simpa using hy')

theorem borc_ok (hr : HR G w ρ h) {v : Value} {x : V} (hv : RepK G w ρ v x) : RepK (all w) w [] v (borc h x) := by
  have hG : ∀ b, G b → all w b := hr.gl
  cases hv with
  | un => exact .un _
  | ud => exact .ud
  | d h => exact .d (h.mono hG (fun _ _ => rfl))
  | e b o off row U h1 h2 h3 => exact .e b o off row U (hG b h1) h2 fun j x hx => (h3 j x hx).mono hG (fun _ _ => rfl)
  | cl a n z rows h => exact .cl a n z rows (h.mono hG (fun _ _ => rfl))
  | nl z => exact .nl z
  | q => exact .un _
  | mp => exact .un _
  | ov => exact .un _
  | os id a n c hρ =>
    simp only [borc, get?_eq]
    split
    · rename_i z rs hx
      have hB := hr.rep id _ _ hρ hx
      refine .d (hB.data.mono (fun b hb => ?_) (fun _ _ => rfl))
      rcases hb with hb | hb
      · exact hG b hb
      · exact hr.lt hρ hx (by simp) hb
    · exact .un _
  | p id off b hρ =>
    simp only [borc, get?_eq]
    split
    · rename_i cs hx
      split
      · rename_i ds hds
        obtain ⟨b', arr, ty, hb, h1, h2, h3⟩ := hr.rep id _ _ hρ hx
        simp only [Value.pointer.injEq, Option.some.injEq, Addr.mk.injEq, and_true] at hb
        obtain ⟨rfl, _⟩ := hb
        obtain ⟨m1, m2⟩ := mapM_get1 hds
        have := RepK.e (G := all w) (w := w) (ρ := []) b 0 off ds (fun j => arr.getD j undef) (Array.getElem?_eq_some_iff.1 h1).1 (fun j x hj => by
          have hl : j < arr.size := by rw [h2, ← m1]; exact (List.getElem?_eq_some_iff.1 hj).1
          rw [cell_arr h1, Nat.zero_add, Array.getD_eq_getD_getElem?, Array.getElem?_eq_getElem hl]; rfl) (fun j x hj => by
          obtain ⟨y, hy, hd⟩ := m2 j x hj
          exact (borD_ok (h3 j y hy) hd).mono hG (fun _ _ => rfl))
        simpa using this
      · exact .un _
    · exact .un _
theorem bor0_ok (hr : HR G w ρ h) {v : Value} {x : V} (hv : RepC G w ρ v x) : RepC (all w) w [] v (bor0 h x) := by
  cases hv with
  | k hv =>
    have e : bor0 h x = borc h x := by cases hv <;> rfl
    rw [e]
    exact .k (borc_ok hr hv)
  | fc f u cs caps h0 h1 h2 =>
    refine .fc f _ cs _ h0 (by simpa using h1) (fun i x hx => ?_)
    rw [List.getElem?_map] at hx
    cases hc : caps[i]? with
    | none => rw [hc] at hx; cases hx
    | some x0 => rw [hc] at hx; cases hx; exact borc_ok hr (h2 i x0 hc)
theorem bor2_ok (hr : HR G w ρ h) {v : Value} {x : V} (hv : Rep2 G w ρ v x) : Rep2 (all w) w [] v (bor2 h x) := by
  cases hv with
  | tu => exact .k (.un _)
  | o hv => cases hv with
    | c hv =>
      have e : bor2 h x = bor0 h x := by
        cases hv with
        | k hv => cases hv <;> rfl
        | fc => rfl
      rw [e]
      exact .c (bor0_ok hr hv)
    | ag cs vs h1 h2 =>
      refine .o (.ag cs _ (by simpa using h1) (fun i x hx => ?_))
      rw [List.getElem?_map] at hx
      cases hc : vs[i]? with
      | none => rw [hc] at hx; cases hx
      | some x0 => rw [hc] at hx; cases hx; exact bor0_ok hr (h2 i x0 hc)

theorem scd_ok {G' : Nat → Prop} {w' : World} {v : Value} {d : D} (hv : RepD G w v d) (hs : scd d = true) : RepD G' w' v d := by
  cases hv <;> simp only [scd, Bool.false_eq_true] at hs
  · exact .int _ _
  · exact .bool _
  · exact .str _ ‹_›
  · exact .np
  · exact .nf
  · exact .ni
  · exact .nm
  · exact .fn _
theorem scl_ok {G' : Nat → Prop} {ρ' : List Value} {v : Value} {x : V} (hv : Rep2 G w ρ v x) (hs : scl x = true) : Rep1 G' w ρ' v x := by
  cases x <;> simp only [scl, Bool.false_eq_true] at hs
  exact .c (.k (.d (scd_ok hv.toD hs)))
theorem scl2_ok {G' : Nat → Prop} {ρ' : List Value} {v : Value} {x : V} (hv : Rep2 G w ρ v x) (hs : scl2 x = true) : Rep2 G' w ρ' v x := by
  by_cases hx : ∃ c, x = .tu c
  · obtain ⟨c, rfl⟩ := hx
    obtain ⟨cs, rfl, h1, h2⟩ := hv.tul
    exact .tu cs c h1 fun i x hi => scl_ok (.o (h2 i x hi)) (List.all_eq_true.1 hs x (List.mem_of_getElem? hi))
  · have : scl2 x = scl x := by cases x <;> first | rfl | exact absurd ⟨_, rfl⟩ hx
    exact .o (scl_ok hv (this ▸ hs))

theorem gcall_ok (hC : Conc E n G ρ t h a w) (hn : Nxt E n a o K nxt) (hp : Pnc E n a KP Q) {f : Nat} (hlt : f < 5000000) {as : Array Value} {vs : List V} (hrun : callOk P f = true → (execOp a.eval o).run P w = .ok (.enter f as) w) (hl : as.size = vs.length)
    (hv : ∀ (i : Nat) (x : V), vs[i]? = some x → Rep2 G w ρ (as.getD i undef) x) (hk : gcall (Sat P) f vs t h K KP) : o.wp P a w nxt Q := by
  unfold gcall at hk
  split at hk
  · exact call_ok hC hn hp hlt hrun hl hv hk
  · rcases hk with ⟨r, hkS, hs, hk⟩ | hk
    · obtain ⟨hok, hS⟩ := hkS.fn hlt
      have hr0 : HR (all w) w [] [] := ⟨rfl, by simp, by simp, fun _ h => h, (fun b _ ho => by obtain ⟨_, _, _, h1, _⟩ := ho; simp at h1), hC.ok.hr.glb.mono (fun b hb => hC.ok.hr.gl b hb) (fun _ _ => rfl)⟩
      have hget : ∀ i, as.toList.getD i undef = as.getD i undef := by
        intro i; rw [List.getD_eq_getElem?_getD, Array.getElem?_toList, Array.getD_eq_getD_getElem?]
      have hc := hS (all w) w [] as.toList hr0 (by simpa using hl) (fun i x hx => by
        rw [hget]
        rw [List.getElem?_map] at hx
        cases hc : vs[i]? with
        | none => rw [hc] at hx; cases hx
        | some x0 => rw [hc] at hx; cases hx; exact bor2_ok hC.ok.hr (hv i x0 hc))
      rw [Array.toArray_toList] at hc
      unfold Oper.wp
      rw [hrun hok, Oper.upon_enter]
      refine hc.mono fun e w' hr => ?_
      obtain ⟨G', ρ', h', out, hO, hR, rfl, rfl⟩ := hr
      obtain ⟨v, rfl, hv'⟩ := hR
      have hg : Grw w w' := ⟨hO.size, fun b hb => hO.frame b hb (fun ho => by obtain ⟨_, _, _, h1, _⟩ := ho; simp at h1), hO.os, hO.tape, hO.out⟩
      exact hn v w' G ρ t h r (hC.grow hg (fun _ h => h) (fun _ h => .inl h)) (scl2_ok hv' hs) hk
    · rw [fl_eq] at hk
      obtain ⟨G', t', h', vs', k1, k2, k3, k4⟩ := give_ok _ G t h _ (fun i => as.getD i undef) hC hv hk
      exact call_ok k1 hn hp hlt hrun (by rw [k2]; exact hl) k3 k4

variable (ow : Nat → Bool)

theorem op_cf (hC : Conc E n G ρ t h a w) (hn : Nxt E n a o K nxt) (hp : Pnc E n a KP Q) {f : Nat} (hlt : f < 5000000) {c : Call} {oa : List O} (ho : o.op = .call c) (hcf : c.callee = .value (.func f)) (ha : args P c.args.toList c.argTypes.toList = some oa)
    (hk : opx (Sat P) ow (.cf f oa) t h K KP) : o.wp P a w nxt Q := by
  obtain ⟨g1, g2⟩ := args_ok hC _ _ _ ha
  have hrun : callOk P f = true → (execOp a.eval o).run P w = .ok (.enter f (c.args.map a.eval)) w := fun hok => by
    have := callFunc_ok (P := P) (w := w) (as := c.args.map a.eval) hok
    simp [execOp, ho, resolve, hcf, Act.eval, Deferred.ofValue, invoke, this]
  have hU : ∀ (i : Nat) (x : V), (oa.map fun x => clean1 (gv t x))[i]? = some x → Rep2 G w ρ ((c.args.map a.eval).getD i undef) x := by
    intro i x hx
    rw [List.getElem?_map] at hx
    cases hc : oa[i]? with
    | none => rw [hc] at hx; cases hx
    | some y =>
      rw [hc] at hx; cases hx
      have := g2 i y hc
      rw [List.getD_eq_getElem?_getD, List.getElem?_map, Array.getElem?_toList] at this
      rw [Array.getD_eq_getD_getElem?, Array.getElem?_map]
      exact clean1_ok this
  simp only [opx, fl_eq] at hk
  cases how : ow f <;> rw [how] at hk
  · simp only [cond_false] at hk
    exact gcall_ok hC hn hp hlt hrun (by simp [g1]) hU hk
  · simp only [cond_true] at hk
    exact call_ok hC hn hp hlt hrun (by simp [g1]) hU hk

theorem op_cc (hC : Conc E n G ρ t h a w) (hn : Nxt E n a o K nxt) (hp : Pnc E n a KP Q) {c : Call} {x : Operand} {ox : O} {oa : List O} {t1 : TypeId} (ho : o.op = .call c) (hcf : c.callee = .value x) (hx : opd P t1 x = some ox) (ha : args P c.args.toList c.argTypes.toList = some oa)
    (hk : opx (Sat P) ow (.cc ox oa) t h K KP) : o.wp P a w nxt Q := by
  obtain ⟨g1, g2⟩ := args_ok hC _ _ _ ha
  have hvx := opd_ok hC hx
  have hA : ∀ (i : Nat) (x : V), (oa.map fun x => clean1 (gv t x))[i]? = some x → Rep2 G w ρ ((c.args.map a.eval).getD i undef) x := by
    intro i x hx
    rw [List.getElem?_map] at hx
    cases hc : oa[i]? with
    | none => rw [hc] at hx; cases hx
    | some y =>
      rw [hc] at hx; cases hx
      have := g2 i y hc
      rw [List.getD_eq_getElem?_getD, List.getElem?_map, Array.getElem?_toList] at this
      rw [Array.getD_eq_getD_getElem?, Array.getElem?_map]
      exact clean1_ok this
  simp only [opx, fl_eq] at hk
  split at hk
  · rename_i f caps hg
    rw [hg] at hvx
    obtain ⟨cs, hv0, hcl, hcr⟩ := hvx.fcl
    cases hb : Nat.blt f 1000000 <;> rw [hb] at hk
    · simp only [cond_false] at hk
      cases hb2 : Nat.blt f 2000000 <;> rw [hb2] at hk
      · exact hk.elim
      simp only [cond_true] at hk
      have hv := fcv_bm hv0 (fun hl => by rw [← Nat.blt_eq, hb] at hl; cases hl) (by simpa [Nat.blt_eq] using hb2)
      have hrun : callOk P (f - 1000000) = true → (execOp a.eval o).run P w = .ok (.enter (f - 1000000) (cs ++ c.args.map a.eval)) w := fun hok => by
        have := callFunc_ok (P := P) (w := w) (as := cs ++ c.args.map a.eval) hok
        simp [execOp, ho, resolve, hcf, hv, Deferred.ofValue, invoke, this]
      have hU : ∀ (i : Nat) (x : V), (caps ++ (oa.map fun x => clean1 (gv t x)))[i]? = some x → Rep2 G w ρ ((cs ++ c.args.map a.eval).getD i undef) x := by
        intro i x hx
        by_cases hi : i < caps.length
        · rw [List.getElem?_append_left hi] at hx
          have := hcr i x hx
          rw [Array.getD_eq_getD_getElem?] at this ⊢
          rw [Array.getElem?_append_left (by omega)]
          exact .k this
        · rw [List.getElem?_append_right (by omega)] at hx
          have := hA _ x hx
          rw [Array.getD_eq_getD_getElem?] at this ⊢
          rw [Array.getElem?_append_right (by omega), hcl]
          exact this
      exact gcall_ok hC hn hp (by have := hb2; simp [Nat.blt_eq] at this; omega) hrun (by simp [g1, hcl]) hU hk
    simp only [cond_true] at hk
    have hv := fcv_fn hv0 (by simpa [Nat.blt_eq] using hb)
    have hrun : callOk P f = true → (execOp a.eval o).run P w = .ok (.enter f (c.args.map a.eval ++ cs)) w := fun hok => by
      have := callFunc_ok (P := P) (w := w) (as := c.args.map a.eval ++ cs) hok
      simp [execOp, ho, resolve, hcf, hv, Deferred.ofValue, invoke, this]
    have hU : ∀ (i : Nat) (x : V), ((oa.map fun x => clean1 (gv t x)) ++ caps)[i]? = some x → Rep2 G w ρ ((c.args.map a.eval ++ cs).getD i undef) x := by
      intro i x hx
      have hsz : (c.args.map a.eval).size = (oa.map fun x => clean1 (gv t x)).length := by simp [g1]
      by_cases hi : i < (oa.map fun x => clean1 (gv t x)).length
      · rw [List.getElem?_append_left hi] at hx
        have := hA i x hx
        rw [Array.getD_eq_getD_getElem?] at this ⊢
        rw [Array.getElem?_append_left (by omega)]
        exact this
      · rw [List.getElem?_append_right (by omega)] at hx
        have := hcr _ x hx
        rw [Array.getD_eq_getD_getElem?] at this ⊢
        rw [Array.getElem?_append_right (by omega), hsz]
        exact .k this
    exact gcall_ok hC hn hp (by have := hb; simp [Nat.blt_eq] at this; omega) hrun (by simp [g1, hcl]) hU hk
  · rename_i f hg
    rw [hg] at hvx
    have hv := fn_val hvx.toD
    have hrun : callOk P f = true → (execOp a.eval o).run P w = .ok (.enter f (c.args.map a.eval)) w := fun hok => by
      have := callFunc_ok (P := P) (w := w) (as := c.args.map a.eval) hok
      simp [execOp, ho, resolve, hcf, hv, Deferred.ofValue, invoke, this]
    cases hb : Nat.blt f 5000000 <;> rw [hb] at hk
    · exact hk.elim
    · rw [cond_true] at hk
      exact gcall_ok hC hn hp (by simpa [Nat.blt_eq] using hb) hrun (by simp [g1]) hA hk
  · exact hk.elim
end
end Go.Vx
namespace Go.Vx
section
variable {P : Program} {E : Ent} {n : Nat} {G : Nat → Prop} {ρ : List Value} {t : T} {h : H} {a : Act} {w : World} {o : Oper} {nxt : Act → World → Prop} {Q : Exit → Act → World → Prop} {K KP : V → T → H → Prop}
variable (S : Nat → List V → H → (Out → H → Prop) → Prop) (ow : Nat → Bool)

theorem op_nq (hC : Conc E n G ρ t h a w) (hn : Nxt E n a o K nxt) {ne : Bool} {ty e t1 t2 : TypeId} {x : Operand} {ox : O} (ho : o.op = .binOp (bif ne then .neq else .eql) ty x (.const (.slice none 0 0)) t2) (hu : P.underlying ty = some (.slice e)) (hx : opd P t1 x = some ox)
    (hk : opx S ow (.nq ne ox) t h K KP) : o.wp P a w nxt Q := by
  have hv := opd_ok hC hx
  have run : ∀ (ad : Option Addr) (m c : Nat), a.eval x = .slice ad m c → (execOp a.eval o).run P w = .ok (.value (.bool (bif ne then !ad.isNone else ad.isNone))) w := by
    intro ad m c he
    have e0 : a.eval (.const (.slice none 0 0)) = .slice none 0 0 := rfl
    have heq : ∀ k, (Op.equalIn (k + 1) ty (.slice ad m c) (.slice none 0 0)).run P w = .ok ad.isNone w := fun k => by
      cases ad <;> simp [Op.equalIn, run_underlying hu]
    have heq : (Op.equal ty (.slice ad m c) (.slice none 0 0)).run P w = .ok ad.isNone w := heq 9999
    cases ne <;> simp only [cond_true, cond_false] at ho ⊢ <;> simp only [execOp, ho, he, e0]
    · refine run_execv ?_
      simp [eqGuard, binOp, heq]
    · refine run_execv ?_
      simp [eqGuard, binOp, heq]
  have both : ∀ (ad : Option Addr) (m c : Nat), a.eval x = .slice ad m c → K (.d (.bool true)) t h ∧ K (.d (.bool false)) t h → o.wp P a w nxt Q := by
    intro ad m c he hk
    refine wp_quiet hC hn (v := .d (.bool (bif ne then !ad.isNone else ad.isNone))) (run ad m c he) (.d (.bool _)) ?_
    cases (bif ne then !ad.isNone else ad.isNone)
    · exact hk.2
    · exact hk.1
  have one : ∀ (ad : Addr) (m c : Nat), a.eval x = .slice (some ad) m c → K (.d (.bool ne)) t h → o.wp P a w nxt Q := by
    intro ad m c he hk
    have := run (some ad) m c he
    exact wp_quiet hC hn this (.d (.bool _)) (by cases ne <;> exact hk)
  have data : ∀ (z : Nat) (r : List (List D)), RepD G w (a.eval x) (.sl z r) → (match r with | [] => K (.d (.bool true)) t h ∧ K (.d (.bool false)) t h | _ :: _ => K (.d (.bool ne)) t h) → o.wp P a w nxt Q := by
    intro z r hD hk
    cases r with
    | nil =>
      obtain ⟨ad, c, he, _⟩ := hD.len
      exact both ad _ c he hk
    | cons r0 rs =>
      rcases hD.sll with ⟨_, h2⟩ | ⟨b, o, cap, U, he, _⟩
      · cases h2
      · exact one _ _ cap he hk
  simp only [opx] at hk
  split at hk
  · rename_i z r hg
    rw [hg] at hv
    exact data z r hv.toD hk
  · rename_i z r hg
    rw [hg] at hv
    obtain ⟨ad, m, he, hD⟩ := hv.cll
    exact data z r (he ▸ hD) hk
  · rename_i id hg
    rw [hg] at hv
    rw [get?_eq] at hk
    split at hk
    · rename_i z r hcs
      obtain ⟨ad, c, he, _, hρ⟩ := own_val hC hv hcs
      cases r with
      | nil => exact both ad _ c he hk
      | cons r0 rs =>
        rcases hC.ok.hr.rep id _ _ hρ hcs with ⟨_, h2⟩ | ⟨b, cap, arr, ty', hb, _⟩
        · cases h2
        · rw [hb] at he
          exact one _ _ cap he hk
    · exact hk.elim
  · exact hk.elim

theorem op_ns (hC : Conc E n G ρ t h a w) (hn : Nxt E n a o K nxt) {ty e : TypeId} {zs : List V} (ho : o.op = .buildSlice ty 0 #[]) (hu : P.underlying ty = some (.slice e)) (hz : zer P e = some zs) (hk : opx S ow (.ns (P.cellsOf e)) t h K KP) : o.wp P a w nxt Q := by
  obtain ⟨i, z, hi, _⟩ := zer_ok (G := G) (w := w) (ρ := ρ) hz
  simp only [opx, fl_eq, fnat_eq] at hk
  have hC2 := hC.push (Grw.alloc w (.cells #[] e)) (.slice (some ⟨w.heap.size, 0, none⟩) 0 0) (.rows (P.cellsOf e) []) (by intro b hb; simp only [blk, Option.some.injEq] at hb; omega)
    (.inr ⟨w.heap.size, 0, #[], e, rfl, heap_alloc_new w _, Nat.le_refl _, by simp, by simp, by simp⟩)
  refine wp_val (v' := .slice (some ⟨w.heap.size, 0, none⟩) 0 0) ?_ (hn _ _ _ _ _ _ _ hC2 (.k (.os h.length _ 0 0 (by rw [← hC.ok.hr.len]; simp))) hk)
  have hrun : (Instr.buildSlice ty 0 #[]).run P w = .ok (.slice (some ⟨w.heap.size, 0, none⟩) 0 0) (w.alloc (.cells #[] e)) := by
    simp [Instr.buildSlice, Instr.fill, run_underlying hu, sizeOf, typeInfo, hi, newRow]
    congr 2
    exact Array.eq_empty_of_size_eq_zero (by simp)
  simp only [execOp, ho]
  exact run_execv (by simpa using hrun)

theorem op_ix (hC : Conc E n G ρ t h a w) (hn : Nxt E n a o K nxt) {ty t1 t2 : TypeId} {x i : Operand} {ox oi : O} (ho : o.op = .index ty x i) (hu : P.underlying ty = some .string) (hx : opd P t1 x = some ox) (hi : opd P t2 i = some oi)
    (hk : opx S ow (.ix ox oi) t h K KP) : o.wp P a w nxt Q := by
  have hvx := opd_ok hC hx
  have hvi := opd_ok hC hi
  simp only [opx] at hk
  split at hk
  · rename_i s k m hgx hgi
    rw [hgx] at hvx
    rw [hgi] at hvi
    obtain ⟨sv, e1, rfl, _⟩ := hvx.str
    have e2 := hvi.int
    obtain ⟨b, ⟨h1, h2⟩, hk⟩ := hk
    have hb : sv[m.toNat]? = some b := by
      rw [Array.getElem?_toList] at h2
      exact h2
    refine wp_quiet hC hn (v' := .int .u8 b.toNat) ?_ (.d (.int _ _)) hk
    simp [execOp, ho, e1, e2, Instr.index, asIntOf, run_underlying hu, h1, hb]
  · exact hk.elim

theorem Rep2.ovl {v : Value} {id z i : Nat} (h : Rep2 G w ρ v (.ov id z i)) : ∃ a n c, ρ[id]? = some (.slice a n c) ∧ v = sliced a i n c z := by
  cases h with | o h => cases h with | c h => cases h with | k h => cases h with | ov _ _ _ _ a n c h1 h2 => exact ⟨a, n, c, h1, h2⟩

theorem mapM_get0 {α β : Type} {f : α → Option β} : ∀ {l : List α} {r : List β}, l.mapM f = some r → r.length = l.length ∧ ∀ (k : Nat) (x : α) (y : β), l[k]? = some x → r[k]? = some y → f x = some y := by
  intro l
  induction l with
  | nil => intro r h; simp at h; subst h; simp
  | cons x l ih =>
    intro r h
    simp only [List.mapM_cons, Option.bind_eq_bind, Option.bind_eq_some_iff, Option.pure_def, Option.some.injEq] at h
    obtain ⟨y, hy, ys, hys, rfl⟩ := h
    obtain ⟨h1, h2⟩ := ih hys
    refine ⟨by simp [h1], fun k x' y' hx hy' => ?_⟩
    cases k with
    | zero => simp at hx hy'; subst hx hy'; exact hy
    | succ k => exact h2 k x' y' (by simpa using hx) (by simpa using hy')

theorem dof_ok {v : Value} {x : V} {d : D} (hv : RepK G w ρ v x) (hd : dof x = some d) : RepD G w v d := by
  cases hv <;> simp only [dof, reduceCtorEq, Option.some.injEq] at hd
  · subst hd; assumption
  · subst hd; exact .slz _

theorem op_clr (hC : Conc E n G ρ t h a w) (hn : Nxt E n a o K nxt) {ty e t1 : TypeId} {zs : List V} {ds : List D} {x : Operand} {ox : O} (ho : o.op = .call { callee := .builtin .clear, args := #[x], argTypes := #[ty] }) (hu : P.underlying ty = some (.slice e)) (hz : zer P e = some zs)
    (hd : zs.mapM dof = some ds) (hzl : zs.length = P.cellsOf e) (hz0 : P.cellsOf e ≠ 0) (hx : opd P t1 x = some ox) (hk : opx S ow (.clr ox ds (P.cellsOf e)) t h K KP) : o.wp P a w nxt Q := by
  have hv := opd_ok hC hx
  obtain ⟨it, z, hi, hz1, hzs, hst, hzr⟩ := zer_ok (G := G) (w := w) (ρ := ρ) hz
  obtain ⟨hdl, hdg⟩ := mapM_get0 hd
  have hci : P.cellsOf e = it.size := by simp [Program.cellsOf, hi]
  generalize hzz : P.cellsOf e = zz at *
  simp only [opx] at hk
  split at hk
  · rename_i id z' i hg
    rw [hg] at hv
    rw [get?_eq] at hk
    split at hk
    · rename_i z'' r hcs
      obtain ⟨⟨k1, k2, k3⟩, hk⟩ := hk
      obtain rfl := nbq k1
      obtain rfl := nbq k2
      have k3 := Nat.le_of_ble_eq_true k3
      rw [fl_eq] at hk
      obtain ⟨ad, m, c, hρ, hval⟩ := hv.ovl
      have hrep := hC.ok.hr.rep id _ _ hρ hcs
      have hlc : m = r.length ∧ m ≤ c := by
        rcases hrep with ⟨he, rfl⟩ | ⟨b, cap, arr, ty, he, h1, h2, _⟩
        · simp only [Value.slice.injEq] at he
          obtain ⟨rfl, rfl, rfl⟩ := he
          simp
        · simp only [Value.slice.injEq] at he
          obtain ⟨rfl, rfl, rfl⟩ := he
          exact ⟨rfl, h2⟩
      obtain ⟨rfl, hmc⟩ := hlc
      have runs : ∀ (v : Value) (w' : World), a.eval x = v → (Builtin.clear_ #[ty] o.type #[v]).run P w = .ok (.tuple #[]) w' → (execOp a.eval o).run P w = .ok (.value (.tuple #[])) w' := by
        intro v w' he hr
        simp [execOp, ho, resolve, invoke, builtin, he, hr]
      by_cases hil : i = r.length
      · have hsame : h.set id (.rows z'' (r.take i ++ List.replicate (r.length - i) ds)) = h := by
          rw [hil, List.take_length, Nat.sub_self, List.replicate_zero, List.append_nil]
          exact set_self hcs
        rw [hsame] at hk
        refine wp_val (runs _ w hval ?_) (hn _ _ _ _ _ _ _ hC (.tu #[] [] rfl (by simp)) hk)
        subst hil
        simp only [sliced, Nat.sub_self]
        cases (if c = r.length then ad else ad.map (·.add (r.length * z''))) <;> simp [Builtin.clear_, run_underlying hu]
      · have hil : i < r.length := by omega
        rcases hrep with ⟨_, rfl⟩ | ⟨b, cap, arr, ty', he, h1, h2, h3, h4, h5⟩
        · simp at hil
        simp only [Value.slice.injEq] at he
        obtain ⟨rfl, _, rfl⟩ := he
        have hv2 : a.eval x = .slice (some ⟨b, i * z'', none⟩) (r.length - i) (c - i) := by
          rw [hval]
          simp [sliced, show ¬ c = i by omega, add_off]
        have hz'' : it.size = z'' := hci.symm
        have hzc : z.cells.size = z'' := by rw [hzs, hzl]
        have hzpos : 0 < z'' := by omega
        have hmul : (r.length - i) * z'' + i * z'' = r.length * z'' := by rw [← Nat.add_mul]; congr 1; omega
        have hle : r.length * z'' ≤ c * z'' := Nat.mul_le_mul_right _ h2
        have hnl : (Builtin.zeroCells z.cells (r.length - i)).toList.length = (r.length - i) * z'' := by simp [Builtin.zeroCells, hzc]
        have hng : ∀ k, k < (r.length - i) * z'' → (Builtin.zeroCells z.cells (r.length - i)).toList[k]? = some (z.cells.getD (k % z'') undef) := by
          intro k hk
          have hml : k % z'' < z.cells.size := by rw [hzc]; exact Nat.mod_lt _ hzpos
          simp only [Builtin.zeroCells, Array.getElem?_toList, Array.getElem?_map, hzc, Array.getElem?_range, hk, if_true, Option.map_some, Option.some.injEq]
          rw [getElem!_pos z.cells _ hml, Array.getD_eq_getD_getElem?, Array.getElem?_eq_getElem hml]
          rfl
        have hzj : ∀ j, j < z'' → ∃ x, zs[j]? = some x ∧ RepK G w ρ (z.cells.getD j undef) x := fun j hj => by
          have hjl : j < zs.length := by rw [hzl]; exact hj
          exact ⟨zs[j], List.getElem?_eq_getElem hjl, (hzr j _ (List.getElem?_eq_getElem hjl)).1⟩
        have hone : ∀ u ∈ (Builtin.zeroCells z.cells (r.length - i)).toList, u.oneCell' = true := by
          intro u hu
          obtain ⟨k, hk⟩ := List.mem_iff_getElem?.1 hu
          have hkl : k < (r.length - i) * z'' := by rw [← hnl]; exact (List.getElem?_eq_some_iff.1 hk).1
          rw [hng k hkl] at hk
          cases hk
          obtain ⟨y, hy, hr⟩ := hzj (k % z'') (Nat.mod_lt _ hzpos)
          exact one_ok (.k hr) (List.all_eq_true.1 hst y (List.mem_of_getElem? hy))
        have hrun := run_storeCells_at (P := P) b (i * z'') ty' (Builtin.zeroCells z.cells (r.length - i)).toList 0 arr w h1 (by rw [hnl]; omega) hone
        rw [Nat.add_zero, hnl] at hrun
        have hC' := hC.upd1 (w' := w.setRow b (arr.toList.take (i * z'') ++ (Builtin.zeroCells z.cells (r.length - i)).toList ++ arr.toList.drop (i * z'' + (r.length - i) * z'')).toArray) (x1 := .rows z'' (r.take i ++ List.replicate (r.length - i) ds)) hρ hcs (by simp) (by simp)
          (fun c hc => setRow_other w b c _ (by simp only [blk, ne_eq, Option.some.injEq] at hc; omega)) rfl rfl rfl
          (.inr ⟨b, c, _, ty', by simp; omega, setRow_heap w b arr _ ty' _ h1, by simp; omega, h3, by
            simp only [List.size_toArray, List.length_append, List.length_take, List.length_drop, Array.length_toList, hnl]; omega, fun i' row hi' => by
            have hs' : ∀ c, G c → (w.setRow b (arr.toList.take (i * z'') ++ (Builtin.zeroCells z.cells (r.length - i)).toList ++ arr.toList.drop (i * z'' + (r.length - i) * z'')).toArray).heap[c]? = w.heap[c]? := fun c hc => setRow_other w b c _ (fun e => by
              subst e; exact hC.ok.hr.gd c hc ⟨id, _, _, hρ, hcs, by simp, rfl⟩)
            have hgetr := fun k => row_get (arr := arr) (off := i * z'') hnl (by omega) k
            by_cases hii : i' < i
            · rw [List.getElem?_append_left (by simp; omega), List.getElem?_take, if_pos hii] at hi'
              obtain ⟨g1, g2⟩ := h5 i' row hi'
              refine ⟨g1, fun j x hj => ?_⟩
              have hjl : j < z'' := by rw [← g1]; exact (List.getElem?_eq_some_iff.1 hj).1
              have : i' * z'' + z'' ≤ i * z'' := by
                have := Nat.mul_le_mul_right z'' (show i' + 1 ≤ i by omega)
                rwa [Nat.add_mul, Nat.one_mul] at this
              rw [hgetr, if_neg (by omega)]
              exact (g2 j x hj).mono (fun _ h => h) hs'
            · rw [List.getElem?_append_right (by simp; omega)] at hi'
              have hmin : (r.take i).length = i := by simp; omega
              rw [hmin, List.getElem?_replicate] at hi'
              split at hi'
              · rename_i hlt
                cases hi'
                refine ⟨by rw [hdl, hzl], fun j x hj => ?_⟩
                have hjl : j < z'' := by rw [← hzl, ← hdl]; exact (List.getElem?_eq_some_iff.1 hj).1
                have hi1 : i' * z'' = i * z'' + (i' - i) * z'' := by rw [← Nat.add_mul]; congr 1; omega
                have hi2 : (i' - i) * z'' + z'' ≤ (r.length - i) * z'' := by
                  have := Nat.mul_le_mul_right z'' (show (i' - i) + 1 ≤ r.length - i by omega)
                  rwa [Nat.add_mul, Nat.one_mul] at this
                rw [hgetr, if_pos ⟨by omega, by omega⟩]
                have hk : i' * z'' + j - i * z'' = j + (i' - i) * z'' := by omega
                rw [hk, List.getD_eq_getElem?_getD, hng _ (by omega), Nat.add_mul_mod_self_right, Nat.mod_eq_of_lt hjl]
                obtain ⟨y, hy, hr⟩ := hzj j hjl
                exact (dof_ok hr (hdg j y x hy hj)).mono (fun _ h => h) hs'
              · cases hi'⟩)
        refine wp_val (runs _ _ hv2 ?_) (hn _ _ _ _ _ _ _ hC' (.tu #[] [] rfl (by simp)) hk)
        have hn0 : ¬ (r.length - i = 0) := by omega
        obtain ⟨k, hk⟩ := Nat.exists_eq_succ_of_ne_zero hn0
        rw [hk] at hrun ⊢
        simp [Builtin.clear_, run_underlying hu, zeroValue, typeInfo, hi, hz1, hrun]
    · exact hk.elim
  · exact hk.elim
end
end Go.Vx
