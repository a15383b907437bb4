/- Calls, and every small operation, in the picture. Conditions: none; lemmas on the definitions before. -/
import Derived.Test.YtoibcfioicdlhaaGreatDoorVxN
namespace Go.Vx
section
variable {P : Program} {E : Ent} {n : Nat} {G : Nat → Prop} {ρ : List Value} {t : T} {h : H} {a : Act} {w : World} {o : Oper} {nxt : Act → World → Prop} {Q : Exit → Act → World → Prop} {K KP : V → T → H → Prop}

/-- What comes behind a panic. -/
def Pnc (E : Ent) (n : Nat) (a : Act) (KP : V → T → H → Prop) (Q : Exit → Act → World → Prop) : Prop :=
  ∀ (v' : Value) (w' : World) (G' : Nat → Prop) (ρ' : List Value) (t' : T) (h' : H) (v : V), Conc E n G' ρ' t' h' a w' → Rep2 G' w' ρ' v' v → KP v t' h' → Q (.panic [{ v := v', recovered := false }]) a w'

theorem clean_k {v : Value} {x : V} (hv : RepK G w ρ v x) : RepK G w ρ v (clean x) := by
  cases hv with
  | cl a n z rows h => exact .d h
  | nl z => exact .d (.slz z)
  | un => exact .un _
  | ud => exact .ud
  | d h => exact .d h
  | p id off b h => exact .p id off b h
  | e b o off row U h1 h2 h3 => exact .e b o off row U h1 h2 h3
  | os id a n c h => exact .os id a n c h
  | q id z i off b n c h => exact .q id z i off b n c h
  | mp id r h => exact .mp id r h
  | ov id z i _ a n c h hv => exact .ov id z i _ a n c h hv
theorem clean_c {v : Value} {x : V} (hv : RepC G w ρ v x) : RepC G w ρ v (clean x) := by
  cases hv with
  | k h => exact .k (clean_k h)
  | fc f u cs caps h0 h1 h2 =>
    cases caps with
    | nil =>
      rw [fcv_nil h0 (by simpa using h1)]
      exact .k (.d (.fn f))
    | cons c r => exact .fc f _ cs _ h0 h1 h2
theorem clean1_ok {v : Value} {x : V} (hv : Rep2 G w ρ v x) : Rep2 G w ρ v (clean1 x) := by
  cases hv with
  | o h => cases h with
    | c h =>
      have : clean1 x = clean x := by
        cases h with
        | k h => cases h <;> rfl
        | fc => rfl
      rw [this]
      exact .o (.c (clean_c h))
    | ag cs vs h1 h2 =>
      refine .o (.ag cs _ (by simpa using h1) (fun i x hx => ?_))
      rw [List.getElem?_map] at hx
      cases hc : vs[i]? with
      | none => rw [hc] at hx; cases hx
      | some x0 => rw [hc] at hx; cases hx; exact clean_c (h2 i x0 hc)
  | tu cs vs h1 h2 => exact .tu cs vs h1 h2

theorem give_ok {K : T → H → List V → Prop} : ∀ (ids : List Nat) (G : Nat → Prop) (t : T) (h : H) (vs : List V) (U : Nat → Value), Conc E n G ρ t h a w → (∀ (i : Nat) (x : V), vs[i]? = some x → Rep2 G w ρ (U i) x) → give ids t h vs K →
    ∃ (G' : Nat → Prop) (t' : T) (h' : H) (vs' : List V), Conc E n G' ρ t' h' a w ∧ vs'.length = vs.length ∧ (∀ (i : Nat) (x : V), vs'[i]? = some x → Rep2 G' w ρ (U i) x) ∧ K t' h' vs' := by
  intro ids
  induction ids with
  | nil => intro G t h vs U hC hU hk; exact ⟨G, t, h, vs, hC, rfl, hU, hk⟩
  | cons id ids ih =>
    intro G t h vs U hC hU hk
    simp only [give_cons, give1, get?_eq] at hk
    split at hk
    · rename_i z rs hx
      simp only [fl_eq] at hk
      obtain ⟨v0, hv0, hd, hC'⟩ := hC.free hx
      obtain ⟨G', t', h', vs', g1, g2, g3, g4⟩ := ih _ _ _ _ U hC' (fun i x hi => by
        rw [List.getElem?_map] at hi
        cases hc : vs[i]? with
        | none => rw [hc] at hi; cases hi
        | some x0 => rw [hc] at hi; cases hi; exact (hU i x0 hc).sub hv0 (fun b hb => .inl hb) hd) hk
      exact ⟨G', t', h', vs', g1, by simpa using g2, g3, g4⟩
    · exact hk.elim

theorem call_ok (hC : Conc E n G ρ t h a w) (hn : Nxt E n a o K nxt) (hp : Pnc E n a KP Q) {f : Nat} {as : Array Value} {vs : List V} (hrun : callOk P f = true → (execOp a.eval o).run P w = .ok (.enter f as) w) (hl : as.size = vs.length)
    (hv : ∀ (i : Nat) (x : V), vs[i]? = some x → Rep2 G w ρ (as.getD i undef) x) (hk : callx (Sat P) f vs t h K KP) : o.wp P a w nxt Q := by
  have upon : ∀ {R : Ending → World → Prop}, callOk P f = true → Calls P f as w R → (∀ e w', R e w' → match e with
      | .returned v => nxt (a.put o.dst v) w'
      | .panicked chain => Q (.panic chain) a w'
      | .outgrown => False) → o.wp P a w nxt Q := by
    intro R hok hc hR
    unfold Oper.wp
    rw [hrun hok, Oper.upon_enter]
    refine hc.mono fun e w' hr => ?_
    have := hR e w' hr
    cases e <;> first | exact this | exact this.elim
  have hget : ∀ i, as.toList.getD i undef = as.getD i undef := by
    intro i; rw [List.getD_eq_getElem?_getD, Array.getElem?_toList, Array.getD_eq_getD_getElem?]
  simp only [callx] at hk
  split at hk
  · -- data alone
    rename_i hids
    simp only [List.flatMap_eq_nil_iff] at hids
    obtain ⟨hok, hS⟩ := hk
    have hC0 := hC.ok.hr
    have hr0 : HR G w [] [] := ⟨rfl, by simp, by simp, hC0.gl, (fun b _ ho => by obtain ⟨_, _, _, h1, _⟩ := ho; simp at h1), hC0.glb⟩
    have hc := hS G w [] as.toList hr0 (by simpa using hl) (fun i x hx => by
      rw [hget]
      exact (hv i x hx).mono (fun _ h => h) (fun _ _ => rfl) (fun j hj => by rw [hids x (List.mem_of_getElem? hx)] at hj; cases hj))
    rw [Array.toArray_toList] at hc
    refine upon hok hc ?_
    rintro e w' ⟨G', ρ', h', out, hO, hR, hk⟩
    have hO' : Ok ⟨w, G, ([] : List Nat).map fun i => (ρ[i]?).getD undef, ([] : List Nat).map fun i => rnB (pos []) ((get? h i).getD .no), []⟩ G' w' ρ' h' := hO
    obtain ⟨hC', hren⟩ := hC.back (ids := []) List.nodup_nil (by simp) (by simp) (by simp) hO'
    have hrows : rowsOf h [] = [] := rfl
    rw [hrows] at hC'
    simp only [List.foldl_nil, kilH] at hC'
    have hbk : Vx.back [] (home h.length []) h h' = h ++ h'.map (rnB (home h.length [])) := by
      simp only [Vx.back, List.length_nil, List.drop_zero]
      congr 1
      apply List.ext_getElem?
      intro i
      simp only [List.getElem?_map, List.getElem?_zipIdx]
      cases h[i]? <;> rfl
    have hhome : home h.length [] = fun i => h.length + i := by funext i; simp [home, get?_eq]
    rw [hbk, hhome] at hC'
    rw [hhome] at hren
    cases h' with
    | nil =>
      have hρ' : ρ' = [] := List.eq_nil_of_length_eq_zero hO.hr.len
      subst hρ'
      simp only [List.map_nil, List.append_nil] at hC'
      have hidr : ∀ (v : Value) (r : V), Rep2 G' w' [] v r → rn2 (fun i => h.length + i) r = r := fun v r hr => rn2_id (by
        cases hh : id2 r with
        | nil => rfl
        | cons i l => have := hr.lt i (by rw [hh]; simp); simp at this)
      cases out with
      | ret r =>
        obtain ⟨v, rfl, hr⟩ := hR
        have := hren v r hr
        rw [hidr v r hr] at this
        exact hn v w' G' _ t h r hC' this hk
      | pan r =>
        obtain ⟨v, rfl, hr⟩ := hR
        have := hren v r hr
        rw [hidr v r hr] at this
        exact hp v w' G' _ t h r hC' this hk
    | cons b h' =>
      simp only [fl_eq] at hk
      cases out with
      | ret r =>
        obtain ⟨v, rfl, hr⟩ := hR
        exact hn v w' G' _ t _ _ hC' (hren v r hr) hk
      | pan r =>
        obtain ⟨v, rfl, hr⟩ := hR
        exact hp v w' G' _ t _ _ hC' (hren v r hr) hk
  · -- blocks of one's own are handed on
    rename_i i is hids
    simp only [fl_eq] at hk
    generalize reach h 100 (i :: is) [] = ids at hk
    obtain ⟨hchk, hok, hS⟩ := hk
    simp only [chk, Bool.and_eq_true] at hchk
    obtain ⟨⟨h1, h2⟩, h3⟩ := hchk
    have hnd := nodup_of h1
    have hall : ∀ i ∈ ids, i < h.length ∧ h[i]? ≠ some B.no ∧ ∀ x, h[i]? = some x → ∀ j ∈ idB x, j ∈ ids := by
      intro i hi
      have := List.all_eq_true.1 h2 i hi
      simp only [Bool.and_eq_true] at this
      obtain ⟨⟨g1, g2⟩, g3⟩ := this
      have hlt : i < h.length := by
        exact Nat.le_of_ble_eq_true g1
      have hx := List.getElem?_eq_getElem hlt
      rw [get?_eq, hx] at g2 g3
      simp only [Option.getD_some] at g2 g3
      refine ⟨hlt, ?_, ?_⟩
      · rw [hx]; intro e; rw [Option.some.inj e] at g2; cases g2
      · intro x hx' j hj
        rw [hx] at hx'
        cases hx'
        exact has_iff.1 (List.all_eq_true.1 g3 j hj)
    have hvid : ∀ x ∈ vs, ∀ j ∈ id2 x, j ∈ ids := fun x hx j hj => by
      have hm : j ∈ i :: is := by rw [← hids]; exact List.mem_flatMap.2 ⟨x, hx, hj⟩
      exact has_iff.1 (List.all_eq_true.1 h3 j hm)
    obtain ⟨hP, _⟩ := hC.ok.hr.part hnd (fun i hi => (hall i hi).1) (fun i hi => (hall i hi).2.2)
    have hρl := hC.ok.hr.len
    have hc := hS G w _ as.toList hP (by simpa using hl) (fun k x hx => by
      rw [List.getElem?_map] at hx
      cases hx0 : vs[k]? with
      | none => rw [hx0] at hx; cases hx
      | some x0 =>
        rw [hx0] at hx; cases hx
        rw [hget]
        refine (hv k x0 hx0).ren (fun j hj => ?_)
        have hjm := hvid x0 (List.mem_of_getElem? hx0) j hj
        have hjl := (hall j hjm).1
        rw [List.getElem?_map, pos_get hjm, Option.map_some, List.getElem?_eq_getElem (by omega)]; rfl)
    rw [Array.toArray_toList] at hc
    refine upon hok hc ?_
    rintro e w' ⟨G', ρ', h', out, hO, hR, hk⟩
    simp only [kils_eq] at hk
    obtain ⟨hC', hren⟩ := hC.back hnd (fun i hi => (hall i hi).1) (fun i hi => (hall i hi).2.1) (fun i hi => (hall i hi).2.2) hO
    cases out with
    | ret r =>
      obtain ⟨v, rfl, hr⟩ := hR
      exact hn v w' G' _ _ _ _ hC' (hren v r hr) hk
    | pan r =>
      obtain ⟨v, rfl, hr⟩ := hR
      exact hp v w' G' _ _ _ _ hC' (hren v r hr) hk

theorem args_ok (hC : Conc E n G ρ t h a w) : ∀ (xs : List Operand) (ts : List TypeId) (os : List O), args P xs ts = some os → os.length = xs.length ∧ ∀ (i : Nat) (x : O), os[i]? = some x → Rep2 G w ρ ((xs.map a.eval).getD i undef) (gv t x)
  | [], ts, os, h => by cases ts <;> (simp only [args] at h; cases h; simp)
  | x :: xs, [], os, h => by
    simp only [args, Option.bind_eq_bind, Option.bind_eq_some_iff] at h
    obtain ⟨y, hy, ys, hys, he⟩ := h
    cases he
    obtain ⟨g1, g2⟩ := args_ok hC xs [] ys hys
    refine ⟨by simp [g1], fun i z hz => ?_⟩
    cases i with
    | zero => simp at hz; subst hz; simpa using opd_ok hC hy
    | succ i => simpa using g2 i z (by simpa using hz)
  | x :: xs, ty :: ts, os, h => by
    simp only [args, Option.bind_eq_bind, Option.bind_eq_some_iff] at h
    obtain ⟨y, hy, ys, hys, he⟩ := h
    cases he
    obtain ⟨g1, g2⟩ := args_ok hC xs ts ys hys
    refine ⟨by simp [g1], fun i z hz => ?_⟩
    cases i with
    | zero => simp at hz; subst hz; simpa using opd_ok hC hy
    | succ i => simpa using g2 i z (by simpa using hz)

theorem callFunc_ok {f : Nat} {as : Array Value} (h : callOk P f = true) : (callFunc f as).run P w = .ok (.enter f as) w := by
  unfold callOk at h
  unfold callFunc
  cases hf : P.funcs[f]? with
  | none => rw [hf] at h; cases h
  | some fn =>
    rw [hf] at h
    simp only [Bool.and_eq_true, bne_iff_ne, ne_eq] at h
    have hb : ¬ fn.body = none := fun e => by rw [e] at h; cases h.2
    simp [hf, h.1, hb]

/-- All that is there is lent. -/
def all (w : World) (b : Nat) : Prop := b < w.heap.size

theorem borD_ok {v : Value} {x : V} {d : D} (hv : RepC G w ρ v x) (hd : borD x = some d) : RepD G w v d := by
  cases hv with
  | k hv =>
    cases hv <;> simp only [borD, reduceCtorEq, Option.some.injEq] at hd
    · subst hd; assumption
    · subst hd; assumption
    · subst hd; exact .slz _
  | fc f u cs caps h0 h1 h2 =>
    cases caps with
    | cons => simp [borD] at hd
    | nil =>
      simp only [borD, Option.some.injEq] at hd
      subst hd
      rw [fcv_nil h0 (by simpa using h1)]
      exact .fn f

theorem mapM_get1 {α β : Type} {f : α → Option β} : ∀ {l : List α} {r : List β}, l.mapM f = some r → r.length = l.length ∧ ∀ (k : Nat) (y : β), r[k]? = some y → ∃ x, l[k]? = some x ∧ f x = some y := by
  intro l
  induction l with
  | nil => intro r h; simp at h; subst h; simp
  | cons x l ih =>
    intro r h
    simp only [List.mapM_cons, Option.bind_eq_bind, Option.bind_eq_some_iff, Option.pure_def, Option.some.injEq] at h
    obtain ⟨y, hy, ys, hys, rfl⟩ := h
    obtain ⟨h1, h2⟩ := ih hys
    refine ⟨by simp [h1], fun k y' hy' => ?_⟩
    cases k with
    | zero => simp at hy'; subst hy'; exact ⟨x, rfl, hy⟩
    | succ k => simpa using h2 k y' (by simpa using hy')

theorem borc_ok (hr : HR G w ρ h) {v : Value} {x : V} (hv : RepK G w ρ v x) : RepK (all w) w [] v (borc h x) := by
  have hG : ∀ b, G b → all w b := hr.gl
  cases hv with
  | un => exact .un _
  | ud => exact .ud
  | d h => exact .d (h.mono hG (fun _ _ => rfl))
  | e b o off row U h1 h2 h3 => exact .e b o off row U (hG b h1) h2 fun j x hx => (h3 j x hx).mono hG (fun _ _ => rfl)
  | cl a n z rows h => exact .cl a n z rows (h.mono hG (fun _ _ => rfl))
  | nl z => exact .nl z
  | q => exact .un _
  | mp => exact .un _
  | ov => exact .un _
  | os id a n c hρ =>
    simp only [borc, get?_eq]
    split
    · rename_i z rs hx
      have hB := hr.rep id _ _ hρ hx
      refine .d (hB.data.mono (fun b hb => ?_) (fun _ _ => rfl))
      rcases hb with hb | hb
      · exact hG b hb
      · exact hr.lt hρ hx (by simp) hb
    · exact .un _
  | p id off b hρ =>
    simp only [borc, get?_eq]
    split
    · rename_i cs hx
      split
      · rename_i ds hds
        obtain ⟨b', arr, ty, hb, h1, h2, h3⟩ := hr.rep id _ _ hρ hx
        simp only [Value.pointer.injEq, Option.some.injEq, Addr.mk.injEq, and_true] at hb
        obtain ⟨rfl, _⟩ := hb
        obtain ⟨m1, m2⟩ := mapM_get1 hds
        have := RepK.e (G := all w) (w := w) (ρ := []) b 0 off ds (fun j => arr.getD j undef) (Array.getElem?_eq_some_iff.1 h1).1 (fun j x hj => by
          have hl : j < arr.size := by rw [h2, ← m1]; exact (List.getElem?_eq_some_iff.1 hj).1
          rw [cell_arr h1, Nat.zero_add, Array.getD_eq_getD_getElem?, Array.getElem?_eq_getElem hl]; rfl) (fun j x hj => by
          obtain ⟨y, hy, hd⟩ := m2 j x hj
          exact (borD_ok (h3 j y hy) hd).mono hG (fun _ _ => rfl))
        simpa using this
      · exact .un _
    · exact .un _
theorem bor0_ok (hr : HR G w ρ h) {v : Value} {x : V} (hv : RepC G w ρ v x) : RepC (all w) w [] v (bor0 h x) := by
  cases hv with
  | k hv =>
    have e : bor0 h x = borc h x := by cases hv <;> rfl
    rw [e]
    exact .k (borc_ok hr hv)
  | fc f u cs caps h0 h1 h2 =>
    refine .fc f _ cs _ h0 (by simpa using h1) (fun i x hx => ?_)
    rw [List.getElem?_map] at hx
    cases hc : caps[i]? with
    | none => rw [hc] at hx; cases hx
    | some x0 => rw [hc] at hx; cases hx; exact borc_ok hr (h2 i x0 hc)
theorem bor2_ok (hr : HR G w ρ h) {v : Value} {x : V} (hv : Rep2 G w ρ v x) : Rep2 (all w) w [] v (bor2 h x) := by
  cases hv with
  | tu => exact .k (.un _)
  | o hv => cases hv with
    | c hv =>
      have e : bor2 h x = bor0 h x := by
        cases hv with
        | k hv => cases hv <;> rfl
        | fc => rfl
      rw [e]
      exact .c (bor0_ok hr hv)
    | ag cs vs h1 h2 =>
      refine .o (.ag cs _ (by simpa using h1) (fun i x hx => ?_))
      rw [List.getElem?_map] at hx
      cases hc : vs[i]? with
      | none => rw [hc] at hx; cases hx
      | some x0 => rw [hc] at hx; cases hx; exact bor0_ok hr (h2 i x0 hc)

theorem scd_ok {G' : Nat → Prop} {w' : World} {v : Value} {d : D} (hv : RepD G w v d) (hs : scd d = true) : RepD G' w' v d := by
  cases hv <;> simp only [scd, Bool.false_eq_true] at hs
  · exact .int _ _
  · exact .bool _
  · exact .str _ ‹_›
  · exact .np
  · exact .nf
  · exact .ni
  · exact .nm
  · exact .fn _
theorem scl_ok {G' : Nat → Prop} {ρ' : List Value} {v : Value} {x : V} (hv : Rep2 G w ρ v x) (hs : scl x = true) : Rep1 G' w ρ' v x := by
  cases x <;> simp only [scl, Bool.false_eq_true] at hs
  exact .c (.k (.d (scd_ok hv.toD hs)))
theorem scl2_ok {G' : Nat → Prop} {ρ' : List Value} {v : Value} {x : V} (hv : Rep2 G w ρ v x) (hs : scl2 x = true) : Rep2 G' w ρ' v x := by
  by_cases hx : ∃ c, x = .tu c
  · obtain ⟨c, rfl⟩ := hx
    obtain ⟨cs, rfl, h1, h2⟩ := hv.tul
    exact .tu cs c h1 fun i x hi => scl_ok (.o (h2 i x hi)) (List.all_eq_true.1 hs x (List.mem_of_getElem? hi))
  · have : scl2 x = scl x := by cases x <;> first | rfl | exact absurd ⟨_, rfl⟩ hx
    exact .o (scl_ok hv (this ▸ hs))

theorem gcall_ok (hC : Conc E n G ρ t h a w) (hn : Nxt E n a o K nxt) (hp : Pnc E n a KP Q) {f : Nat} {as : Array Value} {vs : List V} (hrun : callOk P f = true → (execOp a.eval o).run P w = .ok (.enter f as) w) (hl : as.size = vs.length)
    (hv : ∀ (i : Nat) (x : V), vs[i]? = some x → Rep2 G w ρ (as.getD i undef) x) (hk : gcall (Sat P) f vs t h K KP) : o.wp P a w nxt Q := by
  unfold gcall at hk
  split at hk
  · exact call_ok hC hn hp hrun hl hv hk
  · rcases hk with ⟨r, ⟨hok, hS⟩, hs, hk⟩ | hk
    · have hr0 : HR (all w) w [] [] := ⟨rfl, by simp, by simp, fun _ h => h, (fun b _ ho => by obtain ⟨_, _, _, h1, _⟩ := ho; simp at h1), hC.ok.hr.glb.mono (fun b hb => hC.ok.hr.gl b hb) (fun _ _ => rfl)⟩
      have hget : ∀ i, as.toList.getD i undef = as.getD i undef := by
        intro i; rw [List.getD_eq_getElem?_getD, Array.getElem?_toList, Array.getD_eq_getD_getElem?]
      have hc := hS (all w) w [] as.toList hr0 (by simpa using hl) (fun i x hx => by
        rw [hget]
        rw [List.getElem?_map] at hx
        cases hc : vs[i]? with
        | none => rw [hc] at hx; cases hx
        | some x0 => rw [hc] at hx; cases hx; exact bor2_ok hC.ok.hr (hv i x0 hc))
      rw [Array.toArray_toList] at hc
      unfold Oper.wp
      rw [hrun hok, Oper.upon_enter]
      refine hc.mono fun e w' hr => ?_
      obtain ⟨G', ρ', h', out, hO, hR, rfl, rfl⟩ := hr
      obtain ⟨v, rfl, hv'⟩ := hR
      have hg : Grw w w' := ⟨hO.size, fun b hb => hO.frame b hb (fun ho => by obtain ⟨_, _, _, h1, _⟩ := ho; simp at h1), hO.os, hO.tape, hO.out⟩
      exact hn v w' G ρ t h r (hC.grow hg (fun _ h => h) (fun _ h => .inl h)) (scl2_ok hv' hs) hk
    · rw [fl_eq] at hk
      obtain ⟨G', t', h', vs', k1, k2, k3, k4⟩ := give_ok _ G t h _ (fun i => as.getD i undef) hC hv hk
      exact call_ok k1 hn hp hrun (by rw [k2]; exact hl) k3 k4

variable (ow : Nat → Bool)

theorem op_cf (hC : Conc E n G ρ t h a w) (hn : Nxt E n a o K nxt) (hp : Pnc E n a KP Q) {f : Nat} {c : Call} {oa : List O} (ho : o.op = .call c) (hcf : c.callee = .value (.func f)) (ha : args P c.args.toList c.argTypes.toList = some oa)
    (hk : opx (Sat P) ow (.cf f oa) t h K KP) : o.wp P a w nxt Q := by
  obtain ⟨g1, g2⟩ := args_ok hC _ _ _ ha
  have hrun : callOk P f = true → (execOp a.eval o).run P w = .ok (.enter f (c.args.map a.eval)) w := fun hok => by
    have := callFunc_ok (P := P) (w := w) (as := c.args.map a.eval) hok
    simp [execOp, ho, resolve, hcf, Act.eval, Deferred.ofValue, invoke, this]
  have hU : ∀ (i : Nat) (x : V), (oa.map fun x => clean1 (gv t x))[i]? = some x → Rep2 G w ρ ((c.args.map a.eval).getD i undef) x := by
    intro i x hx
    rw [List.getElem?_map] at hx
    cases hc : oa[i]? with
    | none => rw [hc] at hx; cases hx
    | some y =>
      rw [hc] at hx; cases hx
      have := g2 i y hc
      rw [List.getD_eq_getElem?_getD, List.getElem?_map, Array.getElem?_toList] at this
      rw [Array.getD_eq_getD_getElem?, Array.getElem?_map]
      exact clean1_ok this
  simp only [opx, fl_eq] at hk
  cases how : ow f <;> rw [how] at hk
  · simp only [cond_false] at hk
    exact gcall_ok hC hn hp hrun (by simp [g1]) hU hk
  · simp only [cond_true] at hk
    exact call_ok hC hn hp hrun (by simp [g1]) hU hk

theorem op_cc (hC : Conc E n G ρ t h a w) (hn : Nxt E n a o K nxt) (hp : Pnc E n a KP Q) {c : Call} {x : Operand} {ox : O} {oa : List O} {t1 : TypeId} (ho : o.op = .call c) (hcf : c.callee = .value x) (hx : opd P t1 x = some ox) (ha : args P c.args.toList c.argTypes.toList = some oa)
    (hk : opx (Sat P) ow (.cc ox oa) t h K KP) : o.wp P a w nxt Q := by
  obtain ⟨g1, g2⟩ := args_ok hC _ _ _ ha
  have hvx := opd_ok hC hx
  have hA : ∀ (i : Nat) (x : V), (oa.map fun x => clean1 (gv t x))[i]? = some x → Rep2 G w ρ ((c.args.map a.eval).getD i undef) x := by
    intro i x hx
    rw [List.getElem?_map] at hx
    cases hc : oa[i]? with
    | none => rw [hc] at hx; cases hx
    | some y =>
      rw [hc] at hx; cases hx
      have := g2 i y hc
      rw [List.getD_eq_getElem?_getD, List.getElem?_map, Array.getElem?_toList] at this
      rw [Array.getD_eq_getD_getElem?, Array.getElem?_map]
      exact clean1_ok this
  simp only [opx, fl_eq] at hk
  split at hk
  · rename_i f caps hg
    rw [hg] at hvx
    obtain ⟨cs, hv0, hcl, hcr⟩ := hvx.fcl
    cases hb : Nat.blt f 1000000 <;> rw [hb] at hk
    · simp only [cond_false] at hk
      cases hb2 : Nat.blt f 2000000 <;> rw [hb2] at hk
      · exact hk.elim
      simp only [cond_true] at hk
      have hv := fcv_bm hv0 (fun hl => by rw [← Nat.blt_eq, hb] at hl; cases hl) (by simpa [Nat.blt_eq] using hb2)
      have hrun : callOk P (f - 1000000) = true → (execOp a.eval o).run P w = .ok (.enter (f - 1000000) (cs ++ c.args.map a.eval)) w := fun hok => by
        have := callFunc_ok (P := P) (w := w) (as := cs ++ c.args.map a.eval) hok
        simp [execOp, ho, resolve, hcf, hv, Deferred.ofValue, invoke, this]
      have hU : ∀ (i : Nat) (x : V), (caps ++ (oa.map fun x => clean1 (gv t x)))[i]? = some x → Rep2 G w ρ ((cs ++ c.args.map a.eval).getD i undef) x := by
        intro i x hx
        by_cases hi : i < caps.length
        · rw [List.getElem?_append_left hi] at hx
          have := hcr i x hx
          rw [Array.getD_eq_getD_getElem?] at this ⊢
          rw [Array.getElem?_append_left (by omega)]
          exact .k this
        · rw [List.getElem?_append_right (by omega)] at hx
          have := hA _ x hx
          rw [Array.getD_eq_getD_getElem?] at this ⊢
          rw [Array.getElem?_append_right (by omega), hcl]
          exact this
      exact gcall_ok hC hn hp hrun (by simp [g1, hcl]) hU hk
    simp only [cond_true] at hk
    have hv := fcv_fn hv0 (by simpa [Nat.blt_eq] using hb)
    have hrun : callOk P f = true → (execOp a.eval o).run P w = .ok (.enter f (c.args.map a.eval ++ cs)) w := fun hok => by
      have := callFunc_ok (P := P) (w := w) (as := c.args.map a.eval ++ cs) hok
      simp [execOp, ho, resolve, hcf, hv, Deferred.ofValue, invoke, this]
    have hU : ∀ (i : Nat) (x : V), ((oa.map fun x => clean1 (gv t x)) ++ caps)[i]? = some x → Rep2 G w ρ ((c.args.map a.eval ++ cs).getD i undef) x := by
      intro i x hx
      have hsz : (c.args.map a.eval).size = (oa.map fun x => clean1 (gv t x)).length := by simp [g1]
      by_cases hi : i < (oa.map fun x => clean1 (gv t x)).length
      · rw [List.getElem?_append_left hi] at hx
        have := hA i x hx
        rw [Array.getD_eq_getD_getElem?] at this ⊢
        rw [Array.getElem?_append_left (by omega)]
        exact this
      · rw [List.getElem?_append_right (by omega)] at hx
        have := hcr _ x hx
        rw [Array.getD_eq_getD_getElem?] at this ⊢
        rw [Array.getElem?_append_right (by omega), hsz]
        exact .k this
    exact gcall_ok hC hn hp hrun (by simp [g1, hcl]) hU hk
  · rename_i f hg
    rw [hg] at hvx
    have hv := fn_val hvx.toD
    have hrun : callOk P f = true → (execOp a.eval o).run P w = .ok (.enter f (c.args.map a.eval)) w := fun hok => by
      have := callFunc_ok (P := P) (w := w) (as := c.args.map a.eval) hok
      simp [execOp, ho, resolve, hcf, hv, Deferred.ofValue, invoke, this]
    exact gcall_ok hC hn hp hrun (by simp [g1]) hA hk
  · exact hk.elim
end
end Go.Vx
