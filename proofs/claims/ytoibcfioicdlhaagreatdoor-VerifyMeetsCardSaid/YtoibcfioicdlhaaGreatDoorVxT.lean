/- Code is walked. Conditions: none; lemmas on the definitions before. -/
import Derived.Test.YtoibcfioicdlhaaGreatDoorVxS
namespace Go.Vx
section
variable {P : Program} {E : Ent} {n : Nat} {G : Nat → Prop} {ρ : List Value} {t : T} {h : H} {a : Act} {w : World} (ow : Nat → Bool)

theorem puts_take {is : List I} {vs : List V} {t : T} {j : Nat} (hj : j ≤ vs.length) (hi : j ≤ is.length) : agree is vs (· < j) t (puts (is.take j) (vs.take j) t) := by
  intro s
  rcases puts_agree (is.take j) (vs.take j) t (by simp; omega) s with ⟨k, i, h1, h2, h3⟩ | ⟨h1, h2⟩
  · have hk : k < j := by
      have := (List.getElem?_eq_some_iff.1 h1).1
      simp at this
      omega
    rw [List.getElem?_take, if_pos hk] at h1 h3
    exact .inl ⟨k, i, hk, h1, h2, h3⟩
  · refine .inr ⟨fun k i hk hki => ?_, h2⟩
    exact h1 k i (by rw [List.getElem?_take, if_pos hk]; exact hki)

theorem cutAt_le (bs : List (List Nat)) : cutAt bs ≤ bs.length := by
  unfold cutAt
  cases hf : (List.range bs.length).find? fun m => fullFrom m (bs.drop m) with
  | none => exact Nat.le_refl _
  | some m =>
    have := List.mem_of_find?_eq_some hf
    rw [List.mem_range] at this
    exact Nat.le_of_lt this

theorem gs_mem : ∀ (t : T) (s : Nat), gs t s = .un ∨ ∃ p ∈ t, p.2 = gs t s := by
  intro t
  induction t with
  | nil => intro s; exact .inl rfl
  | cons p t ih =>
    intro s
    rw [gs_cons]
    cases hb : Nat.beq p.1 s
    · rw [cond_false]
      rcases ih s with h | ⟨q, h1, h2⟩
      · exact .inl h
      · exact .inr ⟨q, by simp [h1], h2⟩
    · exact .inr ⟨p, by simp, rfl⟩

theorem rgd_ok (hm : P.follows .mixedOrders = true) (hE : E.ρ.length = E.h.length) {id : Nat} {ops : Array Oper} {x : C} (hx : comp P n (.region id ops true) = some x) {K : Ex → T → H → Prop} (hC : Conc E n G ρ t h a w)
    (hk : ∀ n0, wx (Sat P) ow n0 x t h K) : (Code.region id ops true).wp P (QK E n K) a w := by
  simp only [comp, Option.bind_eq_bind, Option.bind_eq_some_iff] at hx
  obtain ⟨is, his, hx⟩ := hx
  split at hx
  · rename_i hchk
    cases hx
    have hk := hk 0
    simp only [wx_rgd] at hk
    obtain ⟨os, hk⟩ := fro_some hk
    obtain ⟨G, t, h, vs, hC, _, _, hk⟩ := give_ok os.1 G t h [] (fun _ => undef) hC (by simp) hk
    generalize hbs : befs (ops.toList.map deps) = bs at *
    generalize hmm : cutAt bs = m at *
    simp only [Bool.and_eq_true] at hchk
    obtain ⟨⟨c1, c2⟩, c3⟩ := hchk
    obtain ⟨il, ig⟩ := mapM_get his
    obtain ⟨bl, bg⟩ := befs_ok (ops.toList.map deps)
    rw [hbs] at bl bg
    have hbl : bs.length = ops.size := by simpa using bl
    have hil : is.length = ops.size := by simpa using il
    have hml : m ≤ ops.size := by rw [← hmm, ← hbl]; exact cutAt_le bs
    have hqg : ∀ (j : Nat) (x : I) (b : List Nat), j < m → is[j]? = some x → bs[j]? = some b → ((is.zip bs).take m)[j]? = some (x, b) := fun j x b hj hx hb => by
      rw [List.getElem?_take, if_pos hj, List.getElem?_zip_eq_some]
      exact ⟨hx, hb⟩
    have hql : ((is.zip bs).take m).length = m := by simp; omega
    have hq1 : ∀ j, j ≤ m → (((is.zip bs).take m).take j).map (·.1) = is.take j := fun j hj => by
      rw [List.take_take, Nat.min_eq_left hj, List.map_take]
      congr 1
      exact List.map_fst_zip (by omega)
    simp only [fl_eq] at hk
    generalize cal ((is.zip bs).take m) + os.2 = kk at hk
    have hlo : E.ρ.length ≤ h.length := by rw [hE]; exact hC.ok.hl
    obtain ⟨ρ, hC⟩ := hC.room kk
    generalize hh1 : h ++ List.replicate kk B.nw = h1 at *
    obtain ⟨rs, tR, hR, hkR, hRef⟩ := rq_ref ow _ _ _ _ hk
    have hrl := hRef.r1
    have htR := hRef.r2
    have hvq := hRef.r3
    rw [hql] at hrl
    have hvl : (rs.map (·.v)).length = m := by simpa using hrl
    have hlts : ∀ (k : Nat), k ≤ m → (∀ (j : Nat) (r : R), j < k → rs[j]? = some r → (r.ws.map (·.1)).Nodup ∧ ∀ w ∈ r.ws, w.1 < h1.length) ∧ ((rs.take k).foldl wr h1).length = h1.length := by
      intro k
      induction k with
      | zero => intro _; exact ⟨fun j r hj => by omega, by simp⟩
      | succ k ih =>
        intro hk
        obtain ⟨i1, i2⟩ := ih (by omega)
        have hkb : k < bs.length := by omega
        obtain ⟨r, v1, v2⟩ := hvq k _ (hqg k _ _ (by omega) (List.getElem?_eq_getElem (by omega)) (List.getElem?_eq_getElem hkb))
        have hw := rok.ws ow v2
        rw [i2] at hw
        refine ⟨fun j r' hj hr' => ?_, ?_⟩
        · rcases Nat.lt_or_ge j k with h0 | h0
          · exact i1 j r' h0 hr'
          · obtain rfl : j = k := by omega
            rw [v1] at hr'; cases hr'
            exact hw
        · rw [List.take_add_one, v1, List.foldl_append]
          simp only [Option.toList, List.foldl_cons, List.foldl_nil]
          rw [(wr_get hw.1 (by rw [i2]; exact hw.2)).1]
          exact i2
    have D : Drw ow P n ops is bs m h.length rs t h1 := by
      refine ⟨hil, hml, fun j o ho => ?_, fun j o ho => ?_, fun j b hb k hk => ?_, fun j b hj hb i hi => ?_, fun i j x y bi bj hi hj hne hx hy hbi hbj => ?_, fun j x hj hx => ?_, hrl, fun j k r r' b hj hk hb hlt hcf => ?_, fun j r hj id hid => ?_⟩
      · have hjl : j < is.length := by rw [hil]; exact (Array.getElem?_eq_some_iff.1 ho).1
        exact ⟨is[j], List.getElem?_eq_getElem hjl, ig j o _ (by simpa using ho) (List.getElem?_eq_getElem hjl)⟩
      · exact bg j (deps o) (by rw [List.getElem?_map]; simp [ho])
      · have := okB_ok bs 0 c1 j b hb k hk; omega
      · exact full_ok _ m c3 (j - m) b (by rw [List.getElem?_drop]; rw [← hb]; congr 1; omega) i (by omega)
      · exact okD_ok c2 (hqg i x bi hi hx hbi) (hqg j y bj hj hy hbj) hne
      · have hjb : j < bs.length := by omega
        obtain ⟨v, v1, v2⟩ := hvq j _ (hqg j x _ hj hx (List.getElem?_eq_getElem hjb))
        rw [hq1 j (by omega), List.map_take] at v2
        exact ⟨v, _, _, v1, v2, puts_take (by omega) (by omega), hagr_fold (hlts j (by omega)).1⟩
      · have hkm : k < m := by rw [← hrl]; exact (List.getElem?_eq_some_iff.1 hk).1
        have := hRef.r6 j k r r' _ hj hk (hqg k _ b hkm (List.getElem?_eq_getElem (by omega)) hb) hlt hcf
        simpa using this
      · obtain ⟨k1, k2, _, k4⟩ := hRef.r7 j r hj id hid
        refine ⟨fun s hs => ?_, k2, fun k r' x hlt hk hx => ?_⟩
        · rcases gs_mem t s with e | ⟨p, hp, e⟩
          · rw [e] at hs; cases hs
          · rw [← e] at hs; exact k1 p hp hs
        · have hkm : k < m := by rw [← hrl]; exact (List.getElem?_eq_some_iff.1 hk).1
          exact k4 k r' _ hlt hk (hqg k x _ hkm hx (List.getElem?_eq_getElem (by omega)))
    have hA : agree is (rs.map (·.v)) (· < m) t tR := by
      have h1 := puts_take (is := is) (vs := rs.map (·.v)) (t := t) (j := m) (by omega) (by omega)
      have h2 := hq1 m (Nat.le_refl _)
      rw [List.take_take, Nat.min_self] at h2
      intro s
      have h3 := htR s
      rw [h2] at h3
      have h4 : (rs.map (·.v)).take m = rs.map (·.v) := List.take_of_length_le (by omega)
      rw [h4] at h1
      rw [h3]
      exact h1 s
    have hH : hagr rs (· < m) h1 hR := by
      have := hagr_fold (hlts m (Nat.le_refl _)).1
      rw [List.take_of_length_le (by omega)] at this
      rw [hRef.r4]
      exact this
    refine wp_region_any hm (drawn_ok ow hlo hE D hkR hA hH _ _ _ _ ?_ ⟨by simp, fun j b hj => ?_, .inl ⟨fun j hj => ?_, G, ρ, t, h1, hC.grow (Grw.draw w _) (fun _ h => h) (fun _ h => .inl h), fun s => .inr ⟨fun k i hk => ?_, rfl⟩, rfl, fun i => .inr ⟨fun k r w hk => ?_, rfl⟩⟩⟩)
    · rw [Array.toList_replicate]
      exact Nat.le_trans List.count_le_length (by simp)
    · have := getD_lt hj
      simp at this
      simp [this] at hj
    · have := getD_lt hj
      simp at this
      simp [this] at hj
    · have := getD_lt hk
      simp at this
      simp [this] at hk
    · have := getD_lt hk
      simp at this
      simp [this] at hk
  · cases hx; exact (hk 0).elim

theorem wkb_self (v : V) : wkb v v := by
  cases v <;> rfl
theorem wkb_or {x y : V} (h : wkb x y) : x = y ∨ ∃ z, x = .nl z ∧ y = .d (.sl z []) := by
  unfold wkb at h
  split at h
  · subst h; exact .inr ⟨_, rfl, rfl⟩
  · exact .inl h
theorem RepC.wk {v : Value} {x y : V} (hv : RepC G w ρ v x) (h : wkb x y) : RepC G w ρ v y := by
  rcases wkb_or h with rfl | ⟨z, rfl, rfl⟩
  · exact hv
  · cases hv with
    | k h => cases h with
      | nl => exact .k (.d (.slz z))
theorem Rep2.wk {v : Value} {x y : V} (hv : Rep2 G w ρ v x) (h : wkb x y) : Rep2 G w ρ v y := by
  rcases wkb_or h with rfl | ⟨z, rfl, rfl⟩
  · exact hv
  · cases hv with
    | o h => cases h with
      | c h => exact .o (.c (h.wk (by rfl)))
theorem wkL_get : ∀ {a b : List V}, wkL a b → a.length = b.length ∧ ∀ (i : Nat) (y : V), b[i]? = some y → ∃ x, a[i]? = some x ∧ wkb x y
  | [], [], _ => ⟨rfl, by simp⟩
  | _ :: _, [], h => h.elim
  | [], _ :: _, h => h.elim
  | a :: r, b :: s, h => by
    obtain ⟨h1, h2⟩ := h
    obtain ⟨g1, g2⟩ := wkL_get h2
    refine ⟨by simp [g1], fun i y hy => ?_⟩
    cases i with
    | zero => simp at hy; subst hy; exact ⟨a, rfl, h1⟩
    | succ i => simpa using g2 i y (by simpa using hy)
theorem wkB_or {x y : B} (h : wkB x y) : x = y ∨ ∃ a b, x = .cells a ∧ y = .cells b ∧ wkL a b := by
  unfold wkB at h
  split at h
  · rcases h with rfl | h
    · exact .inl rfl
    · exact .inr ⟨_, _, rfl, rfl, h⟩
  · exact .inl h
theorem wkB_no {x y : B} (h : wkB x y) (hy : y ≠ .no) : x ≠ .no := by
  rcases wkB_or h with rfl | ⟨a, b, rfl, rfl, _⟩
  · exact hy
  · simp
theorem RepB.wk {hd : Value} {x y : B} (hv : RepB G w ρ hd x) (h : wkB x y) : RepB G w ρ hd y := by
  rcases wkB_or h with rfl | ⟨a, b, rfl, rfl, hl⟩
  · exact hv
  · obtain ⟨bb, arr, ty, h1, h2, h3, h4⟩ := hv
    obtain ⟨g1, g2⟩ := wkL_get hl
    refine ⟨bb, arr, ty, h1, h2, h3.trans g1, fun i y hy => ?_⟩
    obtain ⟨x, hx, hw⟩ := g2 i y hy
    exact (h4 i x hx).wk hw

theorem gs_sub : ∀ {t s : T}, subs t s → ∀ i, gs s i = .un ∨ (wkb (gs t i) (gs s i) ∧ ∃ p ∈ s, p.2 = gs s i) := by
  intro t s
  induction s with
  | nil => intro _ i; exact .inl rfl
  | cons p s ih =>
    intro hs i
    obtain ⟨j, v⟩ := p
    simp only [subs] at hs
    simp only [gs_cons]
    by_cases e : j = i
    · subst e
      simp only [Nat.beq_refl, cond_true]
      exact .inr ⟨hs.1, (j, v), by simp, rfl⟩
    · rw [nbeq e]
      rcases ih hs.2 i with h1 | ⟨h1, p, h2, h3⟩
      · exact .inl h1
      · exact .inr ⟨h1, p, by simp [h2], h3⟩

theorem subh_get : ∀ {h s : H}, subh h s → s.length ≤ h.length ∧ ∀ (i : Nat) (x : B), s[i]? = some x → x = .no ∨ ∃ y, h[i]? = some y ∧ wkB y x := by
  intro h
  induction h with
  | nil =>
    intro s hs
    cases s with
    | nil => simp
    | cons => exact hs.elim
  | cons b h ih =>
    intro s hs
    cases s with
    | nil => simp
    | cons c s =>
      have hc : subh h s ∧ (c = .no ∨ wkB b c) := by
        cases c with
        | no => exact ⟨hs, .inl rfl⟩
        | _ => exact ⟨hs.2, .inr hs.1⟩
      obtain ⟨h1, h2⟩ := ih hc.1
      refine ⟨by simp; omega, fun i x hi => ?_⟩
      cases i with
      | zero =>
        simp at hi
        subst hi
        rcases hc.2 with h3 | h3
        · exact .inl h3
        · exact .inr ⟨b, by simp, h3⟩
      | succ i => simpa using h2 i x (by simpa using hi)

/-- Less is known. -/
theorem Conc.less (hC : Conc E n G ρ t h a w) (hE : E.ρ.length = E.h.length) {s1 : T} {s2 : H} (ht : subs t s1) (hh : subh h s2) (hl : lts E.h.length s1 s2 = true) : ∃ ρ', Conc E n G ρ' s1 s2 a w := by
  obtain ⟨h1, h2⟩ := subh_get hh
  simp only [lts, Bool.and_eq_true, List.all_eq_true] at hl
  obtain ⟨⟨l1, l2⟩, l3⟩ := hl
  have l1 := Nat.le_of_ble_eq_true l1
  have hr := hC.ok.hr
  have hρl := hr.len
  have hg : ∀ (i : Nat) (v : Value), (ρ.take s2.length)[i]? = some v → ρ[i]? = some v := fun i v hi => by
    rw [List.getElem?_take] at hi
    split at hi
    · exact hi
    · cases hi
  have hg' : ∀ i, i < s2.length → (ρ.take s2.length)[i]? = ρ[i]? := fun i hi => by rw [List.getElem?_take, if_pos hi]
  have ho : ∀ b, own (ρ.take s2.length) s2 b → own ρ h b := by
    rintro b ⟨i, v, x, g1, g2, g3, g4⟩
    obtain ⟨y, y1, y2⟩ := (h2 i x g2).resolve_left g3
    exact ⟨i, v, y, hg i v g1, y1, wkB_no y2 g3, g4⟩
  refine ⟨ρ.take s2.length, ⟨⟨by simp; omega, fun i v x g1 g2 => ?_, fun i i' v v' x x' b g1 g2 g3 g4 g5 g6 g7 g8 => ?_, hr.gl, fun b hb hob => hr.gd b hb (ho b hob), hr.glb⟩, hC.ok.gm, hC.ok.go, fun b hb => hC.ok.oo b (ho b hb), hC.ok.frame, hC.ok.size, hC.ok.os, hC.ok.tape,
    hC.ok.out, fun i v g1 g2 => ?_, l1⟩, hC.df, hC.sz, fun i => ?_⟩
  · rcases h2 i x g2 with rfl | ⟨y, h3, h4⟩
    · trivial
    · exact ((hr.rep i v y (hg i v g1) h3).wk h4).mono (fun _ h => h) (fun _ _ => rfl) (fun _ _ => rfl) (fun j hj => hg' j ((Nat.blt_eq ..).mp (l3 x (List.mem_of_getElem? g2) j hj)))
  · obtain ⟨y, y1, y2⟩ := (h2 i x g2).resolve_left g3
    obtain ⟨y', y1', y2'⟩ := (h2 i' x' g5).resolve_left g6
    exact hr.dis i i' v v' y y' b (hg i v g1) y1 (wkB_no y2 g3) (hg i' v' g4) y1' (wkB_no y2' g6) g7 g8
  · have := hC.ok.hand i v g1 g2
    rw [hg' i]
    · exact this
    · have := (List.getElem?_eq_some_iff.1 g1).1; omega
  · rcases gs_sub ht i with e | ⟨e, p, p1, p2⟩
    · rw [e]; exact .k (.un _)
    · refine ((hC.tm i).wk e).mono (fun _ h => h) (fun _ _ => rfl) (fun j hj => hg' j ?_)
      have := l2 p p1 j (by rw [p2]; exact hj)
      exact (Nat.blt_eq ..).mp this

theorem wp_loopx {A : Type} {c : Code} {Q : Exit → Act → World → Prop} (I : A → Act → World → Prop) (μ : A → Nat) (x : A) (h₀ : I x a w)
    (round : ∀ x a w, I x a w → c.wp P (Exit.then (fun a' w' => ∃ y, I y a' w' ∧ μ y < μ x) Q) a w) : (Code.loop c).wp P Q a w := by
  intro b k cs
  have key : ∀ (n : Nat) (x : A) (a : Act) (w : World), μ x = n → I x a w →
      ∃ e a' w', Q e a' w' ∧ Arrives P (lone (b.at a (.code c :: .inLoop c :: k)) cs w) b k cs e a' w' := by
    intro n
    induction n using Nat.strongRecOn with
    | _ n ih =>
      intro x a w hn hI
      obtain ⟨e, a₁, w₁, hq, harr⟩ := round x a w hI b (.inLoop c :: k) cs
      cases e with
      | normal =>
        obtain ⟨y, hI₁, hlt⟩ := hq
        obtain ⟨e₂, a₂, w₂, hq₂, harr₂⟩ := ih (μ y) (hn ▸ hlt) y a₁ w₁ rfl hI₁
        exact ⟨e₂, a₂, w₂, hq₂, .of_steps (Steps.trans harr (.one step_inLoop)) harr₂⟩
      | exit id => exact ⟨_, a₁, w₁, hq, .pass (x := .inLoop c) rfl (fun _ _ => .inl (by simp)) harr⟩
      | goto l => exact ⟨_, a₁, w₁, hq, .pass (x := .inLoop c) rfl (fun _ _ => .inl (by simp)) harr⟩
      | ret => exact ⟨_, a₁, w₁, hq, .pass (x := .inLoop c) rfl (fun _ _ => .inl (by simp)) harr⟩
      | panic ch => exact ⟨_, a₁, w₁, hq, .pass (x := .inLoop c) rfl (fun _ _ => .inl (by simp)) harr⟩
      | outgrown => exact ⟨_, a₁, w₁, hq, .pass (x := .inLoop c) rfl (fun _ _ => .inl (by simp)) harr⟩
  obtain ⟨e, a', w', hq, harr⟩ := key _ x a w rfl h₀
  exact ⟨e, a', w', hq, .of_steps (.one step_loop) harr⟩

theorem wx_ok (hm : P.follows .mixedOrders = true) (hE : E.ρ.length = E.h.length) : ∀ (c : Code) (x : C), comp P n c = some x → ∀ (G : Nat → Prop) (ρ : List Value) (t : T) (h : H) (a : Act) (w : World) (K : Ex → T → H → Prop), Conc E n G ρ t h a w →
    wx (Sat P) ow E.h.length x t h K → c.wp P (QK E n K) a w := by
  intro c
  induction c with
  | skip =>
    intro x hx G ρ t h a w K hC hk
    cases hx
    exact wp_skip ⟨G, ρ, t, h, hC, hk⟩
  | region id ops draw =>
    intro x hx G ρ t h a w K hC hk
    cases draw with
    | false =>
      simp only [comp, Option.map_eq_some_iff] at hx
      obtain ⟨is, his, rfl⟩ := hx
      exact wp_region_list (reg_ok ow _ _ his G ρ t h a w hC hk)
    | true =>
      refine rgd_ok ow hm hE hx hC fun n0 => ?_
      simp only [comp, Option.bind_eq_bind, Option.bind_eq_some_iff] at hx
      obtain ⟨is, his, hx⟩ := hx
      split at hx
      · cases hx; exact hk
      · cases hx; exact hk.elim
  | seq c d ih1 ih2 =>
    intro x hx G ρ t h a w K hC hk
    simp only [comp, Option.bind_eq_bind, Option.bind_eq_some_iff, Option.some.injEq] at hx
    obtain ⟨y, hy, z, hz, rfl⟩ := hx
    simp only [wx_seq] at hk
    refine wp_seq (wp_mono (ih1 y hy G ρ t h a w _ hC hk) fun e a' w' hq => ?_)
    obtain ⟨G', ρ', t', h', hC', hk'⟩ := hq
    cases e with
    | normal => exact ih2 z hz G' ρ' t' h' a' w' K hC' hk'
    | exit id => exact ⟨G', ρ', t', h', hC', hk'⟩
    | ret => exact ⟨G', ρ', t', h', hC', hk'⟩
    | panic ch => exact ⟨G', ρ', t', h', hC', hk'⟩
    | goto l => exact hk'.elim
    | outgrown => exact hk'.elim
  | cond c x y ih1 ih2 =>
    intro z hz G ρ t h a w K hC hk
    simp only [comp, Option.bind_eq_bind, Option.bind_eq_some_iff, Option.some.injEq] at hz
    obtain ⟨oc, hoc, x', hx, y', hy, rfl⟩ := hz
    simp only [wx_cond] at hk
    split at hk
    · rename_i b hb
      have hv := (hb ▸ opd_ok hC hoc).bool
      cases b
      · exact wp_cond_false hv (ih2 y' hy G ρ t h a w K hC hk)
      · exact wp_cond_true hv (ih1 x' hx G ρ t h a w K hC hk)
    · exact hk.elim
  | block id c ih =>
    intro x hx G ρ t h a w K hC hk
    simp only [comp, Option.bind_eq_bind, Option.bind_eq_some_iff, Option.some.injEq] at hx
    obtain ⟨y, hy, rfl⟩ := hx
    simp only [wx_block] at hk
    refine wp_block (wp_mono (ih y hy G ρ t h a w _ hC hk) fun e a' w' hq => ?_)
    obtain ⟨G', ρ', t', h', hC', hk'⟩ := hq
    cases e with
    | normal => exact ⟨G', ρ', t', h', hC', hk'⟩
    | exit i =>
      simp only at hk'
      unfold Exit.inBlock
      simp only
      by_cases e : i = id
      · rw [if_pos e]
        rw [e, Nat.beq_refl] at hk'
        exact ⟨G', ρ', t', h', hC', hk'⟩
      · rw [if_neg e]
        rw [nbeq e] at hk'
        exact ⟨G', ρ', t', h', hC', hk'⟩
    | ret => exact ⟨G', ρ', t', h', hC', hk'⟩
    | panic ch => exact ⟨G', ρ', t', h', hC', hk'⟩
    | goto l => exact hk'.elim
    | outgrown => exact hk'.elim
  | loop c ih =>
    intro x hx G ρ t h a w K hC hk
    simp only [comp, Option.bind_eq_bind, Option.bind_eq_some_iff, Option.some.injEq] at hx
    obtain ⟨y, hy, rfl⟩ := hx
    simp only [wx_loop, lx] at hk
    obtain ⟨A, I, S1, S2, m, x, ⟨i1, i2, i3, i4⟩, hk⟩ := hk
    obtain ⟨ρ1, hC1⟩ := hC.less hE i2 i3 i4
    refine wp_loopx (fun x a w => I x ∧ ∃ G ρ, Conc E n G ρ (S1 x) (S2 x) a w) m x ⟨i1, G, ρ1, hC1⟩ fun x a w hI => ?_
    obtain ⟨hI, G, ρ, hC⟩ := hI
    refine wp_mono (ih y hy G ρ _ _ a w _ hC (hk x hI)) fun e a' w' hq => ?_
    obtain ⟨G', ρ', t', h', hC', hk'⟩ := hq
    cases e with
    | normal =>
      obtain ⟨z, z1, z2, z3, z4, z5⟩ := hk'
      obtain ⟨ρ2, hC2⟩ := hC'.less hE z3 z4 z5
      exact ⟨z, ⟨z1, G', ρ2, hC2⟩, z2⟩
    | exit i => exact ⟨G', ρ', t', h', hC', hk'⟩
    | ret => exact ⟨G', ρ', t', h', hC', hk'⟩
    | panic ch => exact ⟨G', ρ', t', h', hC', hk'⟩
    | goto l => exact hk'.elim
    | outgrown => exact hk'.elim
  | exit id =>
    intro x hx G ρ t h a w K hC hk
    cases hx
    exact wp_exit ⟨G, ρ, t, h, hC, hk⟩
  | ret =>
    intro x hx G ρ t h a w K hC hk
    cases hx
    exact wp_ret ⟨G, ρ, t, h, hC, hk⟩
  | _ =>
    intro x hx G ρ t h a w K hC hk
    cases hx
    exact hk.elim
end
end Go.Vx
