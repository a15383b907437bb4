/- Code is walked. Conditions: none; lemmas on the definitions before. -/
import Derived.Test.YtjpgfgajkjhonaaGreatDoorQTAP
import Derived.Test.YtjpgfgajkjhonaaGreatDoorQTAQ
namespace Go.Vx
section
variable {P : Program} {E : Ent} {n : Nat} {G : Nat → Prop} {ρ : List Value} {t : T} {h : H} {a : Act} {w : World} (ow : Nat → Bool)
theorem puts_take {is : List I} {vs : List V} {t : T} {j : Nat} (hj : j ≤ vs.length) (hi : j ≤ is.length) : agree is vs (· < j) t (puts (is.take j) (vs.take j) t) := by
 intro s
 rcases puts_agree (is.take j) (vs.take j) t (by simp; omega) s with ⟨k, i, h1, h2, h3⟩ | ⟨h1, h2⟩
 ·have hk : k < j := by
   have := (List.getElem?_eq_some_iff.1 h1).1
   simp at this
   omega
  rw [List.getElem?_take, if_pos hk] at h1 h3
  exact .inl ⟨k, i, hk, h1, h2, h3⟩
 ·refine .inr ⟨fun k i hk hki => ?_, h2⟩
  exact h1 k i (by rw [List.getElem?_take, if_pos hk]; exact hki)
theorem cutAt_le (bs : List (List Nat)) : cutAt bs ≤ bs.length := by
 unfold cutAt
 cases hf : (List.range bs.length).find? fun m => fullFrom m (bs.drop m) with
 | none => exact Nat.le_refl _
 | some m =>
  have := List.mem_of_find?_eq_some hf
  rw [List.mem_range] at this
  exact Nat.le_of_lt this
theorem gs_mem : ∀ (t : T) (s : Nat), gs t s = .un ∨ ∃ p ∈ t, p.2 = gs t s := by
 intro t
 induction t with
 | nil => intro s; exact .inl rfl
 | cons p t ih =>
  intro s
  rw [gs_cons]
  cases hb : Nat.beq p.1 s
  ·rw [cond_false]
   rcases ih s with h | ⟨q, h1, h2⟩
   ·exact .inl h
   ·exact .inr ⟨q, by simp [h1], h2⟩
  ·exact .inr ⟨p, by simp, rfl⟩
theorem qk_nop {E : Ent} {n : Nat} {K : Ex → T → H → Prop} {e : Exit} {a : Act} {w : World} (h : QK E n (nop K) e a w) : QK E n K e a w := by
 obtain ⟨G, ρ, t, h, hC, hk⟩ := h
 refine ⟨G, ρ, t, h, hC, ?_⟩
 cases e with
 | panic ch => obtain ⟨_, _, _, _, hk⟩ := hk; exact hk.elim
 | _ => exact hk
theorem rgd_ok {r : Option Nat} {N : Nat} (hm : P.follows .mixedOrders = true) (hE : E.ρ.length = E.h.length) {id : Nat} {ops : Array Oper} {x : C} (hx : comp P n (.region id ops true) = some x) {K : Ex → T → H → Prop} (hC : Conc E n G ρ t h a w)
  (hk : ∀ n0, wx (Sat P) ow n0 x t h K) : (Code.region id ops true).wpIn (Fw r) N P (QK E n K) a w := by
 simp only [comp] at hx
 cases hnd : ops.toList.all nod with
 | false =>
  rw [hnd] at hx
  cases hx
  exact (hk 0).elim
 | true =>
 rw [hnd, Bool.not_true, cond_false] at hx
 simp only [Option.bind_eq_bind, Option.bind_eq_some_iff] at hx
 obtain ⟨is, his, hx⟩ := hx
 split at hx
 ·rename_i hchk
  cases hx
  have hk := hk 0
  simp only [wx_rgd] at hk
  rcases cuo_or hk with hk | hk
  case inr =>
   generalize hbs : befs (ops.toList.map deps) = bs at *
   generalize hmm : cutAt bs = m at *
   simp only [Bool.and_eq_true] at hchk
   obtain ⟨⟨⟨c1, c2⟩, c3⟩, c4⟩ := hchk
   obtain ⟨il, ig⟩ := mapM_get his
   obtain ⟨bl, bg⟩ := befs_ok (ops.toList.map deps)
   rw [hbs] at bl bg
   have hbl : bs.length = ops.size := by simpa using bl
   have hil : is.length = ops.size := by simpa using il
   have hml : m ≤ ops.size := by rw [← hmm, ← hbl]; exact cutAt_le bs
   have hql : ((is.zip bs).take m).length = m := by simp; omega
   rw [hql] at hk
   have D : Dry P n ops is bs m := by
    refine ⟨hil, hbl, hml, fun j o ho => ?_, fun j o ho => ?_, fun j b hb k hk => ?_, fun j b hj hb i hi => ?_⟩
    ·have hjl : j < is.length := by rw [hil]; exact (Array.getElem?_eq_some_iff.1 ho).1
     exact ⟨is[j], List.getElem?_eq_getElem hjl, ig j o _ (by simpa using ho) (List.getElem?_eq_getElem hjl)⟩
    ·exact bg j (deps o) (by rw [List.getElem?_map]; simp [ho])
    ·have := okB_ok bs 0 c1 j b hb k hk; omega
    ·exact full_ok _ m c3 (j - m) b (by rw [List.getElem?_drop]; rw [← hb]; congr 1; omega) i (by omega)
   rcases cuo_or hk with hk | hk
   ·refine region_any_in qk_nl (nod_all hnd) hm (any_ok ow D rfl _ _ _ _ (by simp) ?_ ⟨fun j b hj => ?_, .inl ⟨[], m, G, ρ, t, h, List.nodup_nil, by simp, fun j => ⟨fun hj => ?_, fun hj => by cases hj⟩, fun j hj => by (cases hj), hC.grow (Grw.draw w _) (fun _ h => h) (fun _ h => .inl h), hk⟩⟩)
    ·rw [Array.toList_replicate]
     exact Nat.le_trans List.count_le_length (by simp)
    ·have := getD_lt hj
     simp at this
     simp [this] at hj
    ·have := getD_lt hj
     simp at this
     simp [this] at hj
   ·obtain ⟨os, hk⟩ := fro_some hk
    obtain ⟨G, t, h, vs, hC, _, _, hk⟩ := give_ok os.1 G t h [] (fun _ => undef) hC (by simp) hk
    refine wpIn_mono (region_any_in qk_nl (nod_all hnd) hm (any2_ok ow D c4 (fun _ _ _ h => h) rfl _ _ _ _ (by simp) ?_ ⟨fun j b hj => ?_, .inl ⟨[], m, G, ρ, t, h, List.nodup_nil, by simp, fun j => ⟨fun hj => ?_, fun hj => by cases hj⟩, fun j hj => by (cases hj), hC.grow (Grw.draw w _) (fun _ h => h) (fun _ h => .inl h), hk⟩⟩)) fun e a w hq => qk_nop hq
    ·rw [Array.toList_replicate]
     exact Nat.le_trans List.count_le_length (by simp)
    ·have := getD_lt hj
     simp at this
     simp [this] at hj
    ·have := getD_lt hj
     simp at this
     simp [this] at hj
  obtain ⟨os, hk⟩ := fro_some hk
  obtain ⟨G, t, h, vs, hC, _, _, hk⟩ := give_ok os.1 G t h [] (fun _ => undef) hC (by simp) hk
  generalize hbs : befs (ops.toList.map deps) = bs at *
  generalize hmm : cutAt bs = m at *
  simp only [Bool.and_eq_true] at hchk
  obtain ⟨⟨⟨c1, c2⟩, c3⟩, _⟩ := hchk
  obtain ⟨il, ig⟩ := mapM_get his
  obtain ⟨bl, bg⟩ := befs_ok (ops.toList.map deps)
  rw [hbs] at bl bg
  have hbl : bs.length = ops.size := by simpa using bl
  have hil : is.length = ops.size := by simpa using il
  have hml : m ≤ ops.size := by rw [← hmm, ← hbl]; exact cutAt_le bs
  have hqg : ∀ (j : Nat) (x : I) (b : List Nat), j < m → is[j]? = some x → bs[j]? = some b → ((is.zip bs).take m)[j]? = some (x, b) := fun j x b hj hx hb => by
   rw [List.getElem?_take, if_pos hj, List.getElem?_zip_eq_some]
   exact ⟨hx, hb⟩
  have hql : ((is.zip bs).take m).length = m := by simp; omega
  have hq1 : ∀ j, j ≤ m → (((is.zip bs).take m).take j).map (·.1) = is.take j := fun j hj => by
   rw [List.take_take, Nat.min_eq_left hj, List.map_take]
   congr 1
   exact List.map_fst_zip (by omega)
  simp only [fl_eq] at hk
  generalize cal ((is.zip bs).take m) + os.2 = kk at hk
  have hlo : E.ρ.length ≤ h.length := by rw [hE]; exact hC.ok.hl
  obtain ⟨ρ, hC⟩ := hC.room kk
  generalize hh1 : h ++ List.replicate kk B.nw = h1 at *
  obtain ⟨rs, tR, hR, hkR, hRef⟩ := rq_ref ow _ _ _ _ hk
  have hrl := hRef.r1
  have htR := hRef.r2
  have hvq := hRef.r3
  rw [hql] at hrl
  have hvl : (rs.map (·.v)).length = m := by simpa using hrl
  have hlts : ∀ (k : Nat), k ≤ m → (∀ (j : Nat) (r : R), j < k → rs[j]? = some r → (r.ws.map (·.1)).Nodup ∧ ∀ w ∈ r.ws, w.1 < h1.length) ∧ ((rs.take k).foldl wr h1).length = h1.length := by
   intro k
   induction k with
   | zero => intro _; exact ⟨fun j r hj => by omega, by simp⟩
   | succ k ih =>
    intro hk
    obtain ⟨i1, i2⟩ := ih (by omega)
    have hkb : k < bs.length := by omega
    obtain ⟨r, v1, v2⟩ := hvq k _ (hqg k _ _ (by omega) (List.getElem?_eq_getElem (by omega)) (List.getElem?_eq_getElem hkb))
    have hw := rok.ws ow v2
    rw [i2] at hw
    refine ⟨fun j r' hj hr' => ?_, ?_⟩
    ·rcases Nat.lt_or_ge j k with h0 | h0
     ·exact i1 j r' h0 hr'
     ·obtain rfl : j = k := by omega
      rw [v1] at hr'; cases hr'
      exact hw
    ·rw [List.take_add_one, v1, List.foldl_append]
     simp only [Option.toList, List.foldl_cons, List.foldl_nil]
     rw [(wr_get hw.1 (by rw [i2]; exact hw.2)).1]
     exact i2
  have D : Drw ow P n ops is bs m h.length rs t h1 := by
   refine ⟨hil, hml, fun j o ho => ?_, fun j o ho => ?_, fun j b hb k hk => ?_, fun j b hj hb i hi => ?_, fun i j x y bi bj hi hj hne hx hy hbi hbj => ?_, fun j x hj hx => ?_, hrl, fun j k r r' b hj hk hb hlt hcf => ?_, fun j r hj id hid => ?_⟩
   ·have hjl : j < is.length := by rw [hil]; exact (Array.getElem?_eq_some_iff.1 ho).1
    exact ⟨is[j], List.getElem?_eq_getElem hjl, ig j o _ (by simpa using ho) (List.getElem?_eq_getElem hjl)⟩
   ·exact bg j (deps o) (by rw [List.getElem?_map]; simp [ho])
   ·have := okB_ok bs 0 c1 j b hb k hk; omega
   ·exact full_ok _ m c3 (j - m) b (by rw [List.getElem?_drop]; rw [← hb]; congr 1; omega) i (by omega)
   ·exact okD_ok c2 (hqg i x bi hi hx hbi) (hqg j y bj hj hy hbj) hne
   ·have hjb : j < bs.length := by omega
    obtain ⟨v, v1, v2⟩ := hvq j _ (hqg j x _ hj hx (List.getElem?_eq_getElem hjb))
    rw [hq1 j (by omega), List.map_take] at v2
    exact ⟨v, _, _, v1, v2, puts_take (by omega) (by omega), hagr_fold (hlts j (by omega)).1⟩
   ·have hkm : k < m := by rw [← hrl]; exact (List.getElem?_eq_some_iff.1 hk).1
    have := hRef.r6 j k r r' _ hj hk (hqg k _ b hkm (List.getElem?_eq_getElem (by omega)) hb) hlt hcf
    simpa using this
   ·obtain ⟨k1, k2, _, k4⟩ := hRef.r7 j r hj id hid
    refine ⟨fun s hs => ?_, k2, fun k r' x hlt hk hx => ?_⟩
    ·rcases gs_mem t s with e | ⟨p, hp, e⟩
     ·rw [e] at hs; cases hs
     ·rw [← e] at hs; exact k1 p hp hs
    ·have hkm : k < m := by rw [← hrl]; exact (List.getElem?_eq_some_iff.1 hk).1
     exact k4 k r' _ hlt hk (hqg k x _ hkm hx (List.getElem?_eq_getElem (by omega)))
  have hA : agree is (rs.map (·.v)) (· < m) t tR := by
   have h1 := puts_take (is := is) (vs := rs.map (·.v)) (t := t) (j := m) (by omega) (by omega)
   have h2 := hq1 m (Nat.le_refl _)
   rw [List.take_take, Nat.min_self] at h2
   intro s
   have h3 := htR s
   rw [h2] at h3
   have h4 : (rs.map (·.v)).take m = rs.map (·.v) := List.take_of_length_le (by omega)
   rw [h4] at h1
   rw [h3]
   exact h1 s
  have hH : hagr rs (· < m) h1 hR := by
   have := hagr_fold (hlts m (Nat.le_refl _)).1
   rw [List.take_of_length_le (by omega)] at this
   rw [hRef.r4]
   exact this
  refine region_any_in qk_nl (nod_all hnd) hm (drawn_ok ow hlo hE D hkR hA hH _ _ _ _ ?_ ⟨by simp, fun j b hj => ?_, .inl ⟨fun j hj => ?_, G, ρ, t, h1, hC.grow (Grw.draw w _) (fun _ h => h) (fun _ h => .inl h), fun s => .inr ⟨fun k i hk => ?_, rfl⟩, rfl, fun i => .inr ⟨fun k r w hk => ?_, rfl⟩⟩⟩)
  ·rw [Array.toList_replicate]
   exact Nat.le_trans List.count_le_length (by simp)
  ·have := getD_lt hj
   simp at this
   simp [this] at hj
  ·have := getD_lt hj
   simp at this
   simp [this] at hj
  ·have := getD_lt hk
   simp at this
   simp [this] at hk
  ·have := getD_lt hk
   simp at this
   simp [this] at hk
 ·cases hx; exact (hk 0).elim
theorem wkb_self (v : V) : wkb v v := by
 cases v <;> rfl
theorem wkb_or {x y : V} (h : wkb x y) : x = y ∨ ∃ z, x = .nl z ∧ y = .d (.sl z []) := by
 unfold wkb at h
 split at h
 ·subst h; exact .inr ⟨_, rfl, rfl⟩
 ·exact .inl h
theorem RepC.wk {v : Value} {x y : V} (hv : RepC G w ρ v x) (h : wkb x y) : RepC G w ρ v y := by
 rcases wkb_or h with rfl | ⟨z, rfl, rfl⟩
 ·exact hv
 ·cases hv with
  | k h => cases h with
   | nl => exact .k (.d (.slz z))
theorem Rep2.wk {v : Value} {x y : V} (hv : Rep2 G w ρ v x) (h : wkb x y) : Rep2 G w ρ v y := by
 rcases wkb_or h with rfl | ⟨z, rfl, rfl⟩
 ·exact hv
 ·cases hv with
  | o h => cases h with
   | c h => exact .o (.c (h.wk (by rfl)))
theorem wkL_get : ∀ {a b : List V}, wkL a b → a.length = b.length ∧ ∀ (i : Nat) (y : V), b[i]? = some y → ∃ x, a[i]? = some x ∧ wkb x y
 | [], [], _ => ⟨rfl, by simp⟩
 | _ :: _, [], h => h.elim
 | [], _ :: _, h => h.elim
 | a :: r, b :: s, h => by
  obtain ⟨h1, h2⟩ := h
  obtain ⟨g1, g2⟩ := wkL_get h2
  refine ⟨by simp [g1], fun i y hy => ?_⟩
  cases i with
  | zero => simp at hy; subst hy; exact ⟨a, rfl, h1⟩
  | succ i => simpa using g2 i y (by simpa using hy)
theorem wkB_or {x y : B} (h : wkB x y) : x = y ∨ ∃ a b, x = .cells a ∧ y = .cells b ∧ wkL a b := by
 unfold wkB at h
 split at h
 ·rcases h with rfl | h
  ·exact .inl rfl
  ·exact .inr ⟨_, _, rfl, rfl, h⟩
 ·exact .inl h
theorem wkB_gh {x y : B} (h : wkB x y) : gh x = gh y := by
 cases x <;> cases y <;> first | rfl | (cases h; done) | (cases h; rfl)
theorem wkB_no {x y : B} (h : wkB x y) (hy : y ≠ .no) : x ≠ .no := by
 rcases wkB_or h with rfl | ⟨a, b, rfl, rfl, _⟩
 ·exact hy
 ·simp
theorem RepB.wk {hd : Value} {x y : B} (hv : RepB G w ρ hd x) (h : wkB x y) : RepB G w ρ hd y := by
 rcases wkB_or h with rfl | ⟨a, b, rfl, rfl, hl⟩
 ·exact hv
 ·obtain ⟨bb, arr, ty, h1, h2, h3, h4⟩ := hv
  obtain ⟨g1, g2⟩ := wkL_get hl
  refine ⟨bb, arr, ty, h1, h2, h3.trans g1, fun i y hy => ?_⟩
  obtain ⟨x, hx, hw⟩ := g2 i y hy
  exact (h4 i x hx).wk hw
theorem gs_sub : ∀ {t s : T}, subs t s → ∀ i, gs s i = .un ∨ (wkb (gs t i) (gs s i) ∧ ∃ p ∈ s, p.2 = gs s i) := by
 intro t s
 induction s with
 | nil => intro _ i; exact .inl rfl
 | cons p s ih =>
  intro hs i
  obtain ⟨j, v⟩ := p
  simp only [subs] at hs
  simp only [gs_cons]
  by_cases e : j = i
  ·subst e
   simp only [Nat.beq_refl, cond_true]
   exact .inr ⟨hs.1, (j, v), by simp, rfl⟩
  ·rw [nbeq e]
   rcases ih hs.2 i with h1 | ⟨h1, p, h2, h3⟩
   ·exact .inl h1
   ·exact .inr ⟨h1, p, by simp [h2], h3⟩
theorem subh_get : ∀ {h s : H}, subh h s → s.length ≤ h.length ∧ ∀ (i : Nat) (x : B), s[i]? = some x → x = .no ∨ ∃ y, h[i]? = some y ∧ wkB y x := by
 intro h
 induction h with
 | nil =>
  intro s hs
  cases s with
  | nil => simp
  | cons => exact hs.elim
 | cons b h ih =>
  intro s hs
  cases s with
  | nil => simp
  | cons c s =>
   have hc : subh h s ∧ (c = .no ∨ wkB b c) := by
    cases c with
    | no => exact ⟨hs, .inl rfl⟩
    | _ => exact ⟨hs.2, .inr hs.1⟩
   obtain ⟨h1, h2⟩ := ih hc.1
   refine ⟨by simp; omega, fun i x hi => ?_⟩
   cases i with
   | zero =>
    simp at hi
    subst hi
    rcases hc.2 with h3 | h3
    ·exact .inl h3
    ·exact .inr ⟨b, by simp, h3⟩
   | succ i => simpa using h2 i x (by simpa using hi)
theorem Conc.lessG (hC : Conc E n G ρ t h a w) (hE : E.ρ.length = E.h.length) {s1 : T} {s2 : H} (ht : ∀ i, gs s1 i = .un ∨ (wkb (gs t i) (gs s1 i) ∧ ∃ p ∈ s1, p.2 = gs s1 i)) (hh : subh h s2) (hl : lts E.h.length s1 s2 = true) : ∃ ρ', ρ' = ρ.take s2.length ∧ Conc E n G ρ' s1 s2 a w := by
 obtain ⟨h1, h2⟩ := subh_get hh
 simp only [lts, Bool.and_eq_true, List.all_eq_true] at hl
 obtain ⟨⟨l1, l2⟩, l3⟩ := hl
 have l1 := Nat.le_of_ble_eq_true l1
 have hr := hC.ok.hr
 have hρl := hr.len
 have hg : ∀ (i : Nat) (v : Value), (ρ.take s2.length)[i]? = some v → ρ[i]? = some v := fun i v hi => by
  rw [List.getElem?_take] at hi
  split at hi
  ·exact hi
  ·cases hi
 have hg' : ∀ i, i < s2.length → (ρ.take s2.length)[i]? = ρ[i]? := fun i hi => by rw [List.getElem?_take, if_pos hi]
 have ho : ∀ b, own (ρ.take s2.length) s2 b → own ρ h b := by
  rintro b ⟨i, v, x, g1, g2, g3, g4⟩
  obtain ⟨y, y1, y2⟩ := (h2 i x g2).resolve_left g3
  rw [bks, ← wkB_gh y2] at g4
  exact ⟨i, v, y, hg i v g1, y1, wkB_no y2 g3, g4⟩
 refine ⟨ρ.take s2.length, rfl, ⟨⟨by simp; omega, fun i v x g1 g2 => ?_, fun i i' v v' x x' b g1 g2 g3 g4 g5 g6 g7 g8 => ?_, hr.gl, fun b hb hob => hr.gd b hb (ho b hob), hr.glb⟩, hC.ok.gm, hC.ok.go, fun b hb => hC.ok.oo b (ho b hb), hC.ok.frame, hC.ok.size, hC.ok.os, hC.ok.tape,
  hC.ok.out, fun i v g1 g2 => ?_, l1, fun r hr => let ⟨e1, e2, e3⟩ := hC.ok.mks r hr; ⟨e1, e2, fun e4 => e3 (ho r e4)⟩⟩, hC.df, hC.sz, fun i => ?_⟩
 ·rcases h2 i x g2 with rfl | ⟨y, h3, h4⟩
  ·trivial
  ·exact ((hr.rep i v y (hg i v g1) h3).wk h4).mono (fun _ h => h) (fun _ _ => rfl) (fun _ _ => rfl) (fun j hj => hg' j ((Nat.blt_eq ..).mp (l3 x (List.mem_of_getElem? g2) j hj)))
 ·obtain ⟨y, y1, y2⟩ := (h2 i x g2).resolve_left g3
  obtain ⟨y', y1', y2'⟩ := (h2 i' x' g5).resolve_left g6
  rw [bks, ← wkB_gh y2] at g7
  rw [bks, ← wkB_gh y2'] at g8
  exact hr.dis i i' v v' y y' b (hg i v g1) y1 (wkB_no y2 g3) (hg i' v' g4) y1' (wkB_no y2' g6) g7 g8
 ·have := hC.ok.hand i v g1 g2
  rw [hg' i]
  ·exact this
  ·have := (List.getElem?_eq_some_iff.1 g1).1; omega
 ·rcases ht i with e | ⟨e, p, p1, p2⟩
  ·rw [e]; exact .k (.un _)
  ·refine ((hC.tm i).wk e).mono (fun _ h => h) (fun _ _ => rfl) (fun j hj => hg' j ?_)
   have := l2 p p1 j (by rw [p2]; exact hj)
   exact (Nat.blt_eq ..).mp this
theorem Conc.less (hC : Conc E n G ρ t h a w) (hE : E.ρ.length = E.h.length) {s1 : T} {s2 : H} (ht : subs t s1) (hh : subh h s2) (hl : lts E.h.length s1 s2 = true) : ∃ ρ', ρ' = ρ.take s2.length ∧ Conc E n G ρ' s1 s2 a w :=
 hC.lessG hE (gs_sub ht) hh hl
theorem Conc.lessH (hC : Conc E n G ρ t h a w) (hE : E.ρ.length = E.h.length) {s2 : H} (hh : subh h s2) (hl : lts E.h.length t s2 = true) : ∃ ρ', ρ' = ρ.take s2.length ∧ Conc E n G ρ' t s2 a w :=
 hC.lessG hE (fun i => (gs_mem t i).imp (fun h => h) fun ⟨p, h1, h2⟩ => ⟨wkb_self _, p, h1, h2⟩) hh hl
end
end Go.Vx
namespace Go.Vx
section
variable {P : Program} {E : Ent} {n : Nat} {G : Nat → Prop} {ρ : List Value} {t : T} {h : H} {a : Act} {w : World} (ow : Nat → Bool)
theorem Ok.self (hr : HR G w ρ h) {ds : List Deferred} {ms : List Nat} (hm : ∀ r ∈ ms, w.heap[r]? = some (.deferred (some [])) ∧ ¬ G r ∧ ¬ own ρ h r) : Ok ⟨w, G, ρ, h, ds, ms⟩ G w ρ h :=
 ⟨hr, fun _ h => h, fun _ h => .inl h, fun _ h => .inr h, fun _ _ _ => rfl, Nat.le_refl _, rfl, rfl, rfl, fun _ _ h _ => h, Nat.le_refl _, hm⟩
theorem round_ok {ca cb : Code} {xa xb : C} (hA : WK P ow n ca xa) (hB : WK P ow n cb xb) {T0 : T} (hC : Conc E n G ρ T0 h a w) {l : Nat} {rec : Loop} (hl : w.heap[l]? = some (.loop rec)) (hrec : rec.state = .ready)
  (hEl : E.w.heap.size ≤ l) (hEG : ¬ E.G l) (hst : (T0.all fun p => !(sl2 p.2)) = true) {ps : List Nat} {row : List D} (hps : ∀ p ∈ ps, p < n) (hrow : ∀ d ∈ row, rwd d) {KB : Ex → H → Prop} (hpan : ∀ v h, ¬ KB (.pan v) h)
  (hk : wx (Sat P) ow h.length xa (lys ps row T0) h fun e t h => match e with
   | .nrm => wx (Sat P) ow h.length xb t h fun e _ h => KB e h
   | _ => False) {R : Ending → World → Prop}
  (hR1 : ∀ (G' : Nat → Prop) (ρ' : List Value) (h' : H) (w' : World), Conc E n G' ρ' T0 h' a w' → w'.heap[l]? = some (.loop { rec with state := .ready, pending := none }) → Stay G w ρ G' w' ρ' → KB .nrm h' → R (.returned (.bool true)) w')
  (hR2 : ∀ (G' : Nat → Prop) (ρ' : List Value) (h' : H) (w' : World) (c : Code), Conc E n G' ρ' T0 h' a w' → w'.heap[l]? = some (.loop { rec with state := .done, pending := some c }) → ((c = .ret ∧ KB .ret h') ∨ ∃ j, c = .exit j ∧ KB (.ext j) h') → R (.returned (.bool false)) w') :
  ca.wpIn (Fw (some l)) 0 P (Exit.then (fun a₁ w₁ => ∃ w₂, (Instr.beginRound l).run P w₁ = .ok () w₂ ∧ cb.wpIn (Fw (some l)) 0 P (roundPost P l R) a₁ w₂) (fun _ _ _ => False))
   { tmps := (ps.zip (row.map encD)).foldl (fun t (p, v) => t.setIfInBounds p v) a.tmps, defers := [] } w := by
 have hr := hC.ok.hr
 have hrl : rcb w l := .inl ⟨_, hl⟩
 have hGl : ¬ G l := hC.ok.ng hrl hEG
 have hml : ∀ r ∈ E.ms, r ∈ E.ms ∧ r ≠ l := fun r hr => ⟨hr, fun e => by
  subst e
  have := (hC.ok.mks r hr).1
  rw [hl] at this
  cases this⟩
 have hC1 : Conc ⟨w, G, ρ, h, [], E.ms⟩ n G ρ (lys ps row T0) h { tmps := (ps.zip (row.map encD)).foldl (fun t (p, v) => t.setIfInBounds p v) a.tmps, defers := [] } w :=
  ⟨.self hr hC.ok.mks, rfl, (fold_size _ _).trans hC.sz, lys_ok ps row T0 a.tmps (fun p hp => by rw [hC.sz]; exact hps p hp) hrow hC.tm⟩
 refine wpIn_mono (hA (some l) 0 ⟨w, G, ρ, h, [], E.ms⟩ hr.len (fun l' e => by cases e; exact ⟨⟨_, hl⟩, hr.nrec hrl⟩) G ρ _ _ _ _ _ hC1 hk) ?_
 rintro e a1 w1 ⟨E1, ⟨l1, rfl, _, _⟩, _, G1, ρ1, t1, h1, hC2, hk2⟩
 cases e with
 | normal =>
  have hl1 : w1.heap[l]? = some (.loop rec) := (hC2.ok.frame l hrl.lt (hr.nrec hrl)).trans hl
  have hrl1 : rcb w1 l := .inl ⟨_, hl1⟩
  refine ⟨_, run_beginRound hl1 hrec, ?_⟩
  have hG1 : ¬ G1 l := hC2.ok.ng hrl1 hGl
  have hOa : Ok E G1 w1 ρ1 h1 := hC.ok.comp (fun r hr => by simp [hr]) hC2.ok
  have hOb : Ok E G1 (w1.putObj l (.loop { rec with state := .busy })) ρ1 h1 := hOa.putr hrl1 hEl hG1 hml _
  have hSa : Stay G w ρ G1 w1 ρ1 := hC2.ok.stay hr
  have hl2 : (w1.putObj l (.loop { rec with state := .busy })).heap[l]? = some (.loop { rec with state := .busy }) := World.putObj_heap_same hrl1.lt
  have hrl2 : rcb (w1.putObj l (.loop { rec with state := .busy })) l := .inl ⟨_, hl2⟩
  have hSb : Stay G w ρ G1 (w1.putObj l (.loop { rec with state := .busy })) ρ1 := hSa.trans (.put hG1 _)
  have hC3 : Conc ⟨w1.putObj l (.loop { rec with state := .busy }), G1, ρ1, h1, a1.defers, E.ms⟩ n G1 ρ1 t1 h1 a1 (w1.putObj l (.loop { rec with state := .busy })) :=
   ⟨.self hOb.hr hOb.mks, rfl, hC2.sz, fun i => rep_putr (hC2.tm i) hG1 _⟩
  generalize w1.putObj l (.loop { rec with state := .busy }) = w2 at *
  refine wpIn_mono (hB (some l) 0 ⟨w2, G1, ρ1, h1, a1.defers, E.ms⟩ hOb.hr.len (fun l' e => by cases e; exact ⟨⟨_, hl2⟩, hOb.hr.nrec hrl2⟩) G1 ρ1 _ _ _ _ _ hC3 hk2) ?_
  rintro e a2 w3 ⟨E2, ⟨l2, rfl, _, _⟩, _, G2, ρ2, t2, h2, hC4, hk4⟩
  have hl3 : w3.heap[l]? = some (.loop { rec with state := .busy }) := (hC4.ok.frame l hrl2.lt (hOb.hr.nrec hrl2)).trans hl2
  have hrl3 : rcb w3 l := .inl ⟨_, hl3⟩
  have hG2 : ¬ G2 l := hC4.ok.ng hrl3 hG1
  have hOc : Ok E G2 w3 ρ2 h2 := hOb.comp (fun r hr => by simp [hr]) hC4.ok
  have hSc : ∀ o, Stay G w ρ G2 (w3.putObj l o) ρ2 := fun o => (hSb.trans (hC4.ok.stay hOb.hr)).trans (.put hG2 _)
  have fin : ∀ o, Conc E n G2 ρ2 T0 h2 a (w3.putObj l o) := fun o => ⟨hOc.putr hrl3 hEl hG2 hml _, hC.df, hC.sz, fun i => (hSc o).rep (hC.tm i) (gs_memb hst i)⟩
  have hsame : ∀ o, (w3.putObj l o).heap[l]? = some o := fun o => World.putObj_heap_same hrl3.lt
  cases e with
  | normal => exact ⟨_, _, run_endRound none hl3, hR1 G2 ρ2 h2 _ (fin _) (hsame _) (hSc _) hk4⟩
  | ret => exact ⟨_, _, run_endRound (some .ret) hl3, hR2 G2 ρ2 h2 _ .ret (fin _) (hsame _) (.inl ⟨rfl, hk4⟩)⟩
  | exit j => exact ⟨_, _, run_endRound (some (.exit j)) hl3, hR2 G2 ρ2 h2 _ (.exit j) (fin _) (hsame _) (.inr ⟨j, rfl, hk4⟩)⟩
  | panic ch => obtain ⟨_, _, _, _, hk4⟩ := hk4; exact absurd hk4 (hpan _ _)
  | goto l => exact hk4.elim
  | outgrown => exact hk4.elim
 | panic ch => obtain ⟨_, _, _, _, hk2⟩ := hk2; exact hk2.elim
 | exit j => exact hk2.elim
 | ret => exact hk2.elim
 | goto l => exact hk2.elim
 | outgrown => exact hk2.elim
theorem enter_ok {r : Option Nat} (hrd : Rnd r E) {T0 : T} (hC : Conc E n G ρ T0 h a w) (fn : FuncId) (ps : Array Tmp) (ca cb : Code) :
  ∃ (l dd : Nat) (mark : List Deferred) (w1 : World) (rec : Loop) (E1 : Ent), (Instr.enterLoop fn a.tmps ps ca cb r).run P w = .ok (l, mark) w1 ∧ rec = { state := .ready, pending := none, fn, tmps := a.tmps, params := ps, assign := ca, body := cb, defers := dd } ∧
   w1.heap[l]? = some (.loop rec) ∧ w.heap.size ≤ l ∧ Grw w w1 ∧ MkOf E E1 ∧ Conc E1 n G ρ T0 h { a with defers := mark ++ a.defers } w1 := by
 cases r with
 | none =>
  have hg : ∀ rec, Grw w ((w.alloc (.deferred (some []))).alloc (.loop rec)) := fun rec => (Grw.alloc w _).trans (Grw.alloc _ _)
  refine ⟨w.heap.size + 1, w.heap.size, _, _, _, { E with ds := [w.heap.size].map mkD ++ E.ds, ms := [w.heap.size] ++ E.ms }, run_enterLoop_outer fn a.tmps ps ca cb, rfl, ?_, by omega, hg _, ⟨_, rfl, fun hn => ?_, fun r hr => ?_⟩, ?_⟩
  ·have := World.alloc_heap_new (w.alloc (.deferred (some []))) (.loop { state := .ready, pending := none, fn, tmps := a.tmps, params := ps, assign := ca, body := cb, defers := w.heap.size })
   rwa [World.size_alloc] at this
  ·refine List.nodup_cons.2 ⟨fun hm => ?_, hn⟩
   have := (Array.getElem?_eq_some_iff.1 (hC.ok.mks _ hm).1).1
   omega
  ·simp at hr; subst hr; exact hC.ok.size
  ·have h1 := hC.grow (G' := G) (hg { state := .ready, pending := none, fn, tmps := a.tmps, params := ps, assign := ca, body := cb, defers := w.heap.size }) (fun _ h => h) (fun _ h => .inl h)
   refine ⟨⟨h1.ok.hr, h1.ok.gm, h1.ok.go, h1.ok.oo, h1.ok.frame, h1.ok.size, h1.ok.os, h1.ok.tape, h1.ok.out, h1.ok.hand, h1.ok.hl, fun r hr => ?_⟩, ?_, h1.sz, h1.tm⟩
   ·rcases List.mem_append.1 hr with hr | hr
    ·simp at hr; subst hr
     refine ⟨?_, fun hG => ?_, fun ho => ?_⟩
     ·exact ((Grw.alloc _ _).old w.heap.size (by simp)).trans (World.alloc_heap_new w _)
     ·have := hC.ok.hr.gl _ hG; omega
     ·have := hC.ok.hr.ownlt ho; omega
    ·exact h1.ok.mks r hr
   ·simp [hC.df, mkD]
 | some l0 =>
  obtain ⟨⟨r0, h0⟩, h2⟩ := hrd l0 rfl
  have hl0 : w.heap[l0]? = some (.loop r0) := (hC.ok.frame l0 (Array.getElem?_eq_some_iff.1 h0).1 h2).trans h0
  refine ⟨w.heap.size, r0.defers, [], _, _, E, run_enterLoop_inner hl0 fn a.tmps ps ca cb, rfl, World.alloc_heap_new w _, Nat.le_refl _, Grw.alloc w _, .refl E, ?_⟩
  exact hC.grow (Grw.alloc w _) (fun _ h => h) (fun _ h => .inl h)
theorem callOk_lt {f : Nat} (h : callOk P f = true) : f < P.funcs.size := by
 unfold callOk at h
 split at h
 ·rename_i fn hf
  exact (Array.getElem?_eq_some_iff.1 hf).1
 ·cases h
theorem rf_ok {r : Option Nat} {N : Nat} (hE : E.ρ.length = E.h.length) (hrd : Rnd r E) {ca cb : Code} {xa xb : C} (hA : WK P ow n ca xa) (hB : WK P ow n cb xb) {g : Operand} {og : O} (hg : opd P 0 g = some og) {ps : Array Tmp} (hps : ∀ p ∈ ps.toList, p < n)
  (hP : P.funcs.size ≤ 5000000) {b : Bool} (hb : b = false) {K : Ex → T → H → Prop} (hC : Conc E n G ρ t h a w) (hk : wx (Sat P) ow E.h.length (.rf og ps.toList xa xb) t h K) : (Code.rangeFunc g ps ca cb).wpIn (Fw r) N P (QM b E n K) a w := by
 subst hb
 rw [wx_rf] at hk
 unfold rfx at hk
 obtain ⟨f, caps, ids, T0, A, I, Hs, x0, n1, z, xs, ⟨hgv, hf, hchk, hcs, hpl⟩, hS, ⟨hz, hxs⟩, ⟨hs1, ⟨hi0, hs2⟩, hs3⟩, hH, hRd, hD⟩ := hk
 have hf := (Nat.blt_eq ..).mp hf
 have hz := nbq hz
 obtain ⟨z', hI⟩ : ∃ z' : Nat, IterP P f (caps.map (rnc (pos ids))) (ids.map fun i => rnB (pos ids) ((get? h i).getD .no)) xs := by
  rcases hS with h1 | ⟨_, z', xs', h1, h2⟩
  ·have := callOk_lt h1.ok; omega
  ·have e : xs' = xs := by
    have := h2.1
    simp only [Out.ret.injEq, V.d.injEq, D.sl.injEq] at this
    exact this.2
   rw [Nat.add_sub_cancel_left, e] at h1
   exact ⟨z', h1⟩
 obtain ⟨ρ0, hρ0, hC0⟩ := hC.less hE hs1 hs2 (hH x0).2.1
 simp only [chk, Bool.and_eq_true, List.all_eq_true] at hchk
 obtain ⟨⟨c1, c2⟩, c3⟩ := hchk
 have hgetH : ∀ (i : A), ∀ j ∈ ids, get? (Hs i) j = get? h j := fun i j hj => List.map_inj_left.1 (hH i).2.2 j hj
 have hcell : ∀ j ∈ ids, ∃ cs, h[j]? = some (.cells cs) ∧ (cs.all fun x => !(sl0 x)) = true := fun j hj => by
  have := List.all_eq_true.1 hpl j hj
  rw [get?_eq] at this
  cases hc : h[j]? with
  | none => rw [hc] at this; cases this
  | some x =>
   rw [hc] at this
   cases x <;> first | exact ⟨_, rfl, this⟩ | cases this
 have hid : ∀ j ∈ ids, j < n1 := fun j hj => by
  obtain ⟨cs, h1, _⟩ := hcell j hj
  have := hgetH x0 j hj
  rw [get?_eq, get?_eq, h1] at this
  rw [← (hH x0).1]
  exact (List.getElem?_eq_some_iff.1 this).1
 have hρ0' : ∀ j ∈ ids, ρ0[j]? = ρ[j]? := fun j hj => by rw [hρ0, List.getElem?_take, (hH x0).1, if_pos (hid j hj)]
 have hnsl : ∀ j ∈ ids, ∃ u, ρ0[j]? = some u ∧ isSl u = false := fun j hj => by
  obtain ⟨cs, h1, _⟩ := hcell j hj
  have hjl := hid j hj
  have hl0 : ρ0.length = n1 := by rw [hC0.ok.hr.len, (hH x0).1]
  refine ⟨ρ0[j], List.getElem?_eq_getElem (by omega), ?_⟩
  have hx : (Hs x0)[j]? = some (.cells cs) := by rw [← get?_eq, hgetH x0 j hj, get?_eq, h1]
  obtain ⟨bb, arr, ty, e, _⟩ := hC0.ok.hr.rep j _ _ (List.getElem?_eq_getElem (by omega)) hx
  rw [e]; rfl
 have hv := opd_ok hC hg
 rw [hgv] at hv
 obtain ⟨cs, hfc, hcl, hcr⟩ : ∃ cs : Array Value, fcv f (a.eval g) cs ∧ cs.size = caps.length ∧ ∀ (i : Nat) (x : V), caps[i]? = some x → RepK G w ρ (cs.getD i undef) x := by
  generalize a.eval g = v at hv
  cases hv with
  | o h => cases h with
   | c h => cases h with
    | k h => cases h
    | fc _ _ cs _ g1 g2 g3 => exact ⟨cs, g1, g2, g3⟩
 have hfv := fcv_fn hfc hf
 have hmem : ∀ (i : Nat) (x : V), caps[i]? = some x → ∀ j ∈ idc x, j ∈ ids := fun i x hx j hj => has_iff.1 (c3 j (List.mem_flatMap.2 ⟨x, List.mem_of_getElem? hx, hj⟩))
 have hcr0 : ∀ (i : Nat) (x : V), caps[i]? = some x → RepK G w ρ0 (cs.getD i undef) x := fun i x hx => (hcr i x hx).mono (fun _ h => h) (fun _ _ => rfl) (fun j hj => hρ0' j (hmem i x hx j hj))
 have hcsl : ∀ (i : Nat) (x : V), caps[i]? = some x → slc x = false := fun i x hx => by
  have := List.all_eq_true.1 hcs x (List.mem_of_getElem? hx)
  simpa using this
 refine wpIn_rangeFunc fun fn _ => ?_
 obtain ⟨l, dd, mark, w1, rec, E1, hent, hrec, hl, hlw, hgr, hM, hC1⟩ := enter_ok (P := P) hrd hC0 fn ps ca cb
 refine ⟨l, mark, w1, { target := .fn (.func f) cs, args := #[.func (.yield l) #[] #[]] }, w1, f, #[.func (.yield l) #[] #[]] ++ cs, w1, hent, ?_, fun _ _ => trivial, ?_, Fw.depth _ _, ?_⟩
 ·simp only [resolve, hfv]
  simp [go_sem]
 ·have := callFunc_ok (P := P) (w := w1) (as := #[.func (.yield l) #[] #[]] ++ cs) hI.ok
  simp [invoke, go_sem, this]
 have hSt0 : Stay G w ρ0 G w1 ρ0 := ⟨fun b hb => ⟨hb, hgr.old b (hC0.ok.hr.gl b hb)⟩, fun _ _ h _ => h⟩
 have hE1w : E1.w = E.w := hM.ew
 have hEl : E1.w.heap.size ≤ l := by rw [hE1w]; exact Nat.le_trans hC.ok.size hlw
 have hEG : ¬ E1.G l := by
  rw [hM.eG]
  intro h1
  have := hC.ok.hr.gl l (hC.ok.gm l h1)
  omega
 generalize ha' : ({ a with defers := mark ++ a.defers } : Act) = a' at *
 have ha't : a'.tmps = a.tmps := by rw [← ha']
 have hrunI := hI.run (ids.map fun j => (ρ0[j]?).getD undef) cs.toList l
  (fun i W => ∃ (x : A) (G' : Nat → Prop) (ρ' : List Value), I i x ∧ Conc E1 n G' ρ' T0 (Hs x) a' W ∧ Stay G w1 ρ0 G' W ρ' ∧ W.heap[l]? = some (.loop rec))
  (fun W => ∃ (c : Code) (G' : Nat → Prop) (ρ' : List Value) (h' : H), Conc E1 n G' ρ' T0 h' a' W ∧ W.heap[l]? = some (.loop { rec with state := .done, pending := some c }) ∧ ((c = .ret ∧ K .ret T0 h') ∨ ∃ j, c = .exit j ∧ K (.ext j) T0 h'))
  (by simpa using hcl) ?_ ?_ ?_ ?_ w1 ⟨x0, G, ρ0, hi0, hC1, .refl, hl⟩
 ·have hrun2 : CallsIn (Fw r) (N - 1) P f (#[.func (.yield l) #[] #[]] ++ cs) w1 _ := calls_in (in_calls (by rw [Array.toArray_toList] at hrunI; exact hrunI))
  refine hrun2.mono ?_
  rintro e W ⟨⟨v, rfl⟩, ⟨x, G', ρ', hi, hc, hs, hlr⟩ | ⟨c, G', ρ', h', hc, hlr, hj⟩⟩
  ·have hrc : rcb W l := .inl ⟨_, hlr⟩
   have hng := hc.ok.ng hrc hEG
   have hml : ∀ r ∈ E1.ms, r ∈ E1.ms ∧ r ≠ l := fun r hr => ⟨hr, fun e => by
    subst e
    have := (hc.ok.mks r hr).1
    rw [hlr] at this
    cases this⟩
   have hend := run_endLoop (P := P) hlr (by rw [hrec]; simp)
   have hpe : rec.pending = none := by rw [hrec]
   rw [hpe] at hend
   refine ⟨none, _, hend, ?_⟩
   ·exact ⟨E1, hM, nofun, G', ρ', T0, Hs x, ⟨hc.ok.putr hrc hEl hng hml _, hc.df, hc.sz, fun i => rep_putr (hc.tm i) hng _⟩, hD x hi⟩
  ·have hrc : rcb W l := .inl ⟨_, hlr⟩
   have hng := hc.ok.ng hrc hEG
   have hml : ∀ r ∈ E1.ms, r ∈ E1.ms ∧ r ≠ l := fun r hr => ⟨hr, fun e => by
    subst e
    have := (hc.ok.mks r hr).1
    rw [hlr] at this
    cases this⟩
   have hc2 : ∀ o, Conc E1 n G' ρ' T0 h' a' (W.putObj l o) := fun o => ⟨hc.ok.putr hrc hEl hng hml _, hc.df, hc.sz, fun i => rep_putr (hc.tm i) hng _⟩
   refine ⟨some c, _, run_endLoop (P := P) hlr (by simp), ?_⟩
   rcases hj with ⟨rfl, hj⟩ | ⟨j, rfl, hj⟩
   ·exact wpIn_ret ⟨E1, hM, nofun, G', ρ', T0, h', hc2 _, hj⟩
   ·exact wpIn_exit ⟨E1, hM, nofun, G', ρ', T0, h', hc2 _, hj⟩
 ·rintro i W W' ⟨x, G', ρ', hi, hc, hs, hlr⟩ hgw
  exact ⟨x, G', ρ', hi, hc.grow hgw (fun _ h => h) (fun _ h => .inl h), hs.trans ⟨fun b hb => ⟨hb, hgw.old b (hc.ok.hr.gl b hb)⟩, fun _ _ h _ => h⟩, (hgw.old l (Array.getElem?_eq_some_iff.1 hlr).1).trans hlr⟩
 ·rintro W W' ⟨c, G', ρ', h', hc, hlr, hj⟩ hgw
  exact ⟨c, G', ρ', h', hc.grow hgw (fun _ h => h) (fun _ h => .inl h), (hgw.old l (Array.getElem?_eq_some_iff.1 hlr).1).trans hlr, hj⟩
 ·rintro i W ⟨x, G', ρ', _, hc, hs, hlr⟩
  have hρj : ∀ j ∈ ids, ρ'[j]? = ρ0[j]? := fun j hj => by
   obtain ⟨u, h1, h2⟩ := hnsl j hj
   rw [h1]
   exact hs.2 j u h1 h2
  have hlen : ∀ j ∈ ids, j < (Hs x).length := fun j hj => by rw [(hH x).1]; exact hid j hj
  have hcl2 : ∀ j ∈ ids, ∀ y, (Hs x)[j]? = some y → ∀ k ∈ idB y, k ∈ ids := fun j hj y hx k hk => by
   have := (c2 j hj).2 k
   rw [← hgetH x j hj, get?_eq, hx] at this
   exact has_iff.1 (this hk)
  obtain ⟨p1, _⟩ := hc.ok.hr.part (nodup_of c1) hlen hcl2
  refine ⟨G', ?_, fun j y hx => ?_⟩
  ·have e1 : (ids.map fun j => (ρ'[j]?).getD undef) = ids.map fun j => (ρ0[j]?).getD undef := List.map_congr_left fun j hj => by rw [hρj j hj]
   have e2 : (ids.map fun j => rnB (pos ids) ((get? (Hs x) j).getD .no)) = ids.map fun j => rnB (pos ids) ((get? h j).getD .no) := List.map_congr_left fun j hj => by rw [hgetH x j hj]
   rw [e1, e2] at p1
   exact p1
  ·rw [List.getElem?_map, Option.map_eq_some_iff] at hx
   obtain ⟨y0, hx0, rfl⟩ := hx
   have h1 := (hSt0.trans hs).repk (hcr0 j y0 hx0) (hcsl j y0 hx0)
   have h2 : cs.toList.getD j undef = cs.getD j undef := by simp [List.getD_eq_getElem?_getD, Array.getD_eq_getD_getElem?]
   rw [h2]
   have h3 := h1.ren (ρ' := ids.map fun j => (ρ0[j]?).getD undef) (f := pos ids) (fun k hk => by
    have hkm := hmem j y0 hx0 k hk
    obtain ⟨u, g1, _⟩ := hnsl k hkm
    rw [List.getElem?_map, pos_get hkm, Option.map_some, hρj k hkm, g1]
    rfl)
   exact .o (.c (.k h3))
 ·rintro i row W hrow ⟨x, G', ρ', hi, hc, hs, hlr⟩
  have hrow2 := hxs row (List.mem_of_getElem? hrow)
  have hy := run_yield (P := P) (args := (row.map encD).toArray) hlr (by rw [hrec]; simp [hrow2.1, hz])
  have hfold : (ps.zip (row.map encD).toArray).foldl (fun tmps (x : Tmp × Value) => tmps.setIfInBounds x.1 x.2) a.tmps = (ps.toList.zip (row.map encD)).foldl (fun t (p, v) => t.setIfInBounds p v) a'.tmps := by
   rw [ha't, ← Array.foldl_toList, Array.toList_zip]
  have hy' : (Instr.yield l (row.map encD).toArray).run P W = .ok (.round l fn ((ps.zip (row.map encD).toArray).foldl (fun tmps (x : Tmp × Value) => tmps.setIfInBounds x.1 x.2) a.tmps) ca cb) W := by
   rw [hrec] at hy
   exact hy
  refine ⟨fn, _, ca, cb, hy', ?_⟩
  have hb := round_ok (R := fun e W2 => (e = .returned (.bool true) ∧ ∃ (x : A) (G' : Nat → Prop) (ρ' : List Value), I (i + 1) x ∧ Conc E1 n G' ρ' T0 (Hs x) a' W2 ∧ Stay G w1 ρ0 G' W2 ρ' ∧ W2.heap[l]? = some (.loop rec)) ∨ (e = .returned (.bool false) ∧
    ∃ (c : Code) (G' : Nat → Prop) (ρ' : List Value) (h' : H), Conc E1 n G' ρ' T0 h' a' W2 ∧ W2.heap[l]? = some (.loop { rec with state := .done, pending := some c }) ∧ ((c = .ret ∧ K .ret T0 h') ∨ ∃ j, c = .exit j ∧ K (.ext j) T0 h')))
   (KB := fun e h => match e with
    | .nrm => ∃ y, I (i + 1) y ∧ subh h (Hs y)
    | .ext j => K (.ext j) T0 h
    | .ret => K .ret T0 h
    | .pan _ => False) ow hA hB hc hlr (by rw [hrec]) hEl hEG hs3 hps hrow2.2 (fun _ _ h => h) (by rw [(hH x).1]; exact hRd i row x hrow hi)
   (fun G2 ρ2 h2 W2 g1 g2 g3 ⟨y, hy1, g4⟩ => by
    have hle : lts E1.h.length T0 (Hs y) = true := by rw [hM.eh]; exact (hH y).2.1
    obtain ⟨ρ3, e3, g5⟩ := g1.lessH (by rw [hM.er, hM.eh]; exact hE) g4 hle
    refine .inl ⟨rfl, y, G2, ρ3, hy1, g5, ⟨fun b hb => (hs.trans g3).1 b hb, fun j u hj hu => ?_⟩, by rw [g2, hrec]⟩
    have hjl : j < (Hs y).length := by
     rw [(hH y).1, ← (hH x0).1, ← hC0.ok.hr.len]
     exact (List.getElem?_eq_some_iff.1 hj).1
    rw [e3, List.getElem?_take, if_pos hjl]
    exact (hs.trans g3).2 j u hj hu)
   (fun G2 ρ2 h2 W2 c g1 g2 g3 => .inr ⟨rfl, c, G2, ρ2, h2, g1, g2, g3⟩)
  refine roundIn_of_wpIn trivial ?_
  show ca.wpIn (Fw (some l)) 0 P _ { tmps := (ps.zip (row.map encD).toArray).foldl (fun tmps (x : Tmp × Value) => tmps.setIfInBounds x.1 x.2) a.tmps, defers := [] } W
  rw [hfold]
  exact hb
theorem wk_ok (hm : P.follows .mixedOrders = true) : ∀ (c : Code) (x : C), comp P n c = some x → WK P ow n c x := by
 intro c
 induction c with
 | skip =>
  intro x hx r N E hE hrd G ρ t h a w K hC hk
  cases hx
  exact wpIn_skip (.of ⟨G, ρ, t, h, hC, hk⟩)
 | region id ops draw =>
  intro x hx r N E hE hrd G ρ t h a w K hC hk
  cases draw with
  | false =>
   simp only [comp] at hx
   cases hnd : ops.toList.all nod with
   | false =>
    rw [hnd] at hx
    cases hx
    exact hk.elim
   | true =>
    rw [hnd, cond_true] at hx
    simp only [Option.map_eq_some_iff] at hx
    obtain ⟨is, his, rfl⟩ := hx
    exact wpIn_mono (region_in qk_nl (nod_all hnd) (reg_ok ow _ _ his G ρ t h a w hC hk)) fun _ _ _ => .of
  | true =>
   refine wpIn_mono (rgd_ok ow hm hE hx hC fun n0 => ?_) fun _ _ _ => .of
   simp only [comp] at hx
   cases hnd : ops.toList.all nod with
   | false =>
    rw [hnd] at hx
    cases hx
    exact hk.elim
   | true =>
    rw [hnd, Bool.not_true, cond_false] at hx
    simp only [Option.bind_eq_bind, Option.bind_eq_some_iff] at hx
    obtain ⟨is, his, hx⟩ := hx
    split at hx
    ·cases hx; exact hk
    ·cases hx; exact hk.elim
 | seq c d ih1 ih2 =>
  intro x hx r N E hE hrd G ρ t h a w K hC hk
  simp only [comp, Option.bind_eq_bind, Option.bind_eq_some_iff, Option.some.injEq] at hx
  obtain ⟨y, hy, z, hz, rfl⟩ := hx
  simp only [wx_seq] at hk
  refine wpIn_seq (wpIn_mono (ih1 y hy r N E hE hrd G ρ t h a w _ hC hk) fun e a' w' hq => ?_)
  obtain ⟨E1, hM, hb1, G', ρ', t', h', hC', hk'⟩ := hq
  have hb2 : nrf (.seq c d) = true → E1 = E := fun h => hb1 (by simp only [nrf, Bool.and_eq_true] at h; exact h.1)
  cases e with
  | normal =>
   refine wpIn_mono (ih2 z hz r N E1 (by rw [hM.er, hM.eh]; exact hE) (hrd.mk hM) G' ρ' t' h' a' w' K hC' (by rw [hM.eh]; exact hk')) fun e a'' w'' hq => ?_
   obtain ⟨E2, hM2, hb3, hq⟩ := hq
   exact ⟨E2, hM.trans hM2, fun h => by simp only [nrf, Bool.and_eq_true] at h; rw [hb3 h.2, hb1 h.1], hq⟩
  | exit id => exact ⟨E1, hM, hb2, G', ρ', t', h', hC', hk'⟩
  | ret => exact ⟨E1, hM, hb2, G', ρ', t', h', hC', hk'⟩
  | panic ch => exact ⟨E1, hM, hb2, G', ρ', t', h', hC', hk'⟩
  | goto l => exact hk'.elim
  | outgrown => exact hk'.elim
 | cond c x y ih1 ih2 =>
  intro z hz r N E hE hrd G ρ t h a w K hC hk
  simp only [comp, Option.bind_eq_bind, Option.bind_eq_some_iff, Option.some.injEq] at hz
  obtain ⟨oc, hoc, x', hx, y', hy, rfl⟩ := hz
  simp only [wx_cond] at hk
  split at hk
  ·rename_i b hb
   have hv := (hb ▸ opd_ok hC hoc).bool
   cases b
   ·exact wpIn_cond_false hv (wpIn_mono (ih2 y' hy r N E hE hrd G ρ t h a w K hC hk) fun _ _ _ ⟨E1, hM, hb1, hq⟩ => ⟨E1, hM, fun h => hb1 (by simp only [nrf, Bool.and_eq_true] at h; exact h.2), hq⟩)
   ·exact wpIn_cond_true hv (wpIn_mono (ih1 x' hx r N E hE hrd G ρ t h a w K hC hk) fun _ _ _ ⟨E1, hM, hb1, hq⟩ => ⟨E1, hM, fun h => hb1 (by simp only [nrf, Bool.and_eq_true] at h; exact h.1), hq⟩)
  ·exact hk.elim
 | block id c ih =>
  intro x hx r N E hE hrd G ρ t h a w K hC hk
  simp only [comp, Option.bind_eq_bind, Option.bind_eq_some_iff, Option.some.injEq] at hx
  obtain ⟨y, hy, rfl⟩ := hx
  simp only [wx_block] at hk
  refine wpIn_block (wpIn_mono (ih y hy r N E hE hrd G ρ t h a w _ hC hk) fun e a' w' hq => ?_)
  obtain ⟨E1, hM, hb1, G', ρ', t', h', hC', hk'⟩ := hq
  cases e with
  | normal => exact ⟨E1, hM, hb1, G', ρ', t', h', hC', hk'⟩
  | exit i =>
   simp only at hk'
   unfold Exit.inBlock
   simp only
   by_cases e : i = id
   ·rw [if_pos e]
    rw [e, Nat.beq_refl] at hk'
    exact ⟨E1, hM, hb1, G', ρ', t', h', hC', hk'⟩
   ·rw [if_neg e]
    rw [nbeq e] at hk'
    exact ⟨E1, hM, hb1, G', ρ', t', h', hC', hk'⟩
  | ret => exact ⟨E1, hM, hb1, G', ρ', t', h', hC', hk'⟩
  | panic ch => exact ⟨E1, hM, hb1, G', ρ', t', h', hC', hk'⟩
  | goto l => exact hk'.elim
  | outgrown => exact hk'.elim
 | loop c ih =>
  intro x hx r N E hE hrd G ρ t h a w K hC hk
  simp only [comp, Option.bind_eq_bind, Option.bind_eq_some_iff, Option.some.injEq] at hx
  obtain ⟨y, hy, rfl⟩ := hx
  simp only [wx_loop, lx] at hk
  obtain ⟨A, I, S1, S2, m, x, ⟨i1, i2, i3, i4⟩, hk⟩ := hk
  obtain ⟨ρ1, _, hC1⟩ := hC.less hE i2 i3 i4
  refine wpIn_loopx (fun x a w => I x ∧ ∃ E1 G ρ, MkOf E E1 ∧ (nrf c = true → E1 = E) ∧ Conc E1 n G ρ (S1 x) (S2 x) a w) m x ⟨i1, E, G, ρ1, .refl E, fun _ => rfl, hC1⟩ fun x a w hI => ?_
  obtain ⟨hI, E1, G, ρ, hM, hb, hC⟩ := hI
  have hE1 : E1.ρ.length = E1.h.length := by rw [hM.er, hM.eh]; exact hE
  refine wpIn_mono (ih y hy r N E1 hE1 (hrd.mk hM) G ρ _ _ a w _ hC (by rw [hM.eh]; exact hk x hI)) fun e a' w' hq => ?_
  obtain ⟨E2, hM2, hb2, G', ρ', t', h', hC', hk'⟩ := hq
  have hb3 : nrf c = true → E2 = E := fun h => by rw [hb2 h, hb h]
  have hM3 := hM.trans hM2
  cases e with
  | normal =>
   simp only [fl_eq] at hk'
   obtain ⟨t', h', hC', z, z1, z2, z3, z4, z5⟩ := stls_ok _ hC' hk'
   obtain ⟨ρ2, _, hC2⟩ := hC'.less (by rw [hM3.er, hM3.eh]; exact hE) z3 z4 (by rw [hM3.eh]; exact z5)
   exact ⟨z, ⟨z1, E2, G', ρ2, hM3, hb3, hC2⟩, z2⟩
  | exit i => exact ⟨E2, hM3, hb3, G', ρ', t', h', hC', hk'⟩
  | ret => exact ⟨E2, hM3, hb3, G', ρ', t', h', hC', hk'⟩
  | panic ch => exact ⟨E2, hM3, hb3, G', ρ', t', h', hC', hk'⟩
  | goto l => exact hk'.elim
  | outgrown => exact hk'.elim
 | exit id =>
  intro x hx r N E hE hrd G ρ t h a w K hC hk
  cases hx
  exact wpIn_exit (.of ⟨G, ρ, t, h, hC, hk⟩)
 | ret =>
  intro x hx r N E hE hrd G ρ t h a w K hC hk
  cases hx
  exact wpIn_ret (.of ⟨G, ρ, t, h, hC, hk⟩)
 | rangeFunc g ps ca cb ih1 ih2 =>
  intro x hx r N E hE hrd G ρ t h a w K hC hk
  simp only [comp] at hx
  cases hcnd : Nat.ble P.funcs.size 5000000 && ps.toList.all (fun p => Nat.blt p n) with
  | false => rw [hcnd] at hx; cases hx; exact hk.elim
  | true =>
   rw [hcnd, cond_true] at hx
   simp only [Bool.and_eq_true, List.all_eq_true] at hcnd
   split at hx
   ·rename_i og hg
    simp only [Option.bind_eq_bind, Option.bind_eq_some_iff, Option.some.injEq] at hx
    obtain ⟨xa, hxa, xb, hxb, rfl⟩ := hx
    exact rf_ok ow hE hrd (ih1 xa hxa) (ih2 xb hxb) hg (fun p hp => (Nat.blt_eq ..).mp (hcnd.2 p hp)) (Nat.le_of_ble_eq_true hcnd.1) rfl hC hk
   ·cases hx; exact hk.elim
 | _ =>
  intro x hx r N E hE hrd G ρ t h a w K hC hk
  cases hx
  exact hk.elim
theorem wx_okM (hm : P.follows .mixedOrders = true) (hE : E.ρ.length = E.h.length) (c : Code) (x : C) (hx : comp P n c = some x) (G : Nat → Prop) (ρ : List Value) (t : T) (h : H) (a : Act) (w : World) (K : Ex → T → H → Prop) (hC : Conc E n G ρ t h a w)
  (hk : wx (Sat P) ow E.h.length x t h K) : c.wpIn (Fw none) 0 P (QM (nrf c) E n K) a w :=
 wk_ok ow hm c x hx none 0 E hE (.none E) G ρ t h a w K hC hk
theorem wx_ok (hm : P.follows .mixedOrders = true) (hE : E.ρ.length = E.h.length) (c : Code) (x : C) (hx : comp P n c = some x) (hr : nrf c = true) (G : Nat → Prop) (ρ : List Value) (t : T) (h : H) (a : Act) (w : World) (K : Ex → T → H → Prop) (hC : Conc E n G ρ t h a w)
  (hk : wx (Sat P) ow E.h.length x t h K) : c.wp P (QK E n K) a w :=
 wpIn_wide.1 (wpIn_mono (wx_okM ow hm hE c x hx G ρ t h a w K hC hk) fun _ _ _ hq => by rw [hr] at hq; exact hq.qk)
end
end Go.Vx
