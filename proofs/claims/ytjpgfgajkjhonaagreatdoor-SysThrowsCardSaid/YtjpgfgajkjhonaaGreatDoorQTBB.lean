/- slices.Insert of texts: the library's contract, in the picture. Conditions: fewer than a thousand million texts. -/
import Derived.Test.YtjpgfgajkjhonaaGreatDoorQTAY
import Derived.Test.YtjpgfgajkjhonaaGreatDoorQTAS
import Derived.KernelRfl
import Derived.Test.YtjpgfgajkjhonaaGreatDoorQTAV
import Derived.Test.YtjpgfgajkjhonaaGreatDoorQTBA
namespace Go.Proofs.YtjpgfgajkjhonaaGreatDoor
open Go.Vx
set_option maxRecDepth 100000
open Go.RowKit Go.Shelf Go.Proofs
def rowsS (l : List (List UInt8)) : List (List D) := l.map fun s => [.str s]
theorem rowsS_get {l : List (List UInt8)} {i : Nat} {row : List D} (h : (rowsS l)[i]? = some row) : ∃ s, l[i]? = some s ∧ row = [.str s] := by
 rw [rowsS, List.getElem?_map, Option.map_eq_some_iff] at h
 obtain ⟨s, h1, rfl⟩ := h
 exact ⟨s, h1, rfl⟩
theorem rowsS_len (l : List (List UInt8)) : (rowsS l).length = l.length := List.length_map _
theorem setCells_at (b : Nat) : ∀ (vs : List Value) (o : Nat) (w : World) (arr : Array Value) (ty : TypeId) (m : Nat × Nat), w.heap[b]? = some (.cells arr ty m) →
  ∃ arr', (w.setCells b o vs).heap[b]? = some (.cells arr' ty m) ∧ arr'.size = arr.size ∧ (∀ j, (j < o ∨ o + vs.length ≤ j) → arr'[j]? = arr[j]?) ∧ (∀ j, j < vs.length → o + j < arr.size → arr'[o + j]? = vs[j]?) ∧
   (∀ k, k ≠ b → (w.setCells b o vs).heap[k]? = w.heap[k]?) ∧ (w.setCells b o vs).heap.size = w.heap.size ∧ (w.setCells b o vs).os = w.os ∧ (w.setCells b o vs).tape = w.tape ∧ (w.setCells b o vs).output = w.output
 | [], o, w, arr, ty, m, h => ⟨arr, h, rfl, fun _ _ => rfl, fun j hj => by simp at hj, fun _ _ => rfl, rfl, rfl, rfl, rfl⟩
 | v :: vs, o, w, arr, ty, m, h => by
  have hlt : b < w.heap.size := (Array.getElem?_eq_some_iff.1 h).1
  have hv : w.heap[b] = .cells arr ty m := (Array.getElem?_eq_some_iff.1 h).2
  have h1 : (w.setCell ⟨b, o, none⟩ v).heap[b]? = some (.cells (arr.setIfInBounds o v) ty m) := by
   unfold World.setCell
   rw [Array.getElem?_eq_getElem (by simpa using hlt), Array.getElem_modify]
   simp [hv]
  obtain ⟨arr', g1, g2, g3, g4, g5, g6, g7, g8, g9⟩ := setCells_at b vs (o + 1) (w.setCell ⟨b, o, none⟩ v) _ ty m h1
  refine ⟨arr', g1, by simpa using g2, fun j hj => ?_, fun j hj hl => ?_, fun k hk => (g5 k hk).trans ?_, by rw [World.setCells, g6]; simp [World.setCell], g7, g8, g9⟩
  ·rw [g3 j (by simp at hj; omega), Array.getElem?_setIfInBounds, if_neg (by simp at hj; omega)]
  ·cases j with
   | zero =>
    rw [Nat.add_zero, g3 o (.inl (by omega)), Array.getElem?_setIfInBounds, if_pos rfl, if_pos (by omega)]
    rfl
   | succ j =>
    have := g4 j (by simpa using hj) (by simp; omega)
    rw [show o + (j + 1) = o + 1 + j by omega, this]
    rfl
  ·simp [World.setCell, Array.getElem?_modify, Ne.symm hk]
theorem gone2_ok {G : Nat → Prop} {w w' : World} {v0 v1 v2 : Value} {x0 x1 x2 : B} (hR : HR G w [v0, v1] [x0, x1]) (hx : x0 ≠ .no) (hs : w.heap.size ≤ w'.heap.size) (same : ∀ b, b < w.heap.size → b ∉ bks v0 x0 → w'.heap[b]? = w.heap[b]?) (ho : w'.os = w.os) (ht : w'.tape = w.tape) (hou : w'.output = w.output)
  (new : RepB G w' [v0, v1, v2] v2 x2) (hb1 : ∀ b ∈ bks v2 x2, b ∈ bks v0 x0 ∨ w.heap.size ≤ b) : Ok ⟨w, G, [v0, v1], [x0, x1], [], []⟩ G w' [v0, v1, v2] [.no, .no, x2] := by
 have h0 : ∀ b, b ∈ bks v0 x0 → own [v0, v1] [x0, x1] b := fun b hb => ⟨0, v0, x0, rfl, rfl, hx, hb⟩
 have hG : ∀ b, G b → w'.heap[b]? = w.heap[b]? := fun b hb => same b (hR.gl b hb) fun h => hR.gd b hb (h0 b h)
 have get : ∀ (i : Nat) (v : Value) (y : B), [v0, v1, v2][i]? = some v → [B.no, B.no, x2][i]? = some y → y ≠ .no → i = 2 ∧ v = v2 ∧ y = x2 := by
  intro i v y h1 h2 h3
  match i, h1, h2 with
  | 0, h1, h2 => cases h2; exact absurd rfl h3
  | 1, h1, h2 => cases h2; exact absurd rfl h3
  | 2, h1, h2 => cases h1; cases h2; exact ⟨rfl, rfl, rfl⟩
 have hown : ∀ b, own [v0, v1, v2] [.no, .no, x2] b → own [v0, v1] [x0, x1] b ∨ w.heap.size ≤ b := by
  rintro b ⟨i, v, y, h1, h2, h3, h4⟩
  obtain ⟨rfl, rfl, rfl⟩ := get i v y h1 h2 h3
  exact (hb1 b h4).imp (h0 b) fun h => h
 refine ⟨⟨rfl, fun i v y h1 h2 => ?_, fun i j v u x y b h1 h2 h3 h4 h5 h6 _ _ => ?_, fun b hb => Nat.lt_of_lt_of_le (hR.gl b hb) hs, fun b hb ho => ?_, hR.glb.mono (fun _ h => h) hG⟩, fun _ h => h, fun _ h => .inl h, fun b hb => (hown b hb).symm.imp (fun h => h) fun h => h,
  fun b hb hn => same b hb fun h => hn (h0 b h), hs, ho, ht, hou, fun i v hv _ => ?_, by simp, fun _ h => nomatch h⟩
 ·by_cases hy : y = .no
  ·subst hy; trivial
  ·obtain ⟨rfl, rfl, rfl⟩ := get i v y h1 h2 hy
   exact new
 ·obtain ⟨rfl, _⟩ := get i v x h1 h2 h3
  obtain ⟨rfl, _⟩ := get j u y h4 h5 h6
  rfl
 ·rcases hown b ho with h | h
  ·exact hR.gd b hb h
  ·have := hR.gl b hb; omega
 ·match i, hv with
  | 0, hv => exact hv
  | 1, hv => exact hv
set_option maxHeartbeats 1000000 in
theorem insertS (l : List (List UInt8)) (key : List UInt8) (i : Nat) (hi : i ≤ l.length) (hll : l.length < 1000000000) :
  Sat Tryz.prog 48 [.os 0, .d (.int .i64 i), .os 1] [.rows 1 (rowsS l), .rows 1 [[.str key]]] fun out h => out = .ret (.os 2) ∧ h = [.no, .no, .rows 1 (rowsS (l.take i ++ key :: l.drop i))] := by
 refine .inl ⟨by kernel_rfl, fun G w ρ vs hR hl hv => ?_⟩
 match ρ, hR.len with
 | [v0, v1], _ =>
 match vs, hl with
 | [a0, a1, a2], _ =>
 have e0 : a0 = v0 := by
  have := hv 0 _ rfl
  cases this with | o h => cases h with | c h => cases h with | k h => cases h with | os _ a n c h => exact (Option.some.inj h).symm
 have e1 : a1 = .int .i64 i := (hv 1 _ rfl).int
 subst e0 e1
 have e2 : a2 = v1 := by
  have := hv 2 _ rfl
  cases this with | o h => cases h with | c h => cases h with | k h => cases h with | os _ a n c h => exact (Option.some.inj h).symm
 subst e2
 obtain ⟨vb, vc, vty, s, varr, e2, hvb, hcv, hs⟩ : ∃ vb vc vty s varr, a2 = .slice (some ⟨vb, 0, none⟩) 1 vc ∧ w.heap[vb]? = some (.cells varr vty (0, 0)) ∧ varr[0]? = some (.string s) ∧ RepD G w (.string s) (.str key) := by
  rcases hR.rep 1 a2 _ rfl rfl with ⟨_, h⟩ | ⟨b, c, arr, ty, h0, h1, h2, h3, h4, h5⟩
  ·cases h
  ·have := (h5 0 _ rfl).2 0 _ rfl
   have hlt : 0 < arr.size := by rw [h4]; simp at h2; omega
   rw [Nat.zero_mul, Nat.zero_add, Array.getD_eq_getD_getElem?, Array.getElem?_eq_getElem hlt] at this
   generalize hx : arr[0] = x at this
   have hx' : arr[0]? = some x := by rw [Array.getElem?_eq_getElem hlt, hx]
   replace this : RepD G w x (.str key) := this
   cases this with
   | str s hs => exact ⟨b, c, ty, s, arr, h0, h1, hx', .str s hs⟩
 have e2' := e2
 subst e2'
 have hvs : ∀ (o : Nat) (j : Nat) (v : Value), [Value.string s][j]? = some v → o = 0 → w.cell? ⟨vb, o + j, none⟩ = some v := by
  intro o j v hj ho
  subst ho
  match j, hj with
  | 0, hj => cases hj; rw [cell_arr hvb]; exact hcv
 have hmax : (1000000000 : Nat) ≤ maxLen := by decide
 have hlen : (l.take i ++ key :: l.drop i).length = l.length + 1 := by
  rw [List.length_append, List.length_cons, List.length_take, List.length_drop]
  omega
 have fin : ∀ (w' : World) (b' c' : Nat) (arr' : Array Value) (ty : TypeId), w'.heap[b']? = some (.cells arr' ty (0, 0)) → arr'.size = c' → l.length + 1 ≤ c' → c' ≤ maxLen → (∀ (j : Nat) (u : List UInt8), (l.take i ++ key :: l.drop i)[j]? = some u → RepD G w (arr'.getD j undef) (.str u)) →
   (b' ∈ bks a0 (.rows 1 (rowsS l)) ∨ w.heap.size ≤ b') → w.heap.size ≤ w'.heap.size → (∀ b, b < w.heap.size → b ∉ bks a0 (.rows 1 (rowsS l)) → w'.heap[b]? = w.heap[b]?) → w'.os = w.os → w'.tape = w.tape → w'.output = w.output →
   ∃ (G' : Nat → Prop) (ρ' : List Value) (h' : H) (out : Out), Ok ⟨w, G, [a0, .slice (some ⟨vb, 0, none⟩) 1 vc], [.rows 1 (rowsS l), .rows 1 [[.str key]]], [], []⟩ G' w' ρ' h' ∧ RepO G' w' ρ' (.returned (.slice (some ⟨b', 0, none⟩) (l.length + 1) c')) out ∧ (out = .ret (.os 2) ∧ h' = [.no, .no, .rows 1 (rowsS (l.take i ++ key :: l.drop i))]) := by
  intro w' b' c' arr' ty g1 g2 g3 g4 g5 g6 g7 g8 g9 g10 g11
  refine ⟨G, [a0, .slice (some ⟨vb, 0, none⟩) 1 vc, .slice (some ⟨b', 0, none⟩) (l.length + 1) c'], _, .ret (.os 2), gone2_ok (x2 := .rows 1 (rowsS (l.take i ++ key :: l.drop i))) hR (by simp) g7 g8 g9 g10 g11 (.inr ⟨b', c', arr', ty, ?_, g1, ?_, g4, by omega, fun j row hj => ?_⟩) (fun b hb => ?_), ⟨_, rfl, .k (.os 2 _ _ _ rfl)⟩, rfl, rfl⟩
  ·rw [rowsS_len, hlen]
  ·rw [rowsS_len, hlen]; exact g3
  ·obtain ⟨u, h1, rfl⟩ := rowsS_get hj
   refine ⟨rfl, fun k x hx => ?_⟩
   match k, hx with
   | 0, hx =>
    cases hx
    have := g5 j u h1
    rw [show j * 1 + 0 = j by omega]
    exact scd_ok this rfl
  ·have hb := (mem_bk0).1 hb
   cases hb
   exact g6
 have fst : ∀ {j : Nat}, j < i → (l.take i ++ key :: l.drop i)[j]? = l[j]? := fun hj => by
  rw [List.getElem?_append_left (by rw [List.length_take]; omega), List.getElem?_take, if_pos hj]
 have mid : (l.take i ++ key :: l.drop i)[i]? = some key := by
  rw [List.getElem?_append_right (by rw [List.length_take]; omega), List.length_take, Nat.min_eq_left hi, Nat.sub_self]; rfl
 have lst : ∀ {j : Nat}, i < j → (l.take i ++ key :: l.drop i)[j]? = l[j - 1]? := fun {j} hj => by
  rw [List.getElem?_append_right (by rw [List.length_take]; omega), List.length_take, Nat.min_eq_left hi]
  obtain ⟨k, rfl⟩ : ∃ k, j = i + 1 + k := ⟨j - (i + 1), by omega⟩
  rw [show i + 1 + k - i = k + 1 by omega, List.getElem?_cons_succ, List.getElem?_drop]
  congr 1
  omega
 have hgt : ∀ (arr : Array Value) (j : Nat) (v : Value), arr[j]? = some v → arr.getD j undef = v := fun arr j v h => by rw [Array.getD_eq_getD_getElem?, h]; rfl
 have grw : ∀ (o : Obj), Grw w (w.drew.alloc o) := fun o => (Grw.drew w).trans (Grw.alloc _ _)
 have zc : ∀ k, (Builtin.zeroCells (Value.string ⟨#[]⟩).cells k).size = k := fun k => by rw [size_zeroCells]; simp [Value.cells]
 rcases hR.rep 0 a0 _ rfl rfl with ⟨rfl, hnil⟩ | ⟨b, c, arr, ty, rfl, h1, h2, h3, h4, h5⟩
 ·skip
  have hl0 : l = [] := by
   cases l with
   | nil => rfl
   | cons => cases hnil
  subst hl0
  have hi0 : i = 0 := by simpa using hi
  subst hi0
  have := Any2.slices_Insert_string_end_grow insert none 0 0 vb 0 1 vc [] [.string s] w (by omega) (by omega) (by omega) (by omega) rfl rfl (fun _ => rfl) (fun a h => by cases h) (fun j v hj => hvs 0 j v hj rfl) (by simp [Value.oneCell'])
  refine Calls.mono this ?_
  rintro e w' ⟨rfl, rfl⟩
  have hge := grownCap_ge w (0 + 1) 0 (insertR.t 9)
  refine fin _ _ _ _ _ (heap_alloc_new w.drew _) ?_ hge (grownCap_le_maxLen w _ _ _ (by omega)) (fun j u hj => ?_) (.inr (Nat.le_refl _)) (grw _).size (fun b hb _ => (grw _).old b hb) rfl rfl rfl
  ·simp only [Array.size_append, zc, List.size_toArray, List.length_append, List.length_nil, List.length_cons]
   omega
  ·match j, hj with
   | 0, hj =>
    cases hj
    rw [hgt _ 0 (.string s) (by rw [Array.getElem?_append_left (by simp)]; rfl)]
    exact hs
 ·rw [rowsS_len] at h2 hR fin ⊢
  have hsz : arr.size = c := by omega
  have old : ∀ (j : Nat) (u : List UInt8), l[j]? = some u → RepD G w (arr.getD j undef) (.str u) := fun j u hj => by
   have := (h5 j [.str u] (by rw [rowsS, List.getElem?_map, hj]; rfl)).2 0 _ rfl
   rwa [show j * 1 + 0 = j by omega] at this
  have hbo : b ∈ bks (.slice (some ⟨b, 0, none⟩) l.length c) (.rows 1 (rowsS l)) := (mem_bk0).2 rfl
  have hblt : b < w.heap.size := (Array.getElem?_eq_some_iff.1 h1).1
  have hne : vb ≠ b := fun e => by
   have := hR.dis 0 1 _ _ _ _ b rfl rfl (by simp) rfl rfl (by simp) hbo ((mem_bk0).2 (by rw [← e]; rfl))
   cases this
  have hcell : ∀ j, j < c → w.cell? ⟨b, 0 + j, none⟩ = some (arr.getD j undef) := fun j hj => by
   rw [Nat.zero_add, cell_arr h1, Array.getD_eq_getD_getElem?, Array.getElem?_eq_getElem (by omega)]; rfl
  have hcs : ∀ (j : Nat) (v : Value), ((List.range l.length).map fun j => arr.getD j undef)[j]? = some v → v = arr.getD j undef ∧ j < l.length := fun j v hj => by
   rw [List.getElem?_map, Option.map_eq_some_iff] at hj
   obtain ⟨k, hk, rfl⟩ := hj
   obtain ⟨hk1, hk2⟩ := List.getElem?_eq_some_iff.1 hk
   simp at hk1 hk2
   exact ⟨by rw [hk2], hk1⟩
  have hone : ∀ v ∈ (List.range l.length).map (fun j => arr.getD j undef), v.oneCell' = true := fun v hv => by
   obtain ⟨j, hj⟩ := List.mem_iff_getElem?.1 hv
   obtain ⟨rfl, hj2⟩ := hcs j v hj
   have := old j _ (List.getElem?_eq_getElem hj2)
   generalize l[j] = y at this
   generalize arr.getD j undef = u at this ⊢
   cases this
   rfl
  have hc63 : c ≤ 9223372036854775807 := h3
  have hfz : ∀ j, w.frozen? ⟨b, j, none⟩ = false := fun j => by simp [World.frozen?, h1]
  by_cases hin : i = l.length
  ·subst hin
   by_cases hroom : l.length + 1 ≤ c
   ·have := Any2.slices_Insert_string_end_room insert b 0 l.length c vb 0 1 vc [.string s] w (by omega) hroom hc63 rfl (fun j hj => by rw [show 0 + l.length + j = 0 + (l.length + j) by omega, hcell _ (by omega)]; rfl) (fun j _ => hfz _) (fun j v hj => hvs 0 j v hj rfl) (by simp [Value.oneCell'])
    refine Calls.mono this ?_
    rintro e w' ⟨rfl, rfl⟩
    obtain ⟨arr', g1, g2, g3, g4, g5, g6, g7, g8, g9⟩ := setCells_at b [.string s] (0 + l.length) w arr ty _ h1
    refine fin _ b c arr' ty g1 (by omega) hroom h3 (fun j u hj => ?_) (.inl hbo) (by omega) (fun k hk hk2 => g5 k fun e => hk2 (by rw [e]; exact hbo)) g7 g8 g9
    by_cases hj1 : j < l.length
    ·rw [fst hj1] at hj
     have := old j u hj
     rwa [Array.getD_eq_getD_getElem?, g3 j (.inl (by omega)), ← Array.getD_eq_getD_getElem?]
    ·have hjl := (List.getElem?_eq_some_iff.1 hj).1
     rw [hlen] at hjl
     have : j = l.length := by omega
     subst this
     rw [mid] at hj
     cases hj
     have := g4 0 (by simp) (by omega)
     rw [show 0 + l.length + 0 = l.length by omega] at this
     rw [hgt _ _ _ this]
     exact hs
   ·have := Any2.slices_Insert_string_end_grow insert (some ⟨b, 0, none⟩) l.length c vb 0 1 vc ((List.range l.length).map fun j => arr.getD j undef) [.string s] w (by omega) h2 (by omega) (by omega) (by simp) rfl (fun h => by cases h) (fun a h j v hj => by
     cases h
     obtain ⟨rfl, hj2⟩ := hcs j v hj
     have := hcell j (by omega)
     rw [Addr.add_lit]
     exact this) (fun j v hj => hvs 0 j v hj rfl) (by simp [Value.oneCell'])
    refine Calls.mono this ?_
    rintro e w' ⟨rfl, rfl⟩
    have hge := grownCap_ge w (l.length + 1) c (insertR.t 9)
    refine fin _ _ _ _ _ (heap_alloc_new w.drew _) ?_ hge (grownCap_le_maxLen w _ _ _ (by omega)) (fun j u hj => ?_) (.inr (Nat.le_refl _)) (grw _).size (fun b hb _ => (grw _).old b hb) rfl rfl rfl
    ·simp only [Array.size_append, zc, List.size_toArray, List.length_append, List.length_nil, List.length_cons, List.length_map, List.length_range]
     omega
    ·by_cases hj1 : j < l.length
     ·rw [fst hj1] at hj
      have := old j u hj
      rw [hgt _ j (arr.getD j undef) (by rw [Array.getElem?_append_left (by simp; omega)]; simp [List.getElem?_append_left, hj1])]
      exact this
     ·have hjl := (List.getElem?_eq_some_iff.1 hj).1
      rw [hlen] at hjl
      have : j = l.length := by omega
      subst this
      rw [mid] at hj
      cases hj
      rw [hgt _ l.length (.string s) (by rw [Array.getElem?_append_left (by simp)]; simp)]
      exact hs
  ·have hil : i < l.length := by omega
   have hcsl : ((List.range l.length).map fun j => arr.getD j undef).length = l.length := by simp
   have hcs2 : ∀ (j : Nat) (v : Value), ((List.range l.length).map fun j => arr.getD j undef)[j]? = some v → w.cell? ⟨b, 0 + j, none⟩ = some v := fun j v hj => by
    obtain ⟨rfl, hj2⟩ := hcs j v hj
    exact hcell j (by omega)
   have hdr : ∀ {j : Nat}, j < l.length - i → (((List.range l.length).map fun j => arr.getD j undef).drop i)[j]? = some (arr.getD (i + j) undef) := fun {j} hj => by
    rw [List.getElem?_drop, List.getElem?_map, List.getElem?_range (by omega)]
    rfl
   have hdl : (((List.range l.length).map fun j => arr.getD j undef).drop i).length = l.length - i := by simp
   have new : ∀ (arr' : Array Value), (∀ j, j < i → arr'[j]? = some (arr.getD j undef)) → arr'[i]? = some (.string s) → (∀ j, j < l.length - i → arr'[i + 1 + j]? = some (arr.getD (i + j) undef)) → ∀ (j : Nat) (u : List UInt8), (l.take i ++ key :: l.drop i)[j]? = some u → RepD G w (arr'.getD j undef) (.str u) := by
    intro arr' n1 n2 n3 j u hj
    have hjl := (List.getElem?_eq_some_iff.1 hj).1
    rw [hlen] at hjl
    rcases Nat.lt_trichotomy j i with h | rfl | h
    ·rw [fst h] at hj
     rw [hgt _ _ _ (n1 j h)]
     exact old j u hj
    ·rw [mid] at hj
     cases hj
     rw [hgt _ _ _ n2]
     exact hs
    ·rw [lst h] at hj
     have := n3 (j - (i + 1)) (by omega)
     rw [show i + 1 + (j - (i + 1)) = j by omega, show i + (j - (i + 1)) = j - 1 by omega] at this
     rw [hgt _ _ _ this]
     exact old _ u hj
   by_cases hroom : l.length + 1 ≤ c
   ·have := Any2.slices_Insert_string_shift insert b 0 l.length c i vb 0 1 vc ((List.range l.length).map fun j => arr.getD j undef) [.string s] w hil (by omega) hroom hc63 hne hcsl rfl hcs2 (fun j hj => by rw [hcell j (by omega)]; rfl) (fun j _ => by rw [Nat.zero_add]; exact hfz _) (fun j v hj => hvs 0 j v hj rfl) hone (by simp [Value.oneCell'])
     vty ty varr.size arr.size (by simp [World.shape?, hvb]) (by simp [World.shape?, h1]) (by omega) (by simp [World.frozen?, hvb]) (by simp [World.frozen?, hvb])
    refine Calls.mono this ?_
    rintro e w' ⟨rfl, rfl⟩
    obtain ⟨arr1, g1, g2, g3, g4, g5, g6, g7, g8, g9⟩ := setCells_at b (((List.range l.length).map fun j => arr.getD j undef).drop i) (0 + (i + 1)) w.drew arr ty _ h1
    obtain ⟨arr2, k1, k2, k3, k4, k5, k6, k7, k8, k9⟩ := setCells_at b [.string s] (0 + i) _ arr1 ty _ g1
    refine fin _ b c arr2 ty k1 (by omega) hroom h3 (new arr2 (fun j hj => ?_) ?_ (fun j hj => ?_)) (.inl hbo) (by rw [k6, g6]; exact Nat.le_refl _) (fun k hk hk2 => ?_) (k7.trans g7) (k8.trans g8) (k9.trans g9)
    ·rw [k3 j (.inl (by omega)), g3 j (.inl (by omega)), Array.getD_eq_getD_getElem?, Array.getElem?_eq_getElem (by omega)]
     rfl
    ·have := k4 0 (by simp) (by omega)
     rw [show 0 + i + 0 = i by omega] at this
     exact this
    ·rw [k3 _ (.inr (by simp <;> omega))]
     have := g4 j (by omega) (by omega)
     rw [show 0 + (i + 1) + j = i + 1 + j by omega, hdr hj] at this
     exact this
    ·have hne2 : k ≠ b := fun e => hk2 (by rw [e]; exact hbo)
     exact (k5 k hne2).trans (g5 k hne2)
   ·have := Any2.slices_Insert_string_grow insert b 0 l.length c i vb 0 1 vc ((List.range l.length).map fun j => arr.getD j undef) [.string s] w hil (by omega) h2 (by omega) (by omega) hcsl rfl hcs2 (fun j v hj => hvs 0 j v hj rfl) hone (by simp [Value.oneCell'])
    refine Calls.mono this ?_
    rintro e w' ⟨rfl, rfl⟩
    have hge := grownCap_ge w (l.length + 1) c (insertR.t 9)
    have hgm := grownCap_le_maxLen w (l.length + 1) c (insertR.t 9) (by omega)
    generalize grownCap w (l.length + 1) c (insertR.t 9) = gc at *
    have h0 := heap_alloc_new w (.cells ((((List.range l.length).map fun j => arr.getD j undef).take i).toArray ++ Builtin.zeroCells (Value.string ⟨#[]⟩).cells (l.length + 1 - i) ++ Builtin.zeroCells (Value.string ⟨#[]⟩).cells (gc - (l.length + 1))) (insertR.t 9))
    have hg0 := Grw.alloc w (.cells ((((List.range l.length).map fun j => arr.getD j undef).take i).toArray ++ Builtin.zeroCells (Value.string ⟨#[]⟩).cells (l.length + 1 - i) ++ Builtin.zeroCells (Value.string ⟨#[]⟩).cells (gc - (l.length + 1))) (insertR.t 9))
    have hz : ((((List.range l.length).map fun j => arr.getD j undef).take i).toArray ++ Builtin.zeroCells (Value.string ⟨#[]⟩).cells (l.length + 1 - i) ++ Builtin.zeroCells (Value.string ⟨#[]⟩).cells (gc - (l.length + 1))).size = gc := by
     simp only [Array.size_append, zc, List.size_toArray, List.length_take, List.length_map, List.length_range]
     omega
    have hf : ∀ j, j < i → ((((List.range l.length).map fun j => arr.getD j undef).take i).toArray ++ Builtin.zeroCells (Value.string ⟨#[]⟩).cells (l.length + 1 - i) ++ Builtin.zeroCells (Value.string ⟨#[]⟩).cells (gc - (l.length + 1)))[j]? = some (arr.getD j undef) := fun j hj => by
     rw [Array.append_assoc, Array.getElem?_append_left (by simp; omega), List.getElem?_toArray, List.getElem?_take, if_pos hj, List.getElem?_map, List.getElem?_range (by omega)]
     rfl
    generalize ((((List.range l.length).map fun j => arr.getD j undef).take i).toArray ++ Builtin.zeroCells (Value.string ⟨#[]⟩).cells (l.length + 1 - i) ++ Builtin.zeroCells (Value.string ⟨#[]⟩).cells (gc - (l.length + 1))) = ar0 at *
    obtain ⟨arr1, g1, g2, g3, g4, g5, g6, g7, g8, g9⟩ := setCells_at w.heap.size [.string s] i (w.alloc (.cells ar0 (insertR.t 9))).drew ar0 _ _ h0
    obtain ⟨arr2, k1, k2, k3, k4, k5, k6, k7, k8, k9⟩ := setCells_at w.heap.size (((List.range l.length).map fun j => arr.getD j undef).drop i) (i + 1) ((w.alloc (.cells ar0 (insertR.t 9))).drew.setCells w.heap.size i [.string s]).drew arr1 _ _ g1
    refine fin _ w.heap.size gc arr2 _ k1 (by omega) hge hgm (new arr2 (fun j hj => ?_) ?_ (fun j hj => ?_)) (.inr (Nat.le_refl _)) ?_ (fun k hk hk2 => ?_) (k7.trans g7) (k8.trans g8) (k9.trans g9)
    ·rw [k3 j (.inl (by omega)), g3 j (.inl (by omega)), hf j hj]
    ·rw [k3 i (.inl (by omega))]
     have := g4 0 (by simp) (by omega)
     exact this
    ·have := k4 j (by omega) (by omega)
     rw [hdr hj] at this
     exact this
    ·rw [k6]
     show w.heap.size ≤ ((w.alloc (.cells ar0 (insertR.t 9))).drew.setCells w.heap.size i [.string s]).heap.size
     rw [g6]
     exact hg0.size
    ·exact (k5 k (by omega)).trans ((g5 k (by omega)).trans (hg0.old k hk))
end Go.Proofs.YtjpgfgajkjhonaaGreatDoor
namespace Go.Proofs.YtjpgfgajkjhonaaGreatDoor
open Go.Vx
set_option maxRecDepth 100000
theorem clone85 (l : List (List D)) (hl : l.length < 100000000) : SatP Tryz.prog 85 [.d (.sl 7 l)] (.d (.sl 7 l)) := by
 refine s85 (keep := false) rfl ?_
 cases l with
 | nil =>
  repeat' ((conv => whnf); first | exact zf | refine zg ?_ | intro _ | refine And.intro rfl ?_ | refine za ?_ | refine zl ?_ | refine And.intro ?_ ?_ | fail)
 | cons r l =>
  repeat' ((conv => whnf); first | exact zf | refine zg ?_ | intro _ | refine And.intro rfl ?_ | refine za ?_ | refine zl ?_ | fail)
theorem copied45 (o : Ob) (hl : o.va.q.length < 100000000) : SatP Tryz.prog 45 [agOb o] (agOb o) := by
 have h1 := clone85 (o.va.q.map encWt) (by rw [List.length_map]; exact hl)
 refine s45 (keep := false) rfl ?_
 repeat' ((conv => whnf); first | exact zf | refine zg ?_ | intro _ | refine And.intro rfl ?_ | refine ⟨_, h1, ?_⟩ | refine (h1).use ?_ | refine za ?_ | refine zl ?_ | fail)
def thE (l : List (List UInt8 × Ob)) : List (D × Bool × List D) := l.map fun p => (.str p.1, true, cellsOb p.2)
def lookT (key : List UInt8) : List (List UInt8 × Ob) → Option (Nat × Ob)
 | [] => none
 | p :: r => if key = p.1 then some (0, p.2) else (lookT key r).map fun x => (x.1 + 1, x.2)
theorem fnd_th (key : List UInt8) : ∀ (l : List (List UInt8 × Ob)) (i : Nat), fnd [2] [.d (.str key)] (mpOf (thE l)) i = some ((lookT key l).map fun x => (x.1 + i, agOb x.2))
 | [], i => rfl
 | p :: r, i => by
  have ih := fnd_th key r (i + 1)
  show (bif true then (match some ((key == p.1) && true) with
   | some b => bif b then some (some (i, agOb p.2)) else fnd [2] [.d (.str key)] (mpOf (thE r)) (i + 1)
   | none => none) else none) = _
  rw [lookT]
  by_cases h : key = p.1
  ·rw [if_pos h, h]
   simp
  ·rw [if_neg h, ih]
   have : (key == p.1) = false := by simpa using h
   rw [this]
   simp only [cond_true, cond_false, Bool.false_and, Option.map_map]
   congr 1
   congr 1
   funext x
   simp only [Function.comp_apply]
   rw [show x.1 + 1 + i = x.1 + (i + 1) by omega]
abbrev NmL := List (Lb × Option Nat × List (List Nat))
def nmE (l : NmL) : List ME := l.map fun p => ((p.1.s, p.1.i), some (p.2.1, rowsS (p.2.2.map txt)))
structure Sto where
 th : List (List UInt8 × Ob)
 nm : NmL
def stB (s : Sto) : H := [.cells [.mp 1, .mp 2], .dm (thE s.th), .ms 1 (nmE s.nm) none none]
theorem new18 {K : Out → H → Prop} (hk : K (.ret (.p 0 0)) (stB ⟨[], []⟩)) : Sat Tryz.prog 18 [] [] K := by
 refine s18 (keep := false) rfl ?_
 repeat' ((conv => whnf); first | exact zf | refine zg ?_ | intro _ | refine And.intro rfl ?_ | refine za ?_ | refine zl ?_ | fail)
 exact hk
theorem len25 {K : Out → H → Prop} (s : Sto) (hk : K (.ret (.d (.int .i64 s.th.length))) (stB s)) : Sat Tryz.prog 25 [.p 0 0] (stB s) K := by
 have e : (thE s.th).length = s.th.length := List.length_map _
 rw [← e] at hk
 refine s25 (keep := false) rfl ?_
 repeat' ((conv => whnf); first | exact zf | refine zg ?_ | intro _ | refine And.intro rfl ?_ | refine za ?_ | refine zl ?_ | fail)
 exact hk
def getO (s : Sto) (key : List UInt8) : Ob := ((lookT key s.th).map (·.2)).getD noOb
def hasO (s : Sto) (key : List UInt8) : Bool := (lookT key s.th).isSome
theorem get16 {K : Out → H → Prop} (s : Sto) (key : List UInt8) (hq : (getO s key).va.q.length < 100000000) (hk : K (.ret (.tu [agOb (getO s key), .d (.bool (hasO s key))])) (stB s)) : Sat Tryz.prog 16 [.p 0 0, .d (.str key)] (stB s) K := by
 have hc := copied45 (getO s key) hq
 have hf := fnd_th key s.th 0
 unfold getO hasO at *
 cases h : lookT key s.th with
 | none =>
  rw [h] at hk hc hf
  refine s16 (keep := false) rfl ?_
  repeat' ((conv => whnf); first | exact zf | refine zg ?_ | intro _ | refine And.intro rfl ?_ | refine za ?_ | refine zl ?_ | fail)
  refine ⟨_, hf, ?_⟩
  repeat' ((conv => whnf); first | exact zf | refine zg ?_ | intro _ | refine And.intro rfl ?_ | refine ⟨_, hc, ?_⟩ | refine (hc).use ?_ | refine za ?_ | refine zl ?_ | fail)
  exact hk
 | some p =>
  rw [h] at hk hc hf
  refine s16 (keep := false) rfl ?_
  repeat' ((conv => whnf); first | exact zf | refine zg ?_ | intro _ | refine And.intro rfl ?_ | refine za ?_ | refine zl ?_ | fail)
  refine ⟨_, hf, ?_⟩
  repeat' ((conv => whnf); first | exact zf | refine zg ?_ | intro _ | refine And.intro rfl ?_ | refine ⟨_, hc, ?_⟩ | refine (hc).use ?_ | refine za ?_ | refine zl ?_ | fail)
  exact hk
theorem thE_set (l : List (List UInt8 × Ob)) (i : Nat) (key : List UInt8) (o : Ob) : (thE l).set i (.str key, true, cellsOb o) = thE (l.set i (key, o)) := by
 simp [thE, List.map_set]
def setS (s : Sto) (i : Nat) (key : List UInt8) (o : Ob) : Sto := { s with th := s.th.set i (key, o) }
theorem set111 {K : Out → H → Prop} (s : Sto) (key : List UInt8) (i : Nat) (o was : Ob) (hf : lookT key s.th = some (i, was)) (h1 : was.k = o.k) (h2 : was.l = o.l) (hq : o.va.q.length < 100000000) (hk : K (.ret (.d (.int .i64 0))) (stB (setS s i key o))) :
  Sat Tryz.prog 111 [.p 0 0, .d (.str key), agOb o] (stB s) K := by
 have hc := copied45 o hq
 have hm := fnd_th key s.th 0
 rw [hf] at hm
 unfold setS stB at hk
 simp only [← thE_set] at hk
 have e1 : (was.k != o.k) = false := by simp [h1]
 have e2 : (was.l.s == o.l.s && (was.l.i == o.l.i && true)) = true := by simp [h2]
 refine s111 (keep := false) rfl ?_
 repeat' ((conv => whnf); first | exact zf | refine zg ?_ | intro _ | refine And.intro rfl ?_ | refine za ?_ | refine zl ?_ | fail)
 refine ⟨_, hm, ?_⟩
 repeat' ((conv => whnf); first | exact zf | refine zg ?_ | intro _ | refine And.intro rfl ?_ | refine ⟨_, hc, ?_⟩ | refine (hc).use ?_ | refine za ?_ | refine zl ?_ | refine zt ?_ | refine zu ?_ | fail)
 refine ⟨_, hm, ?_⟩
 repeat' ((conv => whnf); first | exact zf | refine zg ?_ | intro _ | refine And.intro rfl ?_ | refine za ?_ | refine zl ?_ | refine zt ?_ | refine zu ?_ | fail)
 exact hk
def ltK (l : List (List Nat)) (key : List Nat) (i : Nat) : Bool := match l[i]? with
 | some x => decide (cmpL x key < 0)
 | none => false
def binK (l : List (List Nat)) (key : List Nat) : Nat → Nat → Nat → Nat
 | 0, i, _ => i
 | f + 1, i, j => bif decide (i < j) then (bif ltK l key ((i + j) / 2) then binK l key f ((i + j) / 2 + 1) j else binK l key f i ((i + j) / 2)) else i
def goodN (l : List Nat) : Prop := l ≠ [] ∧ l.length ≤ 24 ∧ ∀ n ∈ l, n < 100
theorem shr_half (a : Nat) : shv .shr .u64 (a : Int) 1 = ((a / 2 : Nat) : Int) := by
 show (a : Int).fdiv (2 ^ min (1 : Int).toNat IntKind.u64.bits) = _
 rw [show min (1 : Int).toNat IntKind.u64.bits = 1 by decide, show (2 : Int) ^ 1 = 2 by decide, Int.fdiv_eq_ediv_of_nonneg _ (by omega)]
 omega
def binP (l : List (List Nat)) (key : List Nat) : Nat := binK l key l.length 0 l.length
def binF (l : List (List Nat)) (key : List Nat) : Bool := match l[binP l key]? with
 | some x => cmpL x key == 0
 | none => false
theorem binK_le (l : List (List Nat)) (key : List Nat) : ∀ f i j, i ≤ j → j ≤ l.length → binK l key f i j ≤ l.length
 | 0, i, j, h1, h2 => by rw [binK]; omega
 | f + 1, i, j, h1, h2 => by
  rw [binK]
  cases hd : decide (i < j) with
  | false => rw [cond_false]; omega
  | true =>
   have hd := of_decide_eq_true hd
   rw [cond_true]
   cases ltK l key ((i + j) / 2)
   ·exact binK_le l key f i _ (by omega) (by omega)
   ·exact binK_le l key f _ j (by omega) h2
set_option maxHeartbeats 1000000 in
theorem binary46 (l : List (List Nat)) (key : List Nat) (hl : ∀ x ∈ l, goodN x) (hk : goodN key) (hn : l.length < 1000000000) :
  SatP Tryz.prog 46 [.d (.sl 1 (rowsS (l.map txt))), .d (.str (txt key)), .d (.fn 47)] (.tu [.d (.int .i64 (binP l key)), .d (.bool (binF l key))]) := by
 have e1 : (rowsS (l.map txt)).length = l.length := by rw [rowsS_len, List.length_map]
 have hrow : ∀ (i : Nat) (x : List Nat), l[i]? = some x → (rowsS (l.map txt))[i]? = some [D.str (txt x)] := fun i x h => by simp [rowsS, h]
 refine s46 (keep := false) rfl ?_
 repeat' ((conv => whnf); first | exact zf | refine zg ?_ | intro _ | refine And.intro rfl ?_ | refine za ?_ | refine zl ?_ | fail)
 conv => whnf
 refine loop_use2 [(0, .d (.sl 1 (rowsS (l.map txt)))), (1, .d (.str (txt key))), (2, .d (.fn 47)), (8, .d (.int .i64 (rowsS (l.map txt)).length))] (fun p : Nat × Nat => (p.1 ≤ p.2 ∧ p.2 ≤ l.length) ∧ ∃ f, p.2 - p.1 ≤ f ∧ binK l key f p.1 p.2 = binP l key) (fun p => [(9, .d (.int .i64 p.1)), (10, .d (.int .i64 p.2))]) (fun _ => []) (fun p => p.2 - p.1) (0, l.length) ⟨⟨Nat.zero_le _, Nat.le_refl _⟩, l.length, by simp, rfl⟩ ?_ ?_ ?_ (fun ⟨i, j⟩ hi => ?_)
 ·exact ⟨rfl, congrArg (fun x : Nat => V.d (D.int .i64 x)) e1, rfl, rfl, rfl, rfl, trivial⟩
 ·exact (by repeat' (first | exact trivial | exact rfl | exact Or.inl rfl | refine And.intro ?_ ?_ | refine Or.inr ?_))
 ·exact (by kernel_rfl)
 obtain ⟨⟨h1, h2⟩, f, h3, h4⟩ := hi
 simp only at h1 h2 h3 h4
 repeat' ((conv => whnf); first | exact zf | refine zg ?_ | intro _ | refine And.intro rfl ?_ | refine za ?_ | refine zl ?_ | fail)
 refine sp_intro (fun hlt => ?_) (fun hge => ?_)
 ·have hlt : i < j := by have := of_decide_eq_true hlt; omega
  have hsh : shv .shr .u64 ((i : Int) + (j : Int)) 1 = (((i + j) / 2 : Nat) : Int) := by rw [show (i : Int) + (j : Int) = ((i + j : Nat) : Int) by omega]; exact shr_half _
  have hm : (i + j) / 2 < l.length := by omega
  obtain ⟨x, hx⟩ : ∃ x, l[(i + j) / 2]? = some x := ⟨_, List.getElem?_eq_getElem hm⟩
  have hgx := hl x (List.mem_of_getElem? hx)
  have ho := order47 x key hgx.1 hgx.2.1 hgx.2.2 hk.1 hk.2.1 hk.2.2
  have hlt' : ltK l key ((i + j) / 2) = decide (cmpL x key < 0) := by unfold ltK; rw [hx]
  obtain ⟨f, rfl⟩ : ∃ f', f = f' + 1 := ⟨f - 1, by omega⟩
  rw [binK, decide_eq_true hlt, cond_true, hlt'] at h4
  repeat' ((conv => whnf); first | exact zf | refine zg ?_ | intro _ | refine And.intro rfl ?_ | refine (.inl ⟨by unfold inR; (try dsimp only); omega, ?_⟩) | refine ⟨[.str (txt x)], ⟨by dsimp only; omega, by dsimp only; rw [hsh]; exact hrow _ _ hx, rfl⟩, ?_⟩ | refine ⟨_, ho, ?_⟩ | refine (ho).use ?_ | refine za ?_ | refine zl ?_ | fail)
  refine sp_intro (fun hb => ?_) (fun hb => ?_)
  ·rw [show decide (cmpL x key < 0) = true from hb, cond_true] at h4
   have hs1 : shv .shr .u64 ((i : Int) + (j : Int)) 1 + 1 = (((i + j) / 2 + 1 : Nat) : Int) := by rw [hsh]; rfl
   repeat' ((conv => whnf); first | exact zf | refine zg ?_ | intro _ | refine And.intro rfl ?_ | refine (.inl ⟨by unfold inR; (try dsimp only); omega, ?_⟩) | refine za ?_ | refine zl ?_ | fail)
   exact ⟨((i + j) / 2 + 1, j), ⟨⟨by dsimp only; omega, h2⟩, f, by dsimp only; omega, h4⟩, by dsimp only; omega, ⟨congrArg (fun x : Int => V.d (D.int .i64 x)) hs1, rfl, rfl, rfl, rfl, rfl, trivial⟩, (by repeat' (first | exact trivial | exact rfl | exact Or.inl rfl | refine And.intro ?_ ?_ | refine Or.inr ?_)), rfl⟩
  ·rw [show decide (cmpL x key < 0) = false from hb, cond_false] at h4
   repeat' ((conv => whnf); first | exact zf | refine zg ?_ | intro _ | refine And.intro rfl ?_ | refine za ?_ | refine zl ?_ | fail)
   exact ⟨(i, (i + j) / 2), ⟨⟨by dsimp only; omega, by dsimp only; omega⟩, f, by dsimp only; omega, h4⟩, by dsimp only; omega, ⟨rfl, congrArg (fun x : Int => V.d (D.int .i64 x)) hsh, rfl, rfl, rfl, rfl, trivial⟩, (by repeat' (first | exact trivial | exact rfl | exact Or.inl rfl | refine And.intro ?_ ?_ | refine Or.inr ?_)), rfl⟩
 ·have hij : i = j := by have := of_decide_eq_false hge; omega
  subst hij
  have hb : binP l key = i := by
   rw [← h4]
   cases f with
   | zero => rfl
   | succ f => rw [binK, decide_eq_false (Nat.lt_irrefl i), cond_false]
  unfold binF
  rw [hb]
  cases hx : l[i]? with
  | none =>
   have hil : ¬ i < l.length := by rw [List.getElem?_eq_none_iff] at hx; omega
   repeat' ((conv => whnf); first | exact zf | refine zg ?_ | intro _ | refine And.intro rfl ?_ | refine za ?_ | refine zl ?_ | refine zt ?_ | refine zu ?_ | fail)
  | some x =>
   have hil := (List.getElem?_eq_some_iff.1 hx).1
   have hgx := hl x (List.mem_of_getElem? hx)
   have ho := order47 x key hgx.1 hgx.2.1 hgx.2.2 hk.1 hk.2.1 hk.2.2
   repeat' ((conv => whnf); first | exact zf | refine zg ?_ | intro _ | refine And.intro rfl ?_ | refine ⟨_, ho, ?_⟩ | refine (ho).use ?_ | refine ⟨[.str (txt x)], ⟨by dsimp only; omega, hrow _ _ hx, rfl⟩, ?_⟩ | refine za ?_ | refine zl ?_ | refine zt ?_ | refine zu ?_ | fail)
def insN (ns : List (List Nat)) (kp : List Nat) : List (List Nat) := ns.take (binP ns kp) ++ kp :: ns.drop (binP ns kp)
def idxN (l : Lb) : NmL → Option Nat
 | [] => none
 | p :: r => if p.1.s = l.s ∧ p.1.i = l.i then some 0 else (idxN l r).map (· + 1)
def addN (nm : NmL) (l : Lb) (kp : List Nat) (b : Option Nat) : NmL :=
 match idxN l nm with
 | some i => nm.modify i fun p => (p.1, b, insN p.2.2 kp)
 | none => nm ++ [(l, b, [kp])]
def addS (s : Sto) (kp : List Nat) (o : Ob) (b : Option Nat) : Sto := ⟨s.th ++ [(txt kp, o)], addN s.nm o.l kp b⟩
def goodS (s : Sto) : Prop := s.nm.length < 1000000000 ∧ ∀ p ∈ s.nm, p.2.2.length < 100000000 ∧ ∀ x ∈ p.2.2, goodN x
theorem mfi_nm (l : Lb) : ∀ nm : NmL, mfi (l.s, l.i) (nmE nm) = idxN l nm
 | [] => rfl
 | p :: r => by
  have ih := mfi_nm l r
  unfold mfi nmE at *
  rw [List.map_cons, List.findIdx?_cons, ih, idxN]
  by_cases h : p.1.s = l.s ∧ p.1.i = l.i
  ·rw [if_pos h]
   simp [h.1, h.2]
  ·rw [if_neg h]
   have : ((p.1.s, p.1.i) == (l.s, l.i)) = false := by
    rw [beq_eq_false_iff_ne]
    intro e
    exact h ⟨congrArg (·.1) e, congrArg (·.2) e⟩
   simp [this]
theorem idxN_some {l : Lb} : ∀ {nm : NmL} {i : Nat}, idxN l nm = some i → ∃ p, nm[i]? = some p ∧ p.1 = l
 | [], _, h => by cases h
 | p :: r, i, h => by
  rw [idxN] at h
  split at h
  ·rename_i hp
   cases h
   refine ⟨p, rfl, ?_⟩
   obtain ⟨⟨a, b⟩, q⟩ := p
   cases l
   simp only at hp
   rw [hp.1, hp.2]
  ·cases hr : idxN l r with
   | none => rw [hr] at h; cases h
   | some j =>
    rw [hr] at h
    cases h
    obtain ⟨q, h1, h2⟩ := idxN_some hr
    exact ⟨q, by simpa using h1, h2⟩
theorem mfi_mput {k : List UInt8 × List UInt8} {x : Option (Option Nat × List (List D))} : ∀ {es : List ME} {i : Nat}, mfi k (mput i x es) = mfi k es
 | [], i => by cases i <;> rfl
 | e :: es, 0 => by simp [mfi, mput, List.findIdx?_cons]
 | e :: es, i + 1 => by
  have ih := mfi_mput (k := k) (x := x) (es := es) (i := i)
  unfold mfi mput at *
  rw [List.modify_succ_cons, List.findIdx?_cons, List.findIdx?_cons, ih]
theorem mput_mput {i : Nat} {x y : Option (Option Nat × List (List D))} {es : List ME} : mput i x (mput i y es) = mput i x es := by
 apply List.ext_getElem?
 intro j
 rw [mput_get, mput_get, mput_get]
 by_cases h : i = j
 ·rw [if_pos h, if_pos h, if_pos h]
  cases es[j]? <;> rfl
 ·rw [if_neg h, if_neg h, if_neg h]
theorem nmE_app (nm : NmL) (l : Lb) (b : Option Nat) (kp : List Nat) : nmE (nm ++ [(l, b, [kp])]) = nmE nm ++ [((l.s, l.i), some (b, rowsS [txt kp]))] := by simp [nmE]
theorem thE_app (t : List (List UInt8 × Ob)) (k : List UInt8) (o : Ob) : thE (t ++ [(k, o)]) = thE t ++ [(.str k, true, cellsOb o)] := by simp [thE]
theorem nmE_mod (nm : NmL) (i : Nat) (l : Lb) (g b : Option Nat) (ns : List (List Nat)) (kp : List Nat) (h : nm[i]? = some (l, g, ns)) :
  nmE (nm.modify i fun p => (p.1, b, insN p.2.2 kp)) = mput i (some (b, rowsS ((ns.map txt).take (binP ns kp) ++ txt kp :: (ns.map txt).drop (binP ns kp)))) (nmE nm) := by
 apply List.ext_getElem?
 intro j
 rw [mput_get]
 unfold nmE
 rw [List.getElem?_map, List.getElem?_map, List.getElem?_modify]
 by_cases hj : i = j
 ·subst hj
  rw [h, if_pos rfl]
  simp [insN, List.map_take, List.map_drop]
 ·simp [hj]
set_option maxHeartbeats 4000000 in
theorem add_ok {K : Out → H → Prop} (s : Sto) (kp : List Nat) (o : Ob) (hkp : goodN kp) (hs : goodS s) (hl : smL o.l) (h3 : 3 ≤ o.k) (h7 : o.k ≤ 7) (hr : okL o.l = true) (hq : o.va.q.length < 100000000) (hf : lookT (txt kp) s.th = none) (hk : ∀ b, K (.ret (.d (.int .i64 0))) (stB (addS s kp o b))) :
  Sat Tryz.prog 14 [.p 0 0, .d (.str (txt kp)), agOb o] (stB s) K := by
 have h1 := right43 kp hkp.1 hkp.2.1 hkp.2.2
 have h2 := rightL116 o.l hl
 rw [hr] at h2
 have hm := fnd_th (txt kp) s.th 0
 rw [hf] at hm
 have hc := copied45 o hq
 have hmf := mfi_nm o.l s.nm
 cases hi : idxN o.l s.nm with
 | none =>
  rw [hi] at hmf
  have hb := binary46 [] kp (fun _ h => nomatch h) hkp (by simp)
  have hins := insertS [] (txt kp) 0 (Nat.le_refl _) (by simp)
  refine s14 (keep := false) rfl ?_
  repeat' ((conv => whnf); first | exact zf | refine zg ?_ | intro _ | refine And.intro rfl ?_ | refine ⟨_, h1, ?_⟩ | refine (h1).use ?_ | refine ⟨_, h2, ?_⟩ | refine (h2).use ?_ | refine za ?_ | refine zl ?_ | refine zt ?_ | refine zu ?_ | fail)
  refine ⟨_, hm, ?_⟩
  repeat' ((conv => whnf); first | exact zf | refine zg ?_ | intro _ | refine And.intro rfl ?_ | refine ⟨_, hc, ?_⟩ | refine (hc).use ?_ | refine za ?_ | refine zl ?_ | refine zt ?_ | refine zu ?_ | fail)
  refine ⟨_, hm, ?_⟩
  repeat' ((conv => whnf); first | exact zf | refine zg ?_ | intro _ | refine And.intro rfl ?_ | refine za ?_ | refine zl ?_ | refine zt ?_ | refine zu ?_ | fail)
  refine .inr ⟨⟨hmf, rfl⟩, ?_⟩
  repeat' ((conv => whnf); first | exact zf | refine zg ?_ | intro _ | refine And.intro rfl ?_ | refine (.inl ⟨_, hb, rfl, ?_⟩) | refine (fro_more 2 ?_) | refine (bsn_own ?_) | refine (cfo_new (cfo_new (.inr ?_)) : cfo _ (cfo _ (_ ∨ rqo _ _ 48 _ _ _ _ _ _ _))) | refine ⟨_, _, hins, ?_⟩ | refine za ?_ | refine zl ?_ | refine zt ?_ | refine zu ?_ | fail)
  refine .inr ⟨⟨hmf, rfl, rfl⟩, fun b => ?_⟩
  have hk2 : K (.ret (.d (.int .i64 0))) [.cells [.mp 1, .mp 2], .dm (thE s.th ++ [(.str (txt kp), true, cellsOb o)]), .ms 1 (nmE s.nm ++ [((o.l.s, o.l.i), some (b, rowsS [txt kp]))]) none none] := by
   have := hk b
   unfold addS addN stB at this
   simp only [hi, nmE_app, thE_app] at this
   exact this
  repeat' ((conv => whnf); first | exact zf | refine zg ?_ | intro _ | refine And.intro rfl ?_ | refine za ?_ | refine zl ?_ | refine zt ?_ | refine zu ?_ | fail)
  exact hk2
 | some i =>
  rw [hi] at hmf
  obtain ⟨⟨l, g, ns⟩, hp, hpl⟩ := idxN_some hi
  simp only at hpl
  subst hpl
  obtain ⟨hn1, hn2⟩ := hs.2 _ (List.mem_of_getElem? hp)
  simp only at hn1 hn2
  have hb := binary46 ns kp hn2 hkp (by omega)
  have hble := binK_le ns kp ns.length 0 ns.length (Nat.zero_le _) (Nat.le_refl _)
  have hins := insertS (ns.map txt) (txt kp) (binP ns kp) (by rw [List.length_map]; exact hble) (by rw [List.length_map]; omega)
  have hent : ((nmE s.nm)[i]?).map (·.2) = some (some (g, rowsS (ns.map txt))) := by simp [nmE, hp]
  refine s14 (keep := false) rfl ?_
  repeat' ((conv => whnf); first | exact zf | refine zg ?_ | intro _ | refine And.intro rfl ?_ | refine ⟨_, h1, ?_⟩ | refine (h1).use ?_ | refine ⟨_, h2, ?_⟩ | refine (h2).use ?_ | refine za ?_ | refine zl ?_ | refine zt ?_ | refine zu ?_ | fail)
  refine ⟨_, hm, ?_⟩
  repeat' ((conv => whnf); first | exact zf | refine zg ?_ | intro _ | refine And.intro rfl ?_ | refine ⟨_, hc, ?_⟩ | refine (hc).use ?_ | refine za ?_ | refine zl ?_ | refine zt ?_ | refine zu ?_ | fail)
  refine ⟨_, hm, ?_⟩
  repeat' ((conv => whnf); first | exact zf | refine zg ?_ | intro _ | refine And.intro rfl ?_ | refine za ?_ | refine zl ?_ | refine zt ?_ | refine zu ?_ | fail)
  refine .inl ⟨i, g, rowsS (ns.map txt), ⟨hmf, hent⟩, ?_⟩
  repeat' ((conv => whnf); first | exact zf | refine zg ?_ | intro _ | refine And.intro rfl ?_ | refine (.inl ⟨_, hb, rfl, ?_⟩) | refine (fro_more 2 ?_) | refine (bsn_own ?_) | refine (cfo_new (cfo_new (.inr ?_)) : cfo _ (cfo _ (_ ∨ rqo _ _ 48 _ _ _ _ _ _ _))) | refine ⟨_, _, hins, ?_⟩ | refine za ?_ | refine zl ?_ | refine zt ?_ | refine zu ?_ | fail)
  refine .inl ⟨i, ⟨mfi_mput.trans hmf, fun j v h => (congrArg (·.1) (Option.some.inj h)).symm⟩, fun b => ?_⟩
  have hk2 : K (.ret (.d (.int .i64 0))) [.cells [.mp 1, .mp 2], .dm (thE s.th ++ [(.str (txt kp), true, cellsOb o)]), .ms 1 (mput i (some (b, rowsS ((ns.map txt).take (binP ns kp) ++ txt kp :: (ns.map txt).drop (binP ns kp)))) (mput i none (nmE s.nm))) none none] := by
   have := hk b
   unfold addS addN stB at this
   simp only [hi, nmE_mod _ _ _ _ _ _ _ hp, thE_app] at this
   rw [mput_mput]
   exact this
  repeat' ((conv => whnf); first | exact zf | refine zg ?_ | intro _ | refine And.intro rfl ?_ | refine za ?_ | refine zl ?_ | refine zt ?_ | refine zu ?_ | fail)
  exact hk2
end Go.Proofs.YtjpgfgajkjhonaaGreatDoor
