/- What the rows' list gives: the table of the ops is what the functions read; and a world that holds all of the list. Conditions: the list's own. -/
import Derived.Test.YtoibcfioicdlhaaGreatDoorCo
import Derived.Test.YtoibcfioicdlhaaGreatDoorVxX
import Derived.Test.YtoibcfioicdlhaaGreatDoorCards
import Derived.Test.YtoibcfioicdlhaaGreatDoorTie
import Derived.Deep.DeepHandedRow
import Derived.Deep.DeepWitnessRowRef
import Derived.Lib.LaidTab
import Derived.Lib.SmallJoins
import Derived.Stop.LaidErr
import Derived.Lay
namespace Go.Proofs.YtoibcfioicdlhaaGreatDoor
open Go.Vx
open Go.ChangeShapes Go.WideShapes Go.ChangeAt Go.RowKit

def encOp {H : Type} : List D → DataW H
  | [.str s, .int _ a, .int _ b, .int _ c] => .agg [.lit (.string s), .lit (.int .u8 a), .lit (.int .u8 b), .lit (.int .u8 c)]
  | _ => .nil
theorem laid_is {H : Type} : (Rows.laid_lazaretto_op_table : DataW H) = .agg (opRows.map encOp) := rfl

theorem laidOutT : laidOutB Tryz.prog = true := by kernel_rfl
theorem ownT : ownKnob Tryz.prog.godebug = none := by kernel_rfl
theorem gOp : Tryz.prog.globalNamed "lazaretto/op.table" = some 0 := by kernel_rfl
theorem gOpType : (Tryz.prog.globals[0]?).map (·.type) = some 109 := by kernel_rfl
theorem cells109 : Tryz.prog.cellsOf 109 = 188 := by kernel_rfl
theorem cells108 : Tryz.prog.cellsOf 108 = 4 := by kernel_rfl
theorem cells5 : Tryz.prog.cellsOf 5 = 1 := by kernel_rfl
theorem cells9 : Tryz.prog.cellsOf 9 = 1 := by kernel_rfl

theorem four_of {α : Type} {cs : List α} (h : cs.length = 4) : ∃ c0 c1 c2 c3, cs = [c0, c1, c2, c3] := by
  match cs, h with
  | [c0, c1, c2, c3], _ => exact ⟨c0, c1, c2, c3, rfl⟩
/-- One row of the table: what its cells are. -/
theorem row_is {H : Type} {enc : TypeId × Value → H} {w : World} {base : Nat} {sp : Nat → Bool} {held : Bool} {fuel : Nat} {cs : List Value} {s : List UInt8} {a b c : Int} {p : List MemPlace} (G : Nat → Prop)
    (h : DataW.trod enc Tryz.prog w base sp held fuel 108 cs = some (.agg [.lit (.string s), .lit (.int .u8 a), .lit (.int .u8 b), .lit (.int .u8 c)], p)) :
    cs.length = 4 ∧ ∀ (j : Nat) (x : D), [D.str s, .int .u8 a, .int .u8 b, .int .u8 c][j]? = some x → ∃ v, cs[j]? = some v ∧ RepD G w v x := by
  obtain ⟨y0, y1, y2, y3, n, hx, hl, h0, h1, h2, h3⟩ := Go.Joins.trod_struct4 Tryz.underlying108 h
  rw [cells108] at hl
  obtain ⟨c0, c1, c2, c3, rfl⟩ : ∃ c0 c1 c2 c3, cs = [c0, c1, c2, c3] := four_of hl
  simp only [cells9, cells5, List.drop_zero, List.drop_succ_cons, List.take_succ_cons, List.take_zero] at h0 h1 h2 h3
  obtain ⟨s', e0, rfl, hs⟩ := DataW.trod_string Tryz.underlying9 h0
  obtain ⟨a', e1, rfl, _⟩ := DataW.trod_int Tryz.underlying5 h1
  obtain ⟨b', e2, rfl, _⟩ := DataW.trod_int Tryz.underlying5 h2
  obtain ⟨c', e3, rfl, _⟩ := DataW.trod_int Tryz.underlying5 h3
  simp only [List.cons.injEq, and_true] at e0 e1 e2 e3
  subst e0 e1 e2 e3
  simp only [Prod.mk.injEq, DataW.agg.injEq, List.cons.injEq, DataW.lit.injEq, Lit.string.injEq, Lit.int.injEq, and_true, true_and] at hx
  obtain ⟨⟨rfl, rfl, rfl, rfl⟩, _⟩ := hx
  refine ⟨rfl, fun j x hj => ?_⟩
  match j, hj with
  | 0, hj => cases hj; exact ⟨_, rfl, .str s' hs⟩
  | 1, hj => cases hj; exact ⟨_, rfl, .int .u8 _⟩
  | 2, hj => cases hj; exact ⟨_, rfl, .int .u8 _⟩
  | 3, hj => cases hj; exact ⟨_, rfl, .int .u8 _⟩
  | j + 4, hj => simp at hj

theorem op_shape : ∀ i, i < 47 → ∃ s a b c, opRows[i]? = some [.str s, .int .u8 a, .int .u8 b, .int .u8 c] := by
  intro i hi
  match i, hi with
  | 0, _ | 1, _ | 2, _ | 3, _ | 4, _ | 5, _ | 6, _ | 7, _ | 8, _ | 9, _ | 10, _ | 11, _ | 12, _ | 13, _ | 14, _ | 15, _ | 16, _ | 17, _ | 18, _ | 19, _ | 20, _ | 21, _ | 22, _ | 23, _ | 24, _ | 25, _ | 26, _ | 27, _ | 28, _ | 29, _ | 30, _ | 31, _ | 32, _ | 33, _ | 34, _ | 35, _ | 36, _ | 37, _ | 38, _ | 39, _ | 40, _ | 41, _ | 42, _ | 43, _ | 44, _ | 45, _ | 46, _ => exact ⟨_, _, _, _, rfl⟩
  | n + 47, h => omega
theorem flat4 : ∀ (l : List (List D)), (∀ r ∈ l, r.length = 4) → ∀ (j : Nat), l.flatten[j]? = (l[j / 4]?).bind (·[j % 4]?)
  | [], _, j => by simp
  | r :: l, h, j => by
    have hr := h r (by simp)
    rw [List.flatten_cons]
    by_cases hj : j < 4
    · rw [List.getElem?_append_left (by omega), Nat.div_eq_of_lt hj, Nat.mod_eq_of_lt hj]
      simp
    · rw [List.getElem?_append_right (by omega), flat4 l (fun x hx => h x (by simp [hx])), hr, show j / 4 = (j - 4) / 4 + 1 by omega, show j % 4 = (j - 4) % 4 by omega]
      simp
theorem four_mod (j : Nat) : j / 4 * 4 + j % 4 = j := by omega
theorem none_of {l : List (List D)} {n i : Nat} {f : List D → Option D} {x : D} {A : Prop} (hl : l.length = n) (h : ¬ i < n) (hx : (l[i]?).bind f = some x) : A := by
  rw [List.getElem?_eq_none (by omega)] at hx
  cases hx
theorem op_len : opRows.length = 47 := rfl
theorem op_four : ∀ r ∈ opRows, r.length = 4 := by decide

theorem tget1 {k g : Nat} {r row : List D} (h : tget [(k, r)] g = some row) : g = k ∧ row = r := by
  simp only [tget] at h
  cases hb : Nat.beq k g with
  | false => rw [hb] at h; cases h
  | true =>
    rw [hb] at h
    exact ⟨(Nat.eq_of_beq_eq_true hb).symm, (Option.some.inj h).symm⟩

theorem glb_of {W : World} (h : laidMet Tryz.prog Rows.pureTriesRow.laid W) : Glb (all W) W := by
  have h7 : laidMet Tryz.prog [("lazaretto/op.table", Rows.laid_lazaretto_op_table), ("unicode/utf8.first", Rows.laid_unicode_utf8_first)] W := laidMet.tail (laidMet.tail (laidMet.tail (laidMet.tail (laidMet.tail (laidMet.tail h)))))
  obtain ⟨ps, ⟨g, t, cs, fuel, p, q, hg, ht, hv, hd, _, _⟩, _⟩ := h7
  obtain rfl := Option.some.inj (gOp.symm.trans hg)
  obtain rfl := Option.some.inj (gOpType.symm.trans ht)
  rw [laid_is] at hd
  obtain ⟨xs, m, rfl, hx, hl, hxl, hel⟩ := DataW.trod_array Tryz.underlying109 hd
  rw [cells108] at hel
  rw [cells109] at hl
  simp only [Prod.mk.injEq, DataW.agg.injEq] at hx
  have hlt : 0 < W.heap.size := by
    unfold World.var? at hv
    rw [gOp] at hv
    rcases Nat.lt_or_ge 0 W.heap.size with h' | h'
    · exact h'
    · simp [Array.getElem?_eq_none h'] at hv
  have key : ∀ (j : Nat) (x : D), opRows.flatten[j]? = some x → ∃ v, cs[j]? = some v ∧ RepD (all W) W v x := by
    intro j x hj
    rw [flat4 _ op_four] at hj
    by_cases hi : j / 4 < 47
    · obtain ⟨s, a, b, c, hs⟩ := op_shape _ hi
      have h1 := hel _ hi
      have h2 : (xs.map (·.1))[j / 4]? = some (.agg [.lit (.string s), .lit (.int .u8 a), .lit (.int .u8 b), .lit (.int .u8 c)]) := by
        rw [← hx.1, List.getElem?_map, hs]
        rfl
      rw [List.getElem?_map] at h2
      cases hy : xs[j / 4]? with
      | none => rw [hy] at h2; cases h2
      | some y =>
        rw [hy] at h2 h1
        obtain ⟨y1, y2⟩ := y
        simp only [Option.map_some, Option.some.injEq] at h2
        subst h2
        obtain ⟨_, hk⟩ := row_is (all W) h1
        rw [hs] at hj
        obtain ⟨v, hv1, hv2⟩ := hk (j % 4) x (by simpa using hj)
        refine ⟨v, ?_, hv2⟩
        rw [List.getElem?_take_of_lt (Nat.mod_lt _ (by decide)), List.getElem?_drop, four_mod] at hv1
        rw [← Array.getElem?_toList]
        exact hv1
    · exact none_of op_len hi hj
  intro g row hrow
  have hg0 : g = 0 ∧ row = opRows.flatten := by
    unfold glL at hrow
    exact tget1 hrow
  obtain ⟨rfl, rfl⟩ := hg0
  refine ⟨hlt, fun j => cs.getD j undef, fun j x hj => ?_, fun j x hj => ?_⟩
  · obtain ⟨v, h1, _⟩ := key j x hj
    rw [World.var?_cell gOp hv, Nat.zero_add, h1]
    simp [Array.getD_eq_getD_getElem?, h1]
  · obtain ⟨v, h1, h2⟩ := key j x hj
    simp only [Array.getD_eq_getD_getElem?, h1]
    exact h2

theorem laidH {l : List (String × DataW Unit)} (e : (l.filter fun x => x.2.handleName?.isSome) = []) {W : World} (h : laidMetH Tryz.prog l W) : laidMet Tryz.prog l W := by
  unfold laidMetH at h
  rw [e] at h
  exact h
theorem no_handles : (Rows.pureTriesRow.laid.filter fun x => x.2.handleName?.isSome) = [] := by kernel_rfl
theorem glb {W : World} (h : laidMetH Tryz.prog Rows.pureTriesRow.laid W) : Glb (all W) W := glb_of (laidH no_handles h)

/-- A world that holds all that is listed. -/
noncomputable def laidW (os : Os) : World := World.laidAll Tryz.prog os Rows.pureTriesRow.laid
theorem laidW_os (os : Os) : (laidW os).os = os := World.laidAll_os _ _ _
theorem laidW_met (os : Os) (args : Array Value) : laidMet Tryz.prog Rows.pureTriesRow.laid ((laidW os).forCall (fun _ _ => 0) ⟨#[], args, []⟩).memory :=
  laidMet_laidAll args (by kernel_rfl) (by kernel_rfl)
theorem laidW_heap (os : Os) (args : Array Value) : (((laidW os).forCall (fun _ _ => 0) ⟨#[], args, []⟩).heap.toList.drop Tryz.checked.prog.globals.size).take ((begin Tryz.checked.prog (fun _ _ => 0) default).world.heap.size - Tryz.checked.prog.globals.size) =
      (begin Tryz.checked.prog (fun _ _ => 0) default).world.heap.toList.drop Tryz.checked.prog.globals.size := by kernel_rfl
end Go.Proofs.YtoibcfioicdlhaaGreatDoor
