/- What arguments of chapter 15 are built of. Conditions: none. -/
import Derived.Test.YtfllfllfeiaoeaaCore8
import Derived.Test.YtfllfllfeiaoeaaVxX
namespace Go.Proofs.Ytfllfllfeiaoeaa
open Go.Vx
open Go.ChangeShapes Go.WideShapes Go.ChangeAt Go.RowKit

def tyV : Ty := .pr (.int .i64) (.pr (.int .i64) (.pr .str (.pr (.pr .str (.pr .str .un)) .un)))
def tyT : Ty := .pr (.int .i64) (.pr (.int .i64) (.pr (.int .i64) .un))
def tyF : Ty := .pr (.int .i64) (.pr (.int .i64) (.pr (.int .i64) (.pr (.int .u8) (.pr (.sl tyV) .un))))
def tyC : Ty := .pr (.sl tyF) (.pr (.sl tyV) (.pr (.sl tyT) .un))
def tyA : Ty := .pr (.int .i64) (.pr (.int .i64) (.pr (.int .i64) (.pr (.int .i64) (.pr (.int .i64) (.pr (.int .i64) (.pr (.int .i64) (.pr (.int .i64) (.pr (.int .u8) .un))))))))
theorem ty22 : tyOf Try.prog 9 22 = some (.sl tyV) := by kernel_rfl
theorem ty27 : tyOf Try.prog 9 27 = some tyC := by kernel_rfl
theorem ty33 : tyOf Try.prog 9 33 = some tyA := by kernel_rfl
theorem ty40 : tyOf Try.prog 9 40 = some tyV := by kernel_rfl

theorem shpV {N : Nat} {xs : List D} (h : shp N tyV xs) : ∃ v : Va, xs = encV v := by
  obtain ⟨_, _, rfl, h1, g1⟩ := shp_pr h
  obtain ⟨k, rfl, _⟩ := shp_int h1
  obtain ⟨_, _, rfl, h1, g2⟩ := shp_pr g1
  obtain ⟨n, rfl, _⟩ := shp_int h1
  obtain ⟨_, _, rfl, h1, g3⟩ := shp_pr g2
  obtain ⟨nm, rfl, _⟩ := shp_str h1
  obtain ⟨_, _, rfl, h1, g4⟩ := shp_pr g3
  have := shp_un g4
  subst this
  obtain ⟨_, _, rfl, h2, k1⟩ := shp_pr h1
  obtain ⟨ls, rfl, _⟩ := shp_str h2
  obtain ⟨_, _, rfl, h3, k2⟩ := shp_pr k1
  obtain ⟨li, rfl, _⟩ := shp_str h3
  have := shp_un k2
  subst this
  exact ⟨⟨k, n, nm, ls, li⟩, rfl⟩
theorem shpT {N : Nat} {xs : List D} (h : shp N tyT xs) : ∃ v : Tr, xs = encT v := by
  obtain ⟨_, _, rfl, h1, g1⟩ := shp_pr h
  obtain ⟨a, rfl, _⟩ := shp_int h1
  obtain ⟨_, _, rfl, h1, g2⟩ := shp_pr g1
  obtain ⟨b, rfl, _⟩ := shp_int h1
  obtain ⟨_, _, rfl, h1, g3⟩ := shp_pr g2
  obtain ⟨c, rfl, _⟩ := shp_int h1
  have := shp_un g3
  subst this
  exact ⟨⟨a, b, c⟩, rfl⟩
theorem shpF {N : Nat} {xs : List D} (h : shp N tyF xs) : ∃ v : Fr, xs = encF v := by
  obtain ⟨_, _, rfl, h1, g1⟩ := shp_pr h
  obtain ⟨a, rfl, _⟩ := shp_int h1
  obtain ⟨_, _, rfl, h1, g2⟩ := shp_pr g1
  obtain ⟨b, rfl, _⟩ := shp_int h1
  obtain ⟨_, _, rfl, h1, g3⟩ := shp_pr g2
  obtain ⟨c, rfl, _⟩ := shp_int h1
  obtain ⟨_, _, rfl, h1, g4⟩ := shp_pr g3
  obtain ⟨d, rfl, _⟩ := shp_int h1
  obtain ⟨_, _, rfl, h1, g5⟩ := shp_pr g4
  obtain ⟨rows, rfl, _, hr⟩ := shp_sl h1
  have := shp_un g5
  subst this
  obtain ⟨l, rfl⟩ := rows_map (enc := encV) rows (fun row hrow => shpV (hr row hrow))
  exact ⟨⟨a, b, c, d, l⟩, rfl⟩
theorem shpC {N : Nat} {xs : List D} (h : shp N tyC xs) : ∃ c : Co, V.ag (xs.map .d) = agC c ∧ c.fr.length ≤ N ∧ c.st.length ≤ N ∧ c.tr.length ≤ N := by
  obtain ⟨_, _, rfl, h1, g1⟩ := shp_pr h
  obtain ⟨r1, rfl, l1, hr1⟩ := shp_sl h1
  obtain ⟨_, _, rfl, h1, g2⟩ := shp_pr g1
  obtain ⟨r2, rfl, l2, hr2⟩ := shp_sl h1
  obtain ⟨_, _, rfl, h1, g3⟩ := shp_pr g2
  obtain ⟨r3, rfl, l3, hr3⟩ := shp_sl h1
  have := shp_un g3
  subst this
  obtain ⟨a, rfl⟩ := rows_map (enc := encF) r1 (fun row hrow => shpF (hr1 row hrow))
  obtain ⟨b, rfl⟩ := rows_map (enc := encV) r2 (fun row hrow => shpV (hr2 row hrow))
  obtain ⟨c, rfl⟩ := rows_map (enc := encT) r3 (fun row hrow => shpT (hr3 row hrow))
  exact ⟨⟨a, b, c⟩, rfl, by simpa using l1, by simpa using l2, by simpa using l3⟩
theorem shpA {N : Nat} {xs : List D} (h : shp N tyA xs) : ∃ a0 a1 a2 a3 a4 a5 a6 a7 a8 : Int, V.ag (xs.map .d) = agA a0 a1 a2 a3 a4 a5 a6 a7 a8 ∧ inR .i64 a0 := by
  obtain ⟨_, _, rfl, h1, g1⟩ := shp_pr h
  obtain ⟨a0, rfl, r0⟩ := shp_int h1
  obtain ⟨_, _, rfl, h1, g2⟩ := shp_pr g1
  obtain ⟨a1, rfl, _⟩ := shp_int h1
  obtain ⟨_, _, rfl, h1, g3⟩ := shp_pr g2
  obtain ⟨a2, rfl, _⟩ := shp_int h1
  obtain ⟨_, _, rfl, h1, g4⟩ := shp_pr g3
  obtain ⟨a3, rfl, _⟩ := shp_int h1
  obtain ⟨_, _, rfl, h1, g5⟩ := shp_pr g4
  obtain ⟨a4, rfl, _⟩ := shp_int h1
  obtain ⟨_, _, rfl, h1, g6⟩ := shp_pr g5
  obtain ⟨a5, rfl, _⟩ := shp_int h1
  obtain ⟨_, _, rfl, h1, g7⟩ := shp_pr g6
  obtain ⟨a6, rfl, _⟩ := shp_int h1
  obtain ⟨_, _, rfl, h1, g8⟩ := shp_pr g7
  obtain ⟨a7, rfl, _⟩ := shp_int h1
  obtain ⟨_, _, rfl, h1, g9⟩ := shp_pr g8
  obtain ⟨a8, rfl, _⟩ := shp_int h1
  have := shp_un g9
  subst this
  exact ⟨a0, a1, a2, a3, a4, a5, a6, a7, a8, rfl, r0⟩

theorem own : ownKnob Try.prog.godebug = none := by kernel_rfl
theorem laidOut : laidOutB Try.prog = true := by kernel_rfl
theorem small {H : Type} {l : List (DataW H)} (hk : Rows.uptoSmall H l = true) : Rows.uptoBulkAll l ≤ 1048576 := of_decide_eq_true hk

end Go.Proofs.Ytfllfllfeiaoeaa
