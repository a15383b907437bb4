/- CoreKeeps: no call writes into what was handed in; where what is read is of bulk at most 1048576. Conditions: the row's own. -/
import Derived.Test.YtfllfllfeiaoeaaCore10
import Derived.Test.YtfllfllfeiaoeaaCoreT
namespace Go.Proofs.Ytfllfllfeiaoeaa
open Go.Vx
open Go.ChangeShapes Go.WideShapes Go.ChangeAt Go.RowKit

theorem keeps_contract (H : Type) (enc : TypeId × Value → H) (W : World) (base : Nat) (args : Array Value) (ds gs : List (DataW H)) (before : List MemPlace)
    (hval : ∀ (j : Nat) t v, Try.f5.params[j]? = some t → args[j]? = some v → Value.okWide Try.prog W .any base t v)
    (hW : DataW.Whole enc Try.prog Try.f5.params.toList Rows.coreKeepsSpec.vars false W args.toList ds gs before) (hk : Rows.uptoSmall H (ds ++ gs) = true) :
    Calls Try.prog 5 args W fun e W' => ∃ v, e = .returned v ∧ Rows.coreKeepsSpec.post enc Try.prog Try.f5 false true false false W args v W' := by
  have hW' := hW
  obtain ⟨p, q, hA0, hV, rfl, hfz, hnd⟩ := hW
  have hA : DataW.TrodAll enc Try.prog W 0 (fun _ => true) true Try.f5.params.toList args.toList ds p := hA0
  rw [Try.params5] at hA hval
  obtain ⟨v0, vs0, d0, ds0, p0, q0, hargs, rfl, rfl, h0, r0⟩ := trodAll_cons hA
  obtain ⟨v1, vs1, d1, ds1, p1, q1, rfl, rfl, rfl, h1, r1⟩ := trodAll_cons r0
  obtain ⟨v2, vs2, d2, ds2, p2, q2, rfl, rfl, rfl, h2, r2⟩ := trodAll_cons r1
  obtain ⟨v3, vs3, d3, ds3, p3, q3, rfl, rfl, rfl, h3, r3⟩ := trodAll_cons r2
  obtain ⟨rfl, rfl, rfl⟩ := trodAll_nil r3
  obtain rfl : args = #[v0, v1, v2, v3] := by cases args; simp_all
  obtain ⟨rfl, rfl⟩ := trodVars_none hV
  have hb := small hk
  simp only [Rows.uptoBulkAll, List.append_nil] at hb
  obtain ⟨x0, s0, t0⟩ := open_st (N := 1048576) ty27 Try.underlying27 (hval 0 27 v0 rfl rfl) h0 (.inr (by omega))
  obtain ⟨x1, s1, t1⟩ := open_st (N := 1048576) ty33 Try.underlying33 (hval 1 33 v1 rfl rfl) h1 (.inr (by omega))
  obtain ⟨x2, s2, t2⟩ := open_sl (N := 1048576) ty22 Try.underlying22 (hval 2 22 v2 rfl rfl) h2 (.inr (by omega))
  obtain ⟨x3, s3, t3⟩ := open_st (N := 1048576) ty40 Try.underlying40 (hval 3 40 v3 rfl rfl) h3 (.inr (by omega))
  obtain ⟨c, e0, l1, l2, l3⟩ := shpC s0
  obtain ⟨a0, a1, a2, a3, a4, a5, a6, a7, a8, e1, _⟩ := shpA s1
  obtain ⟨_, he, _, hr⟩ := shp_sl s2
  cases he
  obtain ⟨l, rfl⟩ := rows_map (enc := encV) x2 (fun row hrow => shpV (hr row hrow))
  obtain ⟨v, rfl⟩ := shpV s3
  rw [e0] at t0
  rw [e1] at t1
  refine (calls_of_sat (keeps5 c l v a0 a1 a2 a3 a4 a5 a6 a7 a8 l1 l2 l3) rfl ?_).mono fun e W' ⟨he, hbl⟩ => ?_
  · intro i x hx
    match i, hx with
    | 0, hx => cases hx; exact t0
    | 1, hx => cases hx; exact t1
    | 2, hx => cases hx; exact t2
    | 3, hx => cases hx; exact t3
  · subst he
    exact ⟨_, rfl, post_law laidOut (by rw [Try.params5]; decide +kernel) rfl Try.underlying4 rfl hW' rfl rfl rfl hbl⟩

set_option maxRecDepth 100000 in
theorem keeps_lifted (os : Os) (started : os.Started) (H : Type) (enc : TypeId × Value → H) (F : Stop.Interp) :
    ReturnsInHanded {} Try.checked os 5 .any ((Rows.OpenSpec.upto Rows.coreKeepsSpec).pre6 enc Try.prog Try.f5 Rows.coreKeepsUptoRow.domain false) (((Rows.OpenSpec.upto Rows.coreKeepsSpec).at F).post enc Try.prog Try.f5 false true false false) := by
  refine returnsInHanded_of_cond (C := Try.checked) (s := Rows.OpenSpec.upto Rows.coreKeepsSpec) (k := Rows.uptoSmall) rfl own started (by kernel_rfl) Try.func5
    (OpenSpec.witness (enc := enc) (C := Try.checked) (s := Rows.OpenSpec.upto Rows.coreKeepsSpec) (k := Rows.uptoSmall) rfl false
      ⟨#[], #[.agg #[.slice none 0 0, .slice none 0 0, .slice none 0 0], .agg #[.int .i64 0, .int .i64 0, .int .i64 0, .int .i64 0, .int .i64 0, .int .i64 0, .int .i64 0, .int .i64 0, .int .u8 0], .slice none 0 0, .agg #[.int .i64 0, .int .i64 0, .string ByteArray.empty, .string ByteArray.empty, .string ByteArray.empty]], []⟩ 8 (by kernel_rfl) (by kernel_rfl) (by kernel_rfl)
      (x := ([.agg [.nil, .nil, .nil], .agg [.lit (.int .i64 0), .lit (.int .i64 0), .lit (.int .i64 0), .lit (.int .i64 0), .lit (.int .i64 0), .lit (.int .i64 0), .lit (.int .i64 0), .lit (.int .i64 0), .lit (.int .u8 0)], .nil, .agg [.lit (.int .i64 0), .lit (.int .i64 0), .lit (.string []), .agg [.lit (.string []), .lit (.string [])]]], [], [])) (by kernel_rfl) rfl (by kernel_rfl)) ?_
  intro W base args ds gs before hval hW _ hk _
  exact keeps_contract H enc W base args ds gs before hval hW hk

theorem keeps_holds : Rows.CoreKeepsUptoSaid :=
  OpenClaim.holds_of_cond 5 Try.f5 rfl rfl rfl rfl rfl rfl rfl ⟨rfl, rfl, rfl, rfl, rfl⟩ rfl rfl rfl rfl rfl (by kernel_rfl) Try.func5 (by kernel_rfl)
    (of_decide_eq_true (by kernel_rfl)) (by unfold Func.isWrapper; first | (rw [if_pos (by decide +kernel)]; kernel_rfl) | (rw [if_neg (by decide +kernel)]; exact ⟨rfl, rfl⟩))
    (fun os started H enc _ F => keeps_lifted os started H enc F)
end Go.Proofs.Ytfllfllfeiaoeaa
