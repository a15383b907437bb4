/- CoreFull: sixteen frames may be, no more. Conditions: the row's own. -/
import Derived.Test.YtfllfllfeiaoeaaCore12
import Derived.Test.YtfllfllfeiaoeaaCoreT
namespace Go.Proofs.Ytfllfllfeiaoeaa
open Go.Vx
open Go.ChangeShapes Go.WideShapes Go.ChangeAt Go.RowKit

theorem full_contract (H : Type) (enc : TypeId × Value → H) (W : World) (base : Nat) (args : Array Value) (ds gs : List (DataW H)) (before : List MemPlace)
    (hval : ∀ (j : Nat) t v, Try.f3.params[j]? = some t → args[j]? = some v → Value.okWide Try.prog W .any base t v)
    (hW : DataW.Whole enc Try.prog Try.f3.params.toList Rows.coreFullSpec.vars false W args.toList ds gs before) :
    Calls Try.prog 3 args W fun e W' => ∃ v, e = .returned v ∧ Rows.coreFullSpec.post enc Try.prog Try.f3 false true false false W args v W' := by
  have hW' := hW
  obtain ⟨p, q, hA0, hV, rfl, hfz, hnd⟩ := hW
  have hA : DataW.TrodAll enc Try.prog W 0 (fun _ => true) true Try.f3.params.toList args.toList ds p := hA0
  rw [Try.params3] at hA hval
  obtain ⟨v0, vs0, d0, ds0, p0, q0, hargs, rfl, rfl, h0, r0⟩ := trodAll_cons hA
  obtain ⟨v1, vs1, d1, ds1, p1, q1, rfl, rfl, rfl, h1, r1⟩ := trodAll_cons r0
  obtain ⟨rfl, rfl, rfl⟩ := trodAll_nil r1
  obtain rfl : args = #[v0, v1] := by cases args; simp_all
  obtain ⟨rfl, rfl⟩ := trodVars_none hV
  obtain ⟨n, hn, t0⟩ := open_nt Try.underlying5 (hval 0 5 v0 rfl rfl) h0
  obtain ⟨x1, s1, t1⟩ := open_sl (N := maxLen) ty22 Try.underlying22 (hval 1 22 v1 rfl rfl) h1 (.inl (Nat.le_refl _))
  obtain ⟨_, he, _, hr⟩ := shp_sl s1
  cases he
  obtain ⟨l, rfl⟩ := rows_map (enc := encV) x1 (fun row hrow => shpV (hr row hrow))
  refine (calls_of_sat (full3 n l hn.1) rfl ?_).mono fun e W' ⟨he, hbl⟩ => ?_
  · intro i x hx
    match i, hx with
    | 0, hx => cases hx; exact t0
    | 1, hx => cases hx; exact t1
  · subst he
    exact ⟨_, rfl, post_law laidOut (by rw [Try.params3]; decide +kernel) rfl Try.underlying4 rfl hW' rfl rfl rfl hbl⟩

set_option maxRecDepth 100000 in
theorem full_lifted (os : Os) (started : os.Started) (H : Type) (enc : TypeId × Value → H) :
    ReturnsInHanded {} Try.checked os 3 .any (Rows.coreFullSpec.pre6 enc Try.prog Try.f3 Rows.coreFullRow.domain false) (Rows.coreFullSpec.post enc Try.prog Try.f3 false true false false) := by
  refine returnsInHanded_of_change (C := Try.checked) own started (by kernel_rfl) Try.func3
    (ChangeSpec.witness6 (enc := enc) (C := Try.checked) false ⟨#[], #[.int .u8 0, .slice none 0 0], []⟩ 8 (by kernel_rfl) (by kernel_rfl) (by kernel_rfl) (by kernel_rfl)) ?_
  intro W base args ds gs before hval hW _ _
  exact full_contract H enc W base args ds gs before hval hW

theorem full_holds : Rows.CoreFullSaid :=
  OpenClaim.holds_of_wide 3 Try.f3 rfl rfl rfl rfl rfl rfl rfl ⟨rfl, rfl, rfl, rfl, rfl⟩ rfl rfl rfl rfl rfl (by kernel_rfl) Try.func3 (by kernel_rfl)
    (of_decide_eq_true (by kernel_rfl)) (by unfold Func.isWrapper; first | (rw [if_pos (by decide +kernel)]; kernel_rfl) | (rw [if_neg (by decide +kernel)]; exact ⟨rfl, rfl⟩))
    (fun os started H enc _ => full_lifted os started H enc)
end Go.Proofs.Ytfllfllfeiaoeaa
