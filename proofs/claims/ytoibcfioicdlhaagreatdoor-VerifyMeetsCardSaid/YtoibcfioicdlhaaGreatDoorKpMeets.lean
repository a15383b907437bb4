/- VerifyMeets: the row. Conditions: the row's own (the listed tables hold what the program's text lays). -/
import Derived.Test.YtoibcfioicdlhaaGreatDoorVM
import Derived.Test.YtoibcfioicdlhaaGreatDoorLt
namespace Go.Proofs.YtoibcfioicdlhaaGreatDoor
open Go.Vx
open Go.ChangeShapes Go.WideShapes Go.ChangeAt Go.RowKit

set_option maxRecDepth 100000 in
theorem verifyMeets_contract (H : Type) (enc : TypeId × Value → H) (W : World) (base : Nat) (args : Array Value) (ds gs : List (DataW H)) (before : List MemPlace)
    (hval : ∀ (j : Nat) t v, Tryz.f8.params[j]? = some t → args[j]? = some v → Value.okWide Tryz.prog W .any base t v)
    (hW : DataW.Whole enc Tryz.prog Tryz.f8.params.toList Rows.verifyMeetsSpec.vars false W args.toList ds gs before) (hL : laidMetH Tryz.prog Rows.verifyMeetsRow.laid W) :
    Calls Tryz.prog 8 args W fun e W' => ∃ v, e = .returned v ∧ Rows.verifyMeetsSpec.post enc Tryz.prog Tryz.f8 false true false false W args v W' := by
  have hW' := hW
  obtain ⟨p, q, hA0, hV, rfl, hfz, hnd⟩ := hW
  have hA : DataW.TrodAll enc Tryz.prog W 0 (fun _ => true) true Tryz.f8.params.toList args.toList ds p := hA0
  rw [Tryz.params8] at hA hval
  obtain ⟨v0, vs0, d0, ds0, p0, q0, hargs, rfl, rfl, h0, r0⟩ := trodAll_cons hA
  obtain ⟨v1, vs1, d1, ds1, p1, q1, rfl, rfl, rfl, h1, r1⟩ := trodAll_cons r0
  obtain ⟨v2, vs2, d2, ds2, p2, q2, rfl, rfl, rfl, h2, r2⟩ := trodAll_cons r1
  obtain ⟨rfl, rfl, rfl⟩ := trodAll_nil r2
  obtain rfl : args = #[v0, v1, v2] := by cases args; simp_all
  obtain ⟨rfl, rfl⟩ := trodVars_none hV
  obtain ⟨n0, i0, t0⟩ := open_nt Tryz.underlying5 (hval 0 5 v0 rfl rfl) h0
  obtain ⟨n1, i1, t1⟩ := open_nt Tryz.underlying5 (hval 1 5 v1 rfl rfl) h1
  obtain ⟨n2, t2⟩ := open_bl Tryz.underlying4 (hval 2 4 v2 rfl rfl) h2
  unfold inR at i0
  unfold inR at i1
  refine (calls_of_sat (glb hL) (meets8 n0 n1 n2 ⟨i0.1, i0.2⟩ ⟨i1.1, i1.2⟩) rfl ?_).mono fun e W' ⟨he, hbl⟩ => ?_
  · intro i x hx
    match i, hx with
    | 0, hx => cases hx; exact t0
    | 1, hx => cases hx; exact t1
    | 2, hx => cases hx; exact t2
  · subst he
    exact ⟨_, rfl, post_law laidOutT (by rw [Tryz.params8]; decide +kernel) rfl Tryz.underlying4 rfl hW' rfl rfl rfl hbl⟩

abbrev verifyMeetsArgs : Array Value := #[.int .u8 0, .int .u8 0, .bool false]
theorem verifyMeets_reads (os : Os) {H : Type} (enc : TypeId × Value → H) : ∃ places, DataW.whole enc Tryz.prog ((laidW os).forCall (fun _ _ => 0) ⟨#[], verifyMeetsArgs, []⟩).memory Tryz.f8.params.toList Rows.verifyMeetsSpec.vars false verifyMeetsArgs.toList 8 = some ([.lit (.int .u8 0), .lit (.int .u8 0), .lit (.bool false)], [], places) :=
  ⟨[], by kernel_rfl⟩

set_option maxRecDepth 100000 in
theorem verifyMeets_lifted (os : Os) (started : os.Started) (H : Type) (enc : TypeId × Value → H) (F : Stop.Interp) :
    ReturnsInHanded {} Tryz.checked os 8 .any ((OpenSpec.ofChange Rows.verifyMeetsSpec).preRow enc Tryz.prog Tryz.f8 Rows.verifyMeetsRow.domain false Rows.verifyMeetsRow.laid) (((OpenSpec.ofChange Rows.verifyMeetsSpec).at F).post enc Tryz.prog Tryz.f8 false true false false) := by
  obtain ⟨places, hx⟩ := verifyMeets_reads os enc
  refine returnsInHanded_of_row (C := Tryz.checked) (s := OpenSpec.ofChange Rows.verifyMeetsSpec) ownT started (by kernel_rfl) Tryz.func8
    (witness_row_atRef (enc := enc) (C := Tryz.checked) false (laidW os) verifyMeetsArgs (laidW_os os) (by kernel_rfl) (laidW_heap os _) (by kernel_rfl)
      (OpenSpec.preRow_of_cond 8 hx (by kernel_rfl) (fun k hk => by cases hk) (by kernel_rfl) (laidW_met os _))) ?_
  intro W base args ds gs before hval hW _ _ _ hL _ _
  exact verifyMeets_contract H enc W base args ds gs before hval hW hL

theorem verifyMeets_said : Rows.VerifyMeetsSaid :=
  OpenClaim.holds_of_cond 8 Tryz.f8 rfl rfl rfl rfl rfl rfl rfl ⟨rfl, rfl, rfl, rfl, rfl⟩ rfl rfl rfl rfl rfl (by kernel_rfl) Tryz.func8 (by kernel_rfl)
    (of_decide_eq_true (by kernel_rfl)) (by unfold Func.isWrapper; first | (rw [if_pos (by decide +kernel)]; kernel_rfl) | (rw [if_neg (by decide +kernel)]; exact ⟨rfl, rfl⟩))
    (fun os started H enc _ F => by rw [OpenClaim.pre_eq_preRow]; exact verifyMeets_lifted os started H enc F)

theorem verifyMeets_plain (f : FuncId) (fn : Func) (hf : Tryz.pinned.checked.prog.funcNamed "lazaretto/lazarettolaw10.VerifyMeets" = some f) (hfn : Tryz.pinned.checked.prog.funcs[f]? = some fn) :
    true = Tryz.pinned.checked.prog.looks [] ∧ ∀ (j : Nat) t, fn.params[j]? = some t → Tryz.pinned.checked.prog.wantsStandIn t = false := by
  obtain rfl : f = 8 := Option.some.inj ((show Tryz.prog.funcNamed "lazaretto/lazarettolaw10.VerifyMeets" = some 8 by kernel_rfl).symm.trans hf) |>.symm
  obtain rfl : fn = Tryz.f8 := (Option.some.inj (Tryz.func8.symm.trans hfn)).symm
  refine ⟨by kernel_rfl, fun j t ht => ?_⟩
  rw [Tryz.params8] at ht
  have := Array.mem_of_getElem? ht
  obtain rfl | rfl : t = 5 ∨ t = 4 := by simpa using this
  · exact (show Tryz.prog.wantsStandIn 5 = false by kernel_rfl)
  · exact (show Tryz.prog.wantsStandIn 4 = false by kernel_rfl)

theorem verifyMeets_card : Rows.VerifyMeetsCardSaid :=
  Claim7.holds_tied_plain_at .later [] _ _ _ _ verifyMeets_said (fun _ h => by cases h) (by kernel_rfl) (fun _ h => by cases h) verifyMeets_row_tie rfl ⟨rfl, rfl⟩ (by kernel_rfl) rfl verifyMeets_plain (by kernel_rfl)
end Go.Proofs.YtoibcfioicdlhaaGreatDoor
