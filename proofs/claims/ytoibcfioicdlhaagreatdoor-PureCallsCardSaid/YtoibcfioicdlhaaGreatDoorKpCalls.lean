/- PureCalls: who calls itself is called till there are sixteen frames, and fails there. Conditions: the row's own (the listed tables hold what the program's text lays). -/
import Derived.Test.YtoibcfioicdlhaaGreatDoorKE2
import Derived.Test.YtoibcfioicdlhaaGreatDoorLt
import Derived.Test.YtoibcfioicdlhaaGreatDoorVxX
namespace Go.Proofs.YtoibcfioicdlhaaGreatDoor
open Go.Vx
open Go.ChangeShapes Go.WideShapes Go.ChangeAt Go.RowKit

def tyV : Ty := .pr (.int .i64) (.pr (.int .i64) (.pr .str (.pr (.pr .str (.pr .str .un)) .un)))
theorem ty36 : tyOf Tryz.prog 9 36 = some tyV := by kernel_rfl
theorem shpV {N : Nat} {xs : List D} (h : shp N tyV xs) : ∃ v : Va, xs = encV v := by
  obtain ⟨_, _, rfl, h1, g1⟩ := shp_pr h
  obtain ⟨k, rfl, _⟩ := shp_int h1
  obtain ⟨_, _, rfl, h1, g2⟩ := shp_pr g1
  obtain ⟨n, rfl, _⟩ := shp_int h1
  obtain ⟨_, _, rfl, h1, g3⟩ := shp_pr g2
  obtain ⟨nm, rfl, _⟩ := shp_str h1
  obtain ⟨_, _, rfl, h1, g4⟩ := shp_pr g3
  have := shp_un g4
  subst this
  obtain ⟨_, _, rfl, h2, k1⟩ := shp_pr h1
  obtain ⟨ls, rfl, _⟩ := shp_str h2
  obtain ⟨_, _, rfl, h3, k2⟩ := shp_pr k1
  obtain ⟨li, rfl, _⟩ := shp_str h3
  have := shp_un k2
  subst this
  exact ⟨⟨k, n, nm, ls, li⟩, rfl⟩

set_option maxRecDepth 100000 in
theorem pureCalls_contract (H : Type) (enc : TypeId × Value → H) (W : World) (base : Nat) (args : Array Value) (ds gs : List (DataW H)) (before : List MemPlace)
    (hval : ∀ (j : Nat) t v, Tryz.f4.params[j]? = some t → args[j]? = some v → Value.okWide Tryz.prog W .any base t v)
    (hW : DataW.Whole enc Tryz.prog Tryz.f4.params.toList Rows.pureCallsSpec.vars false W args.toList ds gs before) (hL : laidMetH Tryz.prog Rows.pureCallsRow.laid W) :
    Calls Tryz.prog 4 args W fun e W' => ∃ v, e = .returned v ∧ Rows.pureCallsSpec.post enc Tryz.prog Tryz.f4 false true false false W args v W' := by
  have hW' := hW
  obtain ⟨p, q, hA0, hV, rfl, hfz, hnd⟩ := hW
  have hA : DataW.TrodAll enc Tryz.prog W 0 (fun _ => true) true Tryz.f4.params.toList args.toList ds p := hA0
  rw [Tryz.params4] at hA hval
  obtain ⟨v0, vs0, d0, ds0, p0, q0, hargs, rfl, rfl, h0, r0⟩ := trodAll_cons hA
  obtain ⟨v1, vs1, d1, ds1, p1, q1, rfl, rfl, rfl, h1, r1⟩ := trodAll_cons r0
  obtain ⟨v2, vs2, d2, ds2, p2, q2, rfl, rfl, rfl, h2, r2⟩ := trodAll_cons r1
  obtain ⟨rfl, rfl, rfl⟩ := trodAll_nil r2
  obtain rfl : args = #[v0, v1, v2] := by cases args; simp_all
  obtain ⟨rfl, rfl⟩ := trodVars_none hV
  obtain ⟨x0, s0, t0⟩ := open_st (N := 9223372036854775807) ty36 Tryz.underlying36 (hval 0 36 v0 rfl rfl) h0 (.inl (Nat.le_refl _))
  obtain ⟨m, i1, t1⟩ := open_nt Tryz.underlying5 (hval 1 5 v1 rfl rfl) h1
  obtain ⟨k, i2, t2⟩ := open_nt Tryz.underlying5 (hval 2 5 v2 rfl rfl) h2
  obtain ⟨v, rfl⟩ := shpV s0
  unfold inR at i1 i2
  refine (calls_of_sat (glb hL) (calls4 v m k ⟨i1.1, i1.2⟩ ⟨i2.1, i2.2⟩) rfl ?_).mono fun e W' ⟨he, hbl⟩ => ?_
  · intro i x hx
    match i, hx with
    | 0, hx => cases hx; exact t0
    | 1, hx => cases hx; exact t1
    | 2, hx => cases hx; exact t2
  · subst he
    exact ⟨_, rfl, post_law laidOutT (by rw [Tryz.params4]; decide +kernel) rfl Tryz.underlying4 rfl hW' rfl rfl rfl hbl⟩

abbrev pureCallsArgs : Array Value := #[.agg #[.int .i64 0, .int .i64 0, .string ByteArray.empty, .string ByteArray.empty, .string ByteArray.empty], .int .u8 0, .int .u8 0]
theorem pureCalls_reads (os : Os) {H : Type} (enc : TypeId × Value → H) : ∃ places, DataW.whole enc Tryz.prog ((laidW os).forCall (fun _ _ => 0) ⟨#[], pureCallsArgs, []⟩).memory Tryz.f4.params.toList Rows.pureCallsSpec.vars false pureCallsArgs.toList 8 = some ([.agg [.lit (.int .i64 0), .lit (.int .i64 0), .lit (.string []), .agg [.lit (.string []), .lit (.string [])]], .lit (.int .u8 0), .lit (.int .u8 0)], [], places) :=
  ⟨[], by kernel_rfl⟩

set_option maxRecDepth 100000 in
theorem pureCalls_lifted (os : Os) (started : os.Started) (H : Type) (enc : TypeId × Value → H) (F : Stop.Interp) :
    ReturnsInHanded {} Tryz.checked os 4 .any ((OpenSpec.ofChange Rows.pureCallsSpec).preRow enc Tryz.prog Tryz.f4 Rows.pureCallsRow.domain false Rows.pureCallsRow.laid) (((OpenSpec.ofChange Rows.pureCallsSpec).at F).post enc Tryz.prog Tryz.f4 false true false false) := by
  obtain ⟨places, hx⟩ := pureCalls_reads os enc
  refine returnsInHanded_of_row (C := Tryz.checked) (s := OpenSpec.ofChange Rows.pureCallsSpec) ownT started (by kernel_rfl) Tryz.func4
    (witness_row_atRef (enc := enc) (C := Tryz.checked) false (laidW os) pureCallsArgs (laidW_os os) (by kernel_rfl) (laidW_heap os _) (by kernel_rfl)
      (OpenSpec.preRow_of_cond 8 hx (by kernel_rfl) (fun k hk => by cases hk) (by kernel_rfl) (laidW_met os _))) ?_
  intro W base args ds gs before hval hW _ _ _ hL _ _
  exact pureCalls_contract H enc W base args ds gs before hval hW hL

theorem pureCalls_said : Rows.PureCallsSaid :=
  OpenClaim.holds_of_cond 4 Tryz.f4 rfl rfl rfl rfl rfl rfl rfl ⟨rfl, rfl, rfl, rfl, rfl⟩ rfl rfl rfl rfl rfl (by kernel_rfl) Tryz.func4 (by kernel_rfl)
    (of_decide_eq_true (by kernel_rfl)) (by unfold Func.isWrapper; first | (rw [if_pos (by decide +kernel)]; kernel_rfl) | (rw [if_neg (by decide +kernel)]; exact ⟨rfl, rfl⟩))
    (fun os started H enc _ F => by rw [OpenClaim.pre_eq_preRow]; exact pureCalls_lifted os started H enc F)

theorem pureCalls_plain (f : FuncId) (fn : Func) (hf : Tryz.pinned.checked.prog.funcNamed "lazaretto/lazarettolaw16.PureCalls" = some f) (hfn : Tryz.pinned.checked.prog.funcs[f]? = some fn) :
    true = Tryz.pinned.checked.prog.looks [] ∧ ∀ (j : Nat) t, fn.params[j]? = some t → Tryz.pinned.checked.prog.wantsStandIn t = false := by
  obtain rfl : f = 4 := Option.some.inj ((show Tryz.prog.funcNamed "lazaretto/lazarettolaw16.PureCalls" = some 4 by kernel_rfl).symm.trans hf) |>.symm
  obtain rfl : fn = Tryz.f4 := (Option.some.inj (Tryz.func4.symm.trans hfn)).symm
  refine ⟨by kernel_rfl, fun j t ht => ?_⟩
  rw [Tryz.params4] at ht
  have := Array.mem_of_getElem? ht
  obtain rfl | rfl : t = 36 ∨ t = 5 := by simpa using this
  · exact (show Tryz.prog.wantsStandIn 36 = false by kernel_rfl)
  · exact (show Tryz.prog.wantsStandIn 5 = false by kernel_rfl)

theorem pureCalls_card : Rows.PureCallsCardSaid :=
  Claim7.holds_tied_plain_at .later [] _ _ _ _ pureCalls_said (fun _ h => by cases h) (by kernel_rfl) (fun _ h => by cases h) pureCalls_row_tie rfl ⟨rfl, rfl⟩ (by kernel_rfl) rfl pureCalls_plain (by kernel_rfl)
end Go.Proofs.YtoibcfioicdlhaaGreatDoor
