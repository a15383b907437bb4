/- What the rows' list gives: the table of the ops is what the functions read; and a world that holds all of the list. Conditions: the list's own. -/
import Derived.Test.YtjpgfgajkjhonaaGreatDoorQTAT
import Derived.Test.YtjpgfgajkjhonaaGreatDoorQTBG
import Derived.Test.YtjpgfgajkjhonaaGreatDoorCards
import Derived.Test.YtjpgfgajkjhonaaGreatDoorTie
import Derived.Deep.DeepHandedRow
import Derived.Deep.DeepWitnessRowRef
import Derived.Lib.LaidTab
import Derived.Lib.SmallJoins
import Derived.Stop.LaidErr
import Derived.Lay
import Derived.JoinedCond
import Derived.Test.YtjpgfgajkjhonaaGreatDoorQTBF
namespace Go.Proofs.YtjpgfgajkjhonaaGreatDoor
open Go.Vx
set_option maxRecDepth 100000
open Go.ChangeShapes Go.WideShapes Go.ChangeAt Go.RowKit
def encOp {H : Type} : List D → DataW H
 | [.str s, .int _ a, .int _ b, .int _ c] => .agg [.lit (.string s), .lit (.int .u8 a), .lit (.int .u8 b), .lit (.int .u8 c)]
 | _ => .nil
theorem laid_is {H : Type} : (Rows.laid_lazaretto_op_table : DataW H) = .agg (opRows.map encOp) := rfl
theorem laidOutT : laidOutB Tryz.prog = true := by kernel_rfl
theorem ownT : ownKnob Tryz.prog.godebug = none := by kernel_rfl
theorem gOp : Tryz.prog.globalNamed "lazaretto/op.table" = some 0 := by kernel_rfl
theorem gOpType : (Tryz.prog.globals[0]?).map (·.type) = some 276 := by kernel_rfl
theorem cells276 : Tryz.prog.cellsOf 276 = 188 := by kernel_rfl
theorem cells275 : Tryz.prog.cellsOf 275 = 4 := by kernel_rfl
theorem cells5 : Tryz.prog.cellsOf 5 = 1 := by kernel_rfl
theorem cells9 : Tryz.prog.cellsOf 9 = 1 := by kernel_rfl
theorem four_of {α : Type} {cs : List α} (h : cs.length = 4) : ∃ c0 c1 c2 c3, cs = [c0, c1, c2, c3] := by
 match cs, h with
 | [c0, c1, c2, c3], _ => exact ⟨c0, c1, c2, c3, rfl⟩
theorem row_is {H : Type} {enc : TypeId × Value → H} {w : World} {base : Nat} {sp : Nat → Bool} {held : Bool} {fuel : Nat} {cs : List Value} {s : List UInt8} {a b c : Int} {p : List MemPlace} (G : Nat → Prop)
  (h : DataW.trod enc Tryz.prog w base sp held fuel 275 cs = some (.agg [.lit (.string s), .lit (.int .u8 a), .lit (.int .u8 b), .lit (.int .u8 c)], p)) :
  cs.length = 4 ∧ ∀ (j : Nat) (x : D), [D.str s, .int .u8 a, .int .u8 b, .int .u8 c][j]? = some x → ∃ v, cs[j]? = some v ∧ RepD G w v x := by
 obtain ⟨y0, y1, y2, y3, n, hx, hl, h0, h1, h2, h3⟩ := Go.Joins.trod_struct4 Tryz.underlying275 h
 rw [cells275] at hl
 obtain ⟨c0, c1, c2, c3, rfl⟩ : ∃ c0 c1 c2 c3, cs = [c0, c1, c2, c3] := four_of hl
 simp only [cells9, cells5, List.drop_zero, List.drop_succ_cons, List.take_succ_cons, List.take_zero] at h0 h1 h2 h3
 obtain ⟨s', e0, rfl, hs⟩ := DataW.trod_string Tryz.underlying9 h0
 obtain ⟨a', e1, rfl, _⟩ := DataW.trod_int Tryz.underlying5 h1
 obtain ⟨b', e2, rfl, _⟩ := DataW.trod_int Tryz.underlying5 h2
 obtain ⟨c', e3, rfl, _⟩ := DataW.trod_int Tryz.underlying5 h3
 simp only [List.cons.injEq, and_true] at e0 e1 e2 e3
 subst e0 e1 e2 e3
 simp only [Prod.mk.injEq, DataW.agg.injEq, List.cons.injEq, DataW.lit.injEq, Lit.string.injEq, Lit.int.injEq, and_true, true_and] at hx
 obtain ⟨⟨rfl, rfl, rfl, rfl⟩, _⟩ := hx
 refine ⟨rfl, fun j x hj => ?_⟩
 match j, hj with
 | 0, hj => cases hj; exact ⟨_, rfl, .str s' hs⟩
 | 1, hj => cases hj; exact ⟨_, rfl, .int .u8 _⟩
 | 2, hj => cases hj; exact ⟨_, rfl, .int .u8 _⟩
 | 3, hj => cases hj; exact ⟨_, rfl, .int .u8 _⟩
 | j + 4, hj => simp at hj
theorem op_shape : ∀ i, i < 47 → ∃ s a b c, opRows[i]? = some [.str s, .int .u8 a, .int .u8 b, .int .u8 c] := by
 intro i hi
 match i, hi with
 | 0, _ | 1, _ | 2, _ | 3, _ | 4, _ | 5, _ | 6, _ | 7, _ | 8, _ | 9, _ | 10, _ | 11, _ | 12, _ | 13, _ | 14, _ | 15, _ | 16, _ | 17, _ | 18, _ | 19, _ | 20, _ | 21, _ | 22, _ | 23, _ | 24, _ | 25, _ | 26, _ | 27, _ | 28, _ | 29, _ | 30, _ | 31, _ | 32, _ | 33, _ | 34, _ | 35, _ | 36, _ | 37, _ | 38, _ | 39, _ | 40, _ | 41, _ | 42, _ | 43, _ | 44, _ | 45, _ | 46, _ => exact ⟨_, _, _, _, rfl⟩
 | n + 47, h => omega
theorem flat4 : ∀ (l : List (List D)), (∀ r ∈ l, r.length = 4) → ∀ (j : Nat), l.flatten[j]? = (l[j / 4]?).bind (·[j % 4]?)
 | [], _, j => by simp
 | r :: l, h, j => by
  have hr := h r (by simp)
  rw [List.flatten_cons]
  by_cases hj : j < 4
  ·rw [List.getElem?_append_left (by omega), Nat.div_eq_of_lt hj, Nat.mod_eq_of_lt hj]
   simp
  ·rw [List.getElem?_append_right (by omega), flat4 l (fun x hx => h x (by simp [hx])), hr, show j / 4 = (j - 4) / 4 + 1 by omega, show j % 4 = (j - 4) % 4 by omega]
   simp
theorem four_mod (j : Nat) : j / 4 * 4 + j % 4 = j := by omega
theorem none_of {l : List (List D)} {n i : Nat} {f : List D → Option D} {x : D} {A : Prop} (hl : l.length = n) (h : ¬ i < n) (hx : (l[i]?).bind f = some x) : A := by
 rw [List.getElem?_eq_none (by omega)] at hx
 cases hx
theorem op_len : opRows.length = 47 := rfl
theorem op_four : ∀ r ∈ opRows, r.length = 4 := by decide
theorem tget1 {k g : Nat} {r row : List D} (h : tget [(k, r)] g = some row) : g = k ∧ row = r := by
 simp only [tget] at h
 cases hb : Nat.beq k g with
 | false => rw [hb] at h; cases h
 | true =>
  rw [hb] at h
  exact ⟨(Nat.eq_of_beq_eq_true hb).symm, (Option.some.inj h).symm⟩
theorem glb_of {W : World} (h : laidMet Tryz.prog Rows.sysThrowsRow.laid W) : Glb (all W) W := by
 have h7 : laidMet Tryz.prog [("lazaretto/op.table", Rows.laid_lazaretto_op_table), ("unicode/utf8.first", Rows.laid_unicode_utf8_first)] W := laidMet.tail (laidMet.tail (laidMet.tail (laidMet.tail (laidMet.tail (laidMet.tail h)))))
 obtain ⟨ps, ⟨g, t, cs, fuel, p, q, hg, ht, hv, hd, _, _⟩, _⟩ := h7
 obtain rfl := Option.some.inj (gOp.symm.trans hg)
 obtain rfl := Option.some.inj (gOpType.symm.trans ht)
 rw [laid_is] at hd
 obtain ⟨xs, m, rfl, hx, hl, hxl, hel⟩ := DataW.trod_array Tryz.underlying276 hd
 rw [cells275] at hel
 rw [cells276] at hl
 simp only [Prod.mk.injEq, DataW.agg.injEq] at hx
 have hlt : 0 < W.heap.size := by
  unfold World.var? at hv
  rw [gOp] at hv
  rcases Nat.lt_or_ge 0 W.heap.size with h' | h'
  ·exact h'
  ·simp [Array.getElem?_eq_none h'] at hv
 have key : ∀ (j : Nat) (x : D), opRows.flatten[j]? = some x → ∃ v, cs[j]? = some v ∧ RepD (all W) W v x := by
  intro j x hj
  rw [flat4 _ op_four] at hj
  by_cases hi : j / 4 < 47
  ·obtain ⟨s, a, b, c, hs⟩ := op_shape _ hi
   have h1 := hel _ hi
   have h2 : (xs.map (·.1))[j / 4]? = some (.agg [.lit (.string s), .lit (.int .u8 a), .lit (.int .u8 b), .lit (.int .u8 c)]) := by
    rw [← hx.1, List.getElem?_map, hs]
    rfl
   rw [List.getElem?_map] at h2
   cases hy : xs[j / 4]? with
   | none => rw [hy] at h2; cases h2
   | some y =>
    rw [hy] at h2 h1
    obtain ⟨y1, y2⟩ := y
    simp only [Option.map_some, Option.some.injEq] at h2
    subst h2
    obtain ⟨_, hk⟩ := row_is (all W) h1
    rw [hs] at hj
    obtain ⟨v, hv1, hv2⟩ := hk (j % 4) x (by simpa using hj)
    refine ⟨v, ?_, hv2⟩
    rw [List.getElem?_take_of_lt (Nat.mod_lt _ (by decide)), List.getElem?_drop, four_mod] at hv1
    rw [← Array.getElem?_toList]
    exact hv1
  ·exact none_of op_len hi hj
 intro g row hrow
 have hg0 : g = 0 ∧ row = opRows.flatten := by
  unfold glL at hrow
  exact tget1 hrow
 obtain ⟨rfl, rfl⟩ := hg0
 refine ⟨hlt, fun j => cs.getD j undef, fun j x hj => ?_, fun j x hj => ?_⟩
 ·obtain ⟨v, h1, _⟩ := key j x hj
  rw [World.var?_cell gOp hv, Nat.zero_add, h1]
  simp [Array.getD_eq_getD_getElem?, h1]
 ·obtain ⟨v, h1, h2⟩ := key j x hj
  simp only [Array.getD_eq_getD_getElem?, h1]
  exact h2
theorem laidH {l : List (String × DataW Unit)} (e : (l.filter fun x => x.2.handleName?.isSome) = []) {W : World} (h : laidMetH Tryz.prog l W) : laidMet Tryz.prog l W := by
 unfold laidMetH at h
 rw [e] at h
 exact h
theorem no_handles : (Rows.sysThrowsRow.laid.filter fun x => x.2.handleName?.isSome) = [] := by kernel_rfl
theorem glb {W : World} (h : laidMetH Tryz.prog Rows.sysThrowsRow.laid W) : Glb (all W) W := glb_of (laidH no_handles h)
noncomputable def laidW (os : Os) : World := World.laidAll Tryz.prog os Rows.sysThrowsRow.laid
theorem laidW_os (os : Os) : (laidW os).os = os := World.laidAll_os _ _ _
theorem laidW_met (os : Os) (args : Array Value) : laidMet Tryz.prog Rows.sysThrowsRow.laid ((laidW os).forCall (fun _ _ => 0) ⟨#[], args, []⟩).memory :=
 laidMet_laidAll args (by kernel_rfl) (by kernel_rfl)
theorem laidW_heap (os : Os) (args : Array Value) : (((laidW os).forCall (fun _ _ => 0) ⟨#[], args, []⟩).heap.toList.drop Tryz.checked.prog.globals.size).take ((begin Tryz.checked.prog (fun _ _ => 0) default).world.heap.size - Tryz.checked.prog.globals.size) =
      (begin Tryz.checked.prog (fun _ _ => 0) default).world.heap.toList.drop Tryz.checked.prog.globals.size := by kernel_rfl
end Go.Proofs.YtjpgfgajkjhonaaGreatDoor
namespace Go.Proofs.YtjpgfgajkjhonaaGreatDoor
open Go.Vx
set_option maxRecDepth 100000
open Go.ChangeShapes Go.WideShapes Go.ChangeAt Go.RowKit
noncomputable abbrev tP : Program := Tryz.pinned.checked.prog
noncomputable abbrev tS : ChangeSpec := (OpenSpec.ofChange Rows.sysThrowsSpec).bare
noncomputable abbrev tC : OpenClaim := Rows.sysThrowsRow
noncomputable abbrev tF : Func := Tryz.f5
theorem band {a b : Bool} (h : a = true) (h' : b = true) : (a && b) = true := by rw [h, h']; rfl
theorem cf0 : (tC.wf (OpenSpec.ofChange tS)) = true := by kernel_rfl
theorem cf1 : (laidOutB tP) = true := by kernel_rfl
theorem cf2 : (mapsRowed tP) = true := by kernel_rfl
theorem cf3 : (tF.params.all (tP.readableRec ·)) = true := by kernel_rfl
theorem cf4 : (namedTie tP tC.named tS.vars) = true := by kernel_rfl
theorem cf5 : ((tC.stops == [])) = true := by kernel_rfl
theorem cf6 : ((tP.stops == [])) = true := by kernel_rfl
theorem cf7 : ((tC.knobs == [])) = true := by kernel_rfl
theorem cf8 : ((tP.stopKnobs == [])) = true := by kernel_rfl
theorem cf9 : ((tC.inPlace == tP.inPlace 5)) = true := by kernel_rfl
theorem cf10 : ((tC.unfollowed == tP.unfollowed 5)) = true := by kernel_rfl
theorem cf11 : ((tC.recurses == tP.recurses 5)) = true := by kernel_rfl
theorem cf12 : ((tC.named == tP.varsNamed 5)) = true := by kernel_rfl
theorem cf13 : ((tC.maps == (tF.params.toList ++ tS.plain.varTypes tP).any (tP.mapsRec ·))) = true := by kernel_rfl
theorem cf14 : ((tC.ifaces == (tF.params.toList ++ tS.plain.varTypes tP).any (tP.ifacesRec ·))) = true := by kernel_rfl
theorem cf15 : ((tC.mapsOut == tP.mapsAmong tF.resultTypes.toList)) = true := by kernel_rfl
theorem cf16 : ((tC.loops == (tF.params.toList ++ tS.plain.varTypes tP).any (tP.loopsFrom ·))) = true := by kernel_rfl
theorem cf17 : ((tC.wideKeys == (tF.params.toList ++ tS.plain.varTypes tP ++ tF.resultTypes.toList).any (tP.wideKeysFrom ·))) = true := by kernel_rfl
theorem cf18 : (tS.vars.all (tP.varReadable ·)) = true := by kernel_rfl
theorem cf19 : (tF.resultTypes.all (fun t => tP.readableRec t && decide (t < tP.types.size))) = true := by kernel_rfl
theorem cf20 : ((tC.ifacesOut == tF.resultTypes.toList.any (tP.ifacesRec ·))) = true := by kernel_rfl
theorem cf21 : ((tC.loopsOut == tF.resultTypes.toList.any (tP.loopsFrom ·))) = true := by kernel_rfl
theorem cf22 : ((tC.plainKeys == tP.plainKeys)) = true := by kernel_rfl
theorem cf23 : (tC.shortTexts.isNone) = true := by kernel_rfl
theorem cf24 : (tP.stopsHeard) = true := by kernel_rfl
theorem cf25 : (tP.mayEnter) = true := by kernel_rfl
theorem cf26 : ((tC.lifted == tP.liftsFinal)) = true := by kernel_rfl
theorem cf27 : ((tP.make == some tC.make)) = true := by kernel_rfl
theorem cf28 : ((tC.kinds == (if tC.domain.isEmpty then [] else tF.params.toList.map fun t => match tP.underlying t with | some (.int k) => some k | _ => none))) = true := by kernel_rfl
theorem cf29 : ((tC.pinned == tC.pinnedBy)) = true := by kernel_rfl
theorem cf30 : ((tC.veiled == (tF.params.toList ++ tS.plain.varTypes tP ++ tF.resultTypes.toList).any (tP.veiledRec ·))) = true := by kernel_rfl
theorem cf31 : (tC.veiledFits tP tF.params.toList (tF.params.toList ++ tS.plain.varTypes tP ++ tF.resultTypes.toList)) = true := by kernel_rfl
theorem closedF : joinedFacts Tryz.pinned.checked.prog 5 Tryz.f5 (OpenSpec.ofChange Rows.sysThrowsSpec).bare Rows.sysThrowsRow = true := (band (band (band (band (band (band (band (band (band (band (band (band (band (band (band (band (band (band (band (band (band (band (band (band (band (band (band (band (band (band (band cf0 cf1) cf2) cf3) cf4) cf5) cf6) cf7) cf8) cf9) cf10) cf11) cf12) cf13) cf14) cf15) cf16) cf17) cf18) cf19) cf20) cf21) cf22) cf23) cf24) cf25) cf26) cf27) cf28) cf29) cf30) cf31)
end Go.Proofs.YtjpgfgajkjhonaaGreatDoor
namespace Go.Proofs.YtjpgfgajkjhonaaGreatDoor
open Go.Vx
set_option maxRecDepth 100000
open Go.ChangeShapes Go.WideShapes Go.ChangeAt Go.RowKit
set_option maxRecDepth 100000 in
theorem sysThrows_contract (H : Type) (enc : TypeId × Value → H) (W : World) (base : Nat) (args : Array Value) (ds gs : List (DataW H)) (before : List MemPlace)
  (hval : ∀ (j : Nat) t v, Tryz.f5.params[j]? = some t → args[j]? = some v → Value.okWide Tryz.prog W .any base t v)
  (hW : DataW.Whole enc Tryz.prog Tryz.f5.params.toList Rows.sysThrowsSpec.vars false W args.toList ds gs before) (hL : laidMetH Tryz.prog Rows.sysThrowsRow.laid W) :
  Calls Tryz.prog 5 args W fun e W' => ∃ v, e = .returned v ∧ Rows.sysThrowsSpec.post enc Tryz.prog Tryz.f5 false true false false W args v W' := by
 have hW' := hW
 obtain ⟨p, q, hA0, hV, rfl, hfz, hnd⟩ := hW
 have hA : DataW.TrodAll enc Tryz.prog W 0 (fun _ => true) true Tryz.f5.params.toList args.toList ds p := hA0
 rw [Tryz.params5] at hA hval
 obtain ⟨v0, vs0, d0, ds0, p0, q0, hargs, rfl, rfl, h0, r0⟩ := trodAll_cons hA
 obtain ⟨v1, vs1, d1, ds1, p1, q1, rfl, rfl, rfl, h1, r1⟩ := trodAll_cons r0
 obtain ⟨v2, vs2, d2, ds2, p2, q2, rfl, rfl, rfl, h2, r2⟩ := trodAll_cons r1
 obtain ⟨v3, vs3, d3, ds3, p3, q3, rfl, rfl, rfl, h3, r3⟩ := trodAll_cons r2
 obtain ⟨rfl, rfl, rfl⟩ := trodAll_nil r3
 obtain rfl : args = #[v0, v1, v2, v3] := by cases args; simp_all
 obtain ⟨rfl, rfl⟩ := trodVars_none hV
 obtain ⟨n0, i0, t0⟩ := open_nt Tryz.underlying5 (hval 0 5 v0 rfl rfl) h0
 obtain ⟨n1, i1, t1⟩ := open_nt Tryz.underlying5 (hval 1 5 v1 rfl rfl) h1
 obtain ⟨n2, i2, t2⟩ := open_nt Tryz.underlying5 (hval 2 5 v2 rfl rfl) h2
 obtain ⟨n3, i3, t3⟩ := open_nt Tryz.underlying5 (hval 3 5 v3 rfl rfl) h3
 unfold inR at i0
 unfold inR at i1
 unfold inR at i2
 unfold inR at i3
 refine (calls_of_sat (glb hL) (throwsAll n0 n1 n2 n3 ⟨i0.1, i0.2⟩ ⟨i1.1, i1.2⟩ ⟨i2.1, i2.2⟩ ⟨i3.1, i3.2⟩) rfl ?_).mono fun e W' ⟨he, hbl⟩ => ?_
 ·intro i x hx
  match i, hx with
  | 0, hx => cases hx; exact t0
  | 1, hx => cases hx; exact t1
  | 2, hx => cases hx; exact t2
  | 3, hx => cases hx; exact t3
 ·subst he
  exact ⟨_, rfl, post_law laidOutT (by rw [Tryz.params5]; decide +kernel) rfl Tryz.underlying4 rfl hW' rfl rfl rfl hbl⟩
abbrev sysThrowsArgs : Array Value := #[.int .u8 0, .int .u8 0, .int .u8 0, .int .u8 0]
theorem sysThrows_reads (os : Os) {H : Type} (enc : TypeId × Value → H) : ∃ places, DataW.whole enc Tryz.prog ((laidW os).forCall (fun _ _ => 0) ⟨#[], sysThrowsArgs, []⟩).memory Tryz.f5.params.toList Rows.sysThrowsSpec.vars false sysThrowsArgs.toList 8 = some ([.lit (.int .u8 0), .lit (.int .u8 0), .lit (.int .u8 0), .lit (.int .u8 0)], [], places) :=
 ⟨[], by kernel_rfl⟩
set_option maxRecDepth 100000 in
theorem sysThrows_lifted (os : Os) (started : os.Started) (H : Type) (enc : TypeId × Value → H) (F : Stop.Interp) :
  ReturnsInHanded {} Tryz.checked os 5 .any ((OpenSpec.ofChange Rows.sysThrowsSpec).preRow enc Tryz.prog Tryz.f5 Rows.sysThrowsRow.domain false Rows.sysThrowsRow.laid) (((OpenSpec.ofChange Rows.sysThrowsSpec).at F).post enc Tryz.prog Tryz.f5 false true false false) := by
 obtain ⟨places, hx⟩ := sysThrows_reads os enc
 refine returnsInHanded_of_row (C := Tryz.checked) (s := OpenSpec.ofChange Rows.sysThrowsSpec) ownT started (by kernel_rfl) Tryz.func5
  (witness_row_atRef (enc := enc) (C := Tryz.checked) false (laidW os) sysThrowsArgs (laidW_os os) (by kernel_rfl) (laidW_heap os _) (by kernel_rfl)
   (OpenSpec.preRow_of_cond 8 hx (by kernel_rfl) (fun k hk => by cases hk) (by kernel_rfl) (laidW_met os _))) ?_
 intro W base args ds gs before hval hW _ _ _ hL _ _
 exact sysThrows_contract H enc W base args ds gs before hval hW hL
theorem sysThrows_said : Rows.SysThrowsSaid :=
 OpenClaim.holds_of_cond 5 Tryz.f5 rfl rfl rfl rfl rfl rfl rfl ⟨rfl, rfl, rfl, rfl, rfl⟩ rfl rfl rfl rfl rfl (by kernel_rfl) Tryz.func5 closedF
  (of_decide_eq_true (by kernel_rfl)) (by unfold Func.isWrapper; first | (rw [if_pos (by decide +kernel)]; kernel_rfl) | (rw [if_neg (by decide +kernel)]; exact ⟨rfl, rfl⟩))
  (fun os started H enc _ F => by rw [OpenClaim.pre_eq_preRow]; exact sysThrows_lifted os started H enc F)
theorem sysThrows_plain (f : FuncId) (fn : Func) (hf : Tryz.pinned.checked.prog.funcNamed "lazaretto/lazarettolaw18.SysThrows" = some f) (hfn : Tryz.pinned.checked.prog.funcs[f]? = some fn) :
  true = Tryz.pinned.checked.prog.looks [] ∧ ∀ (j : Nat) t, fn.params[j]? = some t → Tryz.pinned.checked.prog.wantsStandIn t = false := by
 obtain rfl : f = 5 := Option.some.inj ((show Tryz.prog.funcNamed "lazaretto/lazarettolaw18.SysThrows" = some 5 by kernel_rfl).symm.trans hf) |>.symm
 obtain rfl : fn = Tryz.f5 := (Option.some.inj (Tryz.func5.symm.trans hfn)).symm
 refine ⟨by kernel_rfl, fun j t ht => ?_⟩
 rw [Tryz.params5] at ht
 have := Array.mem_of_getElem? ht
 obtain rfl : t = 5 := by simpa using this
 exact (show Tryz.prog.wantsStandIn 5 = false by kernel_rfl)
theorem sysThrows_card : Rows.SysThrowsCardSaid :=
 Claim7.holds_tied_plain_at .later [] _ _ _ _ sysThrows_said (fun _ h => by cases h) (by kernel_rfl) (fun _ h => by cases h) sysThrows_row_tie rfl ⟨rfl, rfl⟩ (by kernel_rfl) rfl sysThrows_plain (by kernel_rfl)
end Go.Proofs.YtjpgfgajkjhonaaGreatDoor
