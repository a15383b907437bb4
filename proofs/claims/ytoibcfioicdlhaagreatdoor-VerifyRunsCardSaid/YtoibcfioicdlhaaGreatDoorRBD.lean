/- cnf.each's iterator: it gives the bytes of a formula, one behind the other, whatever is done with each. Conditions: none. -/
import Derived.RangeFuncLeaves
import Derived.Shelf.Abstract
import Derived.WalkKit
import Derived.OwnWalkIn
import Derived.TacticsInMore
import Derived.LoopNIn
import Derived.LoopIn
import Derived.Test.YtoibcfioicdlhaaGreatDoorRBC
namespace Go.Proofs.YtoibcfioicdlhaaGreatDoor
open Go.Vx Go.RowKit Go.Shelf
set_option maxRecDepth 100000
attribute [local go_sem] Oper.semAt_some

theorem wrap_k {k n : Nat} (hm : n ≤ 9223372036854775807) (h : k < n) : wrap64 ((k : Int) + 1) = k + 1 := by unfold wrap64; omega
/-- The rows that are given. -/
def eachR (s : List UInt8) : List (List D) := s.map fun b => [D.int .u8 b.toNat]

set_option maxRecDepth 100000 in
set_option maxHeartbeats 2000000 in
theorem each172_in (F : Fence) (n : Nat) (hf : F.fn 172) (hro : F.round = none) (hn : 1 ≤ n) (s : List UInt8) (hm : s.length ≤ 9223372036854775807) (l b : Nat) (J : Nat → World → Prop) (Jx : World → Prop) (hcell : ∀ i W, J i W → W.cell? ⟨b, 0, none⟩ = some (.string ⟨s.toArray⟩))
    (hY : ∀ (i : Nat) (x : UInt8) (W1 : World), s[i]? = some x → J i W1 → YieldAt F (n - 1) Tryz.prog l #[.int .u8 x.toNat] W1 fun e W2 => (e = .returned (.bool true) ∧ J (i + 1) W2) ∨ (e = .returned (.bool false) ∧ Jx W2))
    (W : World) (h0 : J 0 W) : CallsIn F n Tryz.prog 172 #[.func (.yield l) #[] #[], .pointer (some ⟨b, 0, none⟩)] W fun e W' => (∃ v, e = .returned v) ∧ (J s.length W' ∨ Jx W') := by
  have hc := hcell 0 W h0
  refine callsIn_of_wp Tryz.func172 rfl hf ?_ hro
  simp only [Tryz.ntmps172, List.size_toArray, List.length_cons, List.length_nil, Nat.reduceAdd, Nat.reduceSub, Array.replicate_succ, Array.replicate_zero, List.push_toArray, List.append_toArray, List.nil_append, List.cons_append]
  gi_wp2
  gi_loopw [6] (fun p wr => ∃ k : Nat, k ≤ s.length ∧ p = .int .i64 k ∧ J k wr) (fun p _ => s.length - (intOf p).toNat)
  case atStart => exact ⟨0, Nat.zero_le _, rfl, h0⟩
  case round =>
    obtain ⟨k, hk, rfl, hJs⟩ := hrel
    have hcx := hcell k wr hJs
    by_cases hlt : k < s.length
    · obtain ⟨fn, tmps, assign, body, hy, hR⟩ := hY k s[k] wr (by simp [hlt]) hJs
      have hkl : k < (ByteArray.mk s.toArray).size := by simpa [ByteArray.size] using hlt
      rw [show s[k] = (ByteArray.mk s.toArray)[k] from rfl] at hy
      gi_wp2
      refine hR.mono ?_
      rintro e W3 (⟨rfl, hJ3⟩ | ⟨rfl, hJx3⟩)
      · have hw := wrap_k hm hlt
        gi_wp2
        go_roundw
        case rel => exact ⟨k + 1, by omega, by simp, hJ3⟩
        case measure => simp [intOf]; omega
      · gi_wp2
        refine bodyPost_ret (results_none rfl _ _ _) rfl ?_
        exact ⟨⟨_, rfl⟩, .inr hJx3⟩
    · obtain rfl : k = s.length := by omega
      gi_wp2
      go_end0
      exact ⟨⟨_, rfl⟩, .inl hJs⟩
set_option maxRecDepth 100000 in
theorem each172 (s : List UInt8) : IterP Tryz.prog 172 [.p 0 0] [.cells [.d (.str s)]] (eachR s) := by
  refine ⟨by kernel_rfl, ?_⟩
  intro ρ cv l J Jx hlen hJ hJx hrep hY W h0
  obtain ⟨a0, rfl⟩ := List.length_eq_one_iff.1 (show cv.length = 1 from hlen)
  have hcell : ∀ i W, J i W → ∃ b, a0 = .pointer (some ⟨b, 0, none⟩) ∧ W.cell? ⟨b, 0, none⟩ = some (.string ⟨s.toArray⟩) ∧ s.length ≤ maxLen := by
    intro i W hj
    obtain ⟨G, hR, hv⟩ := hrep i W hj
    obtain ⟨b, e1, hρ⟩ := (hv 0 (.p 0 0) rfl).pt
    obtain ⟨b', arr, ty, e2, h1, h2, h3⟩ := hR.rep 0 _ _ hρ rfl
    cases e2
    have h4 := h3 0 (.d (.str s)) rfl
    have hlt : 0 < arr.size := by rw [h2]; simp
    have e5 : arr.getD 0 undef = arr[0] := by rw [Array.getD_eq_getD_getElem?, Array.getElem?_eq_getElem hlt]; rfl
    rw [e5] at h4
    refine ⟨b, e1, ?_⟩
    rw [cell_arr h1, Array.getElem?_eq_getElem hlt]
    generalize arr[0] = u at h4
    generalize hs : D.str s = ds at h4
    cases h4 with
    | k h => cases h with
      | d h => cases h with
        | str sv hm => 
          cases hs
          exact ⟨rfl, hm⟩
        | _ => cases hs
  obtain ⟨b, rfl, hc, hm⟩ := hcell 0 W h0
  have hcell' : ∀ i W, J i W → W.cell? ⟨b, 0, none⟩ = some (.string ⟨s.toArray⟩) := fun i W hj => by
    obtain ⟨b', e, h1, _⟩ := hcell i W hj
    cases e
    exact h1
  have h1 := each172_in (Fw none) 1 trivial rfl (Nat.le_refl _) s hm l b J Jx hcell' (fun i x W1 hx hj => hY i [D.int .u8 x.toNat] W1 (by simp [eachR, hx]) hj) W h0
  rw [show (eachR s).length = s.length by simp [eachR]]
  exact calls_in (in_calls h1)
end Go.Proofs.YtoibcfioicdlhaaGreatDoor
