/- Formulas and labels: what their functions tell. Conditions: none. -/
import Derived.Test.YtjpgfgajkjhonaaGreatDoorQTAW
import Derived.Test.YtjpgfgajkjhonaaGreatDoorQTAX
import Derived.Test.YtjpgfgajkjhonaaGreatDoorQTAV
import Derived.Shelf.Strings.Builder1
import Derived.Test.YtjpgfgajkjhonaaGreatDoorChecked
import Derived.KernelRfl
import Derived.Shelf.Lay
import Derived.Shelf.Strings.Search3
import Derived.Shelf.Spec.SlicesInsert
import Derived.Shelf.Spec.SlicesInsertGrow
namespace Go.Proofs.YtjpgfgajkjhonaaGreatDoor
open Go.Vx
set_option maxRecDepth 100000
theorem each158 {K : Out → H → Prop} (s : List UInt8) (hk : K (.ret (.fc 134 [.p 0 0])) [.cells [.d (.str s)]]) : Sat Tryz.prog 92 [.d (.str s)] [] K := by
 refine s92 (keep := false) rfl ?_
 repeat' ((conv => whnf); first | exact zf | refine zg ?_ | intro _ | refine And.intro rfl ?_ | refine za ?_ | refine zl ?_ | fail)
 exact hk
def inB (a b : Int) : Bool := bitv .andNot .u8 a b == 0
theorem in185 (a b : Int) : SatP Tryz.prog 262 [.d (.int .u8 a), .d (.int .u8 b)] (.d (.bool (inB a b))) := by
 refine s262 (keep := false) rfl ?_
 repeat' ((conv => whnf); first | exact zf | refine zg ?_ | intro _ | refine And.intro rfl ?_ | refine za ?_ | refine zl ?_ | fail)
def oneOf (s : Int) (l : List Int) : Bool := l.any fun x => inB x s
def rowsU (l : List Int) : List (List D) := l.map fun x => [D.int .u8 x]
theorem rowsU_len (l : List Int) : (rowsU l).length = l.length := by simp [rowsU]
theorem one178 (s : Int) (l : List Int) : SatP Tryz.prog 197 [.d (.int .u8 s), .d (.sl 1 (rowsU l))] (.d (.bool (oneOf s l))) := by
 have hl := rowsU_len l
 refine s197 (keep := false) rfl ?_
 repeat' ((conv => whnf); first | exact zf | refine zg ?_ | intro _ | refine And.intro rfl ?_ | refine za ?_ | refine zl ?_ | fail)
 conv => whnf
 refine loop_use2 [(0, .d (.int .u8 s)), (7, .d (.sl 1 (rowsU l))), (8, .d (.int .i64 (rowsU l).length))] (fun i : Nat => i ≤ l.length ∧ oneOf s (l.take i) = false) (fun i => [(9, .d (.int .i64 i))]) (fun _ => []) (fun i => l.length - i) 0 ⟨Nat.zero_le _, rfl⟩ ?_ ?_ ?_ (fun i hi => ?_)
 ·exact (by repeat' (first | exact trivial | exact rfl | exact Or.inl rfl | refine And.intro ?_ ?_ | refine Or.inr ?_))
 ·exact (by repeat' (first | exact trivial | exact rfl | exact Or.inl rfl | refine And.intro ?_ ?_ | refine Or.inr ?_))
 ·exact rfl
 repeat' ((conv => whnf); first | exact zf | refine zg ?_ | intro _ | refine And.intro rfl ?_ | refine za ?_ | refine zl ?_ | fail)
 refine sp_intro (fun hlt => ?_) (fun hge => ?_)
 ·have hlt : i < l.length := by simpa [rowsU] using hlt
  have hr := in185 l[i] s
  have ht : l.take (i + 1) = l.take i ++ [l[i]] := List.take_succ_eq_append_getElem hlt
  repeat' ((conv => whnf); first | exact zf | refine zg ?_ | intro _ | refine And.intro rfl ?_ | refine za ?_ | refine zl ?_ | fail)
  refine ⟨[D.int .u8 l[i]], ⟨by omega, by simp [rowsU, hlt], rfl⟩, ?_⟩
  cases hb : inB l[i] s with
  | true =>
   rw [hb] at hr
   repeat' ((conv => whnf); first | exact zf | refine zg ?_ | intro _ | refine And.intro rfl ?_ | refine ⟨_, hr, ?_⟩ | refine (hr).use ?_ | refine za ?_ | refine zl ?_ | fail)
   refine outs_eq ?_
   have : oneOf s l = true := List.any_eq_true.2 ⟨l[i], List.getElem_mem hlt, hb⟩
   rw [this]
   rfl
  | false =>
   rw [hb] at hr
   repeat' ((conv => whnf); first | exact zf | refine zg ?_ | intro _ | refine And.intro rfl ?_ | refine ⟨_, hr, ?_⟩ | refine (hr).use ?_ | refine (.inl ⟨by unfold inR; omega, ?_⟩) | refine za ?_ | refine zl ?_ | fail)
   refine ⟨i + 1, ⟨hlt, ?_⟩, Nat.sub_lt_sub_left hlt (Nat.lt_succ_self i), (by repeat' (first | exact trivial | exact rfl | exact Or.inl rfl | refine And.intro ?_ ?_ | refine Or.inr ?_)), (by repeat' (first | exact trivial | exact rfl | exact Or.inl rfl | refine And.intro ?_ ?_ | refine Or.inr ?_)), rfl⟩
   rw [ht]
   unfold oneOf at hi ⊢
   rw [List.any_append, hi.2]
   simp [hb]
 ·have hge : l.length ≤ i := by simpa [rowsU] using hge
  repeat' ((conv => whnf); first | exact zf | refine zg ?_ | intro _ | refine And.intro rfl ?_ | refine za ?_ | refine zl ?_ | fail)
  refine outs_eq ?_
  have h2 := hi.2
  rw [List.take_of_length_le hge] at h2
  rw [h2]
  rfl
def hasN (l : List UInt8) (n : Nat) : Bool := l.any fun b => b.toNat == n
def leastStep (l : List UInt8) (told : List Int) (n : Nat) : List Int := bif hasN l n && !(oneOf n told) then told ++ [(n : Int)] else told
def leastN (l : List UInt8) (k : Nat) : List Int := (List.range k).foldl (leastStep l) []
def least (l : List UInt8) : List UInt8 := (leastN l 256).map fun x => UInt8.ofNat x.toNat
theorem leastN_succ (l : List UInt8) (k : Nat) : leastN l (k + 1) = leastStep l (leastN l k) k := by simp [leastN, List.range_succ]
theorem leastN_lt (l : List UInt8) (k : Nat) (hk : k ≤ 256) : ∀ x ∈ leastN l k, 0 ≤ x ∧ x < 256 := by
 induction k with
 | zero => intro x hx; simp [leastN] at hx
 | succ k ih =>
  intro x hx
  rw [leastN_succ] at hx
  unfold leastStep at hx
  cases hc : hasN l k && !(oneOf k (leastN l k)) <;> rw [hc] at hx
  ·exact ih (by omega) x hx
  ·simp only [cond_true, List.mem_append, List.mem_singleton] at hx
   rcases hx with hx | hx
   ·exact ih (by omega) x hx
   ·omega
theorem leastN_len (l : List UInt8) (k : Nat) : (leastN l k).length ≤ k := by
 induction k with
 | zero => simp [leastN]
 | succ k ih =>
  rw [leastN_succ]
  unfold leastStep
  cases hasN l k && !(oneOf k (leastN l k)) <;> simp <;> omega
theorem least_rows (l : List UInt8) : rowsU (leastN l 256) = (least l).map fun b => [D.int .u8 b.toNat] := by
 unfold rowsU least
 rw [List.map_map]
 refine List.map_congr_left fun x hx => ?_
 have := leastN_lt l 256 (Nat.le_refl _) x hx
 simp only [Function.comp_apply, UInt8.toNat_ofNat']
 rw [Nat.mod_eq_of_lt (by omega), Int.toNat_of_nonneg this.1]
def hereR (l : List UInt8) (k : Nat) : List (List D) := (List.range 256).map fun j => [D.bool (hasN (l.take k) j)]
def hereD (l : List UInt8) : List D := (List.range 256).map fun j => D.bool (hasN l j)
theorem map_const_range {α : Type} (x : α) : ∀ n, List.replicate n x = (List.range n).map fun _ => x := by
 intro n
 rw [List.map_const', List.length_range]
theorem hereR_0 (l : List UInt8) : List.replicate 256 [D.bool false] = hereR l 0 := map_const_range _ 256
theorem hereR_get (l : List UInt8) (k : Nat) (b : UInt8) : (hereR l k)[b.toNat]? = some [D.bool (hasN (l.take k) b.toNat)] := by
 unfold hereR
 rw [List.getElem?_map, List.getElem?_range (by have := b.toNat_lt; omega)]
 rfl
theorem hereR_succ (l : List UInt8) (k : Nat) (hk : k < l.length) : (hereR l k).set l[k].toNat [D.bool true] = hereR l (k + 1) := by
 have ht : l.take (k + 1) = l.take k ++ [l[k]] := List.take_succ_eq_append_getElem hk
 have hh : ∀ j, hasN (l.take (k + 1)) j = (hasN (l.take k) j || l[k].toNat == j) := fun j => by
  unfold hasN
  rw [ht, List.any_append]
  simp
 unfold hereR
 refine List.ext_getElem? fun j => ?_
 by_cases hj : j < 256
 ·by_cases e : l[k].toNat = j
  ·subst e
   rw [List.getElem?_set_self (by simpa using hj), List.getElem?_map, List.getElem?_range hj, Option.map_some, hh]
   simp
  ·rw [List.getElem?_set_ne e, List.getElem?_map, List.getElem?_map, List.getElem?_range hj, Option.map_some, Option.map_some, hh]
   have : (l[k].toNat == j) = false := by simpa using e
   rw [this, Bool.or_false]
 ·rw [List.getElem?_eq_none (by simp; omega), List.getElem?_eq_none (by simp; omega)]
theorem hereR_D (l : List UInt8) : hereR l l.length = (hereD l).map fun d => [d] := by
 unfold hereR hereD
 rw [List.take_length, List.map_map]
 rfl
theorem lts_least (i : Int) (l : List D) (r : List (List D)) : lts 0 [(19, .d (.int .i64 i)), (18, .ag (l.map .d)), (5, .os 1)] [.no, .rows 1 r] = true := by
 have e : id1 (.ag (l.map V.d)) = [] := by simp [id1, List.flatMap_eq_nil_iff, id0, idc]
 simp only [lts, List.all_cons, List.all_nil, id2, e, Bool.and_true, Bool.true_and]
 rfl
set_option maxRecDepth 100000 in
set_option maxHeartbeats 4000000 in
theorem least171 (l : List UInt8) : SatP Tryz.prog 133 [.d (.str l)] (.d (.str (least l))) := by
 refine s133 (keep := false) rfl ?_
 repeat' ((conv => whnf); first | exact zf | refine zg ?_ | intro _ | refine And.intro rfl ?_ | refine za ?_ | refine zl ?_ | fail)
 conv => whnf
 refine loop_use2 [(0, .d (.str l)), (3, .q 0 1 0 0), (9, .d (.int .i64 l.length))] (fun k : Nat => k ≤ l.length) (fun k => [(10, .d (.int .i64 k))]) (fun k => [.rows 1 (hereR l k)]) (fun k => l.length - k) 0 (Nat.zero_le _) ?_ ?_ ?_ (fun k hk => ?_)
 ·exact (by repeat' (first | exact trivial | exact rfl | exact Or.inl rfl | refine And.intro ?_ ?_ | refine Or.inr ?_))
 ·exact ⟨wkB_of (by rw [hereR_0 l]), trivial⟩
 ·exact (by kernel_rfl)
 repeat' ((conv => whnf); first | exact zf | refine zg ?_ | intro _ | refine And.intro rfl ?_ | refine za ?_ | refine zl ?_ | fail)
 refine sp_intro (fun hlt => ?_) (fun hge => ?_)
 ·have hlt : k < l.length := by simpa using hlt
  repeat' ((conv => whnf); first | exact zf | refine zg ?_ | intro _ | refine And.intro rfl ?_ | refine za ?_ | refine zl ?_ | fail)
  refine ⟨l[k], ⟨by omega, by simp [hlt]⟩, ?_⟩
  have hb := l[k].toNat_lt
  repeat' ((conv => whnf); first | exact zf | refine zg ?_ | intro _ | refine And.intro rfl ?_ | refine za ?_ | refine zl ?_ | fail)
  conv => whnf
  refine ⟨[D.bool (hasN (l.take k) l[k].toNat)], hereR_get l k l[k], ⟨rfl, rfl, rfl⟩, ?_⟩
  repeat' ((conv => whnf); first | exact zf | refine zg ?_ | intro _ | refine And.intro rfl ?_ | refine (.inl ⟨by unfold inR; omega, ?_⟩) | refine za ?_ | refine zl ?_ | fail)
  refine ⟨k + 1, hlt, Nat.sub_lt_sub_left hlt (Nat.lt_succ_self k), (by repeat' (first | exact trivial | exact rfl | exact Or.inl rfl | refine And.intro ?_ ?_ | refine Or.inr ?_)), ⟨wkB_of (congrArg (B.rows 1) (hereR_succ l k hlt)), trivial⟩, rfl⟩
 ·have hge : l.length ≤ k := by simpa using hge
  obtain rfl : k = l.length := by omega
  repeat' ((conv => whnf); first | exact zf | refine zg ?_ | intro _ | refine And.intro rfl ?_ | refine za ?_ | refine zl ?_ | fail)
  refine ⟨hereD l, ⟨hereR_D l, by simp [hereD]⟩, ?_⟩
  repeat' ((conv => whnf); first | exact zf | refine zg ?_ | intro _ | refine And.intro rfl ?_ | refine za ?_ | refine zl ?_ | fail)
  conv => whnf
  refine loop_use2 [(18, .ag ((hereD l).map .d)), (5, .os 1)] (fun k : Nat => k ≤ 256) (fun k => [(19, .d (.int .i64 k))]) (fun k => [.no, .rows 1 (rowsU (leastN l k))]) (fun k => 256 - k) 0 (Nat.zero_le _) ?_ ?_ (lts_least _ _ _) (fun k hk => ?_)
  ·exact (by repeat' (first | exact trivial | exact rfl | exact Or.inl rfl | refine And.intro ?_ ?_ | refine Or.inr ?_))
  ·exact (by repeat' (first | exact trivial | exact rfl | exact Or.inl rfl | refine And.intro ?_ ?_ | refine Or.inr ?_))
  repeat' ((conv => whnf); first | exact zf | refine zg ?_ | intro _ | refine And.intro rfl ?_ | refine za ?_ | refine zl ?_ | fail)
  refine sp_intro (fun hlt => ?_) (fun hge => ?_)
  ·have hlt : k < 256 := by have := of_decide_eq_true hlt; omega
   have hlen := leastN_len l k
   have hrl := rowsU_len (leastN l k)
   have hg : ∀ b, hasN l k = b → ((hereD l).map V.d)[(k : Int).toNat]? = some (.d (.bool b)) := fun b hb => by
    subst hb
    simp [hereD, hlt]
   have hsx := leastN_succ l k
   unfold leastStep at hsx
   have hr := one178 k (leastN l k)
   cases h1 : hasN l k with
   | false =>
    rw [h1, Bool.false_and, cond_false] at hsx
    repeat' ((conv => whnf); first | exact zf | refine zg ?_ | intro _ | refine And.intro rfl ?_ | refine za ?_ | refine zl ?_ | fail)
    refine ⟨.bool false, ⟨by omega, by omega, hg _ h1⟩, ?_⟩
    repeat' ((conv => whnf); first | exact zf | refine zg ?_ | intro _ | refine And.intro rfl ?_ | refine (.inl ⟨by unfold inR; omega, ?_⟩) | refine za ?_ | refine zl ?_ | fail)
    refine ⟨k + 1, hlt, Nat.sub_lt_sub_left hlt (Nat.lt_succ_self k), (by repeat' (first | exact trivial | exact rfl | exact Or.inl rfl | refine And.intro ?_ ?_ | refine Or.inr ?_)), ⟨wkB_of (by rw [hsx]), trivial⟩, lts_least _ _ _⟩
   | true =>
    cases h2 : oneOf k (leastN l k) with
    | true =>
     rw [h1, h2] at hsx
     rw [h2] at hr
     simp only [Bool.not_true, Bool.and_false, cond_false] at hsx
     repeat' ((conv => whnf); first | exact zf | refine zg ?_ | intro _ | refine And.intro rfl ?_ | refine za ?_ | refine zl ?_ | fail)
     refine ⟨.bool true, ⟨by omega, by omega, hg _ h1⟩, ?_⟩
     repeat' ((conv => whnf); first | exact zf | refine zg ?_ | intro _ | refine And.intro rfl ?_ | refine (.inl ⟨_, hr, rfl, ?_⟩) | refine (.inl ⟨by unfold inR; omega, ?_⟩) | refine za ?_ | refine zl ?_ | fail)
     refine ⟨k + 1, hlt, Nat.sub_lt_sub_left hlt (Nat.lt_succ_self k), (by repeat' (first | exact trivial | exact rfl | exact Or.inl rfl | refine And.intro ?_ ?_ | refine Or.inr ?_)), ⟨wkB_of (by rw [hsx]), trivial⟩, lts_least _ _ _⟩
    | false =>
     rw [h1, h2] at hsx
     rw [h2] at hr
     simp only [Bool.not_false, Bool.and_self, cond_true] at hsx
     repeat' ((conv => whnf); first | exact zf | refine zg ?_ | intro _ | refine And.intro rfl ?_ | refine za ?_ | refine zl ?_ | fail)
     refine ⟨.bool true, ⟨by omega, by omega, hg _ h1⟩, ?_⟩
     repeat' ((conv => whnf); first | exact zf | refine zg ?_ | intro _ | refine And.intro rfl ?_ | refine (.inl ⟨_, hr, rfl, ?_⟩) | refine (.inl ⟨by unfold inR; omega, ?_⟩) | refine za ?_ | refine zl ?_ | fail)
     refine ⟨k + 1, hlt, Nat.sub_lt_sub_left hlt (Nat.lt_succ_self k), (by repeat' (first | exact trivial | exact rfl | exact Or.inl rfl | refine And.intro ?_ ?_ | refine Or.inr ?_)), ⟨wkB_of (by rw [hsx]; simp [rowsU]), trivial⟩, lts_least _ _ _⟩
  ·have hge : k = 256 := by have := of_decide_eq_false hge; omega
   subst hge
   repeat' ((conv => whnf); first | exact zf | refine zg ?_ | intro _ | refine And.intro rfl ?_ | refine za ?_ | refine zl ?_ | fail)
   refine ⟨least l, least_rows l, ?_⟩
   repeat' ((conv => whnf); first | exact zf | refine zg ?_ | intro _ | refine And.intro rfl ?_ | refine za ?_ | refine zl ?_ | fail)
theorem u8_bv (a : UInt8) : BitVec.ofInt 8 (a.toNat : Int) = a.toBitVec := by
 rw [BitVec.ofInt_natCast]
 exact BitVec.eq_of_toNat_eq (by rw [BitVec.toNat_ofNat, Nat.mod_eq_of_lt a.toNat_lt]; rfl)
theorem wrap_u8 (b : BitVec 8) : IntKind.u8.wrap (b.toNat : Int) = b.toNat := by
 have := b.isLt
 have e : (IntKind.u8.wrap (b.toNat : Int)) = (b.toNat : Int) % 256 := rfl
 rw [e]
 omega
theorem and_u8 (a b : UInt8) : bitv .and .u8 a.toNat b.toNat = ((a &&& b).toNat : Int) := by
 show IntKind.u8.wrap ((BitVec.ofInt 8 (a.toNat : Int) &&& BitVec.ofInt 8 (b.toNat : Int)).toNat : Int) = _
 rw [u8_bv, u8_bv, wrap_u8]
 rfl
theorem or_u8 (a b : UInt8) : bitv .or .u8 a.toNat b.toNat = ((a ||| b).toNat : Int) := by
 show IntKind.u8.wrap ((BitVec.ofInt 8 (a.toNat : Int) ||| BitVec.ofInt 8 (b.toNat : Int)).toNat : Int) = _
 rw [u8_bv, u8_bv, wrap_u8]
 rfl
def maskB (l : List UInt8) : List UInt8 := l.map (· &&& 63)
def normB (l : List UInt8) : List UInt8 := least (maskB l)
def rowsB (l : List UInt8) : List (List D) := l.map fun b => [D.int .u8 b.toNat]
theorem rowsB_len (l : List UInt8) : (rowsB l).length = l.length := by simp [rowsB]
set_option maxRecDepth 100000 in
set_option maxHeartbeats 4000000 in
theorem norm157 (l : List UInt8) (hm : l.length ≤ 140737488355328) : SatP Tryz.prog 91 [.d (.str l)] (.d (.str (normB l))) := by
 refine s91 (keep := false) rfl ?_
 repeat' ((conv => whnf); first | exact zf | refine zg ?_ | intro _ | refine And.intro rfl ?_ | refine (each158 l ?_) | refine za ?_ | refine zl ?_ | fail)
 conv => whnf
 refine rf_use 134 [.p 2 0] [2] l (fun b => .int .u8 b.toNat) (fun i j => i = j) (fun i => [.rows 1 (rowsB (maskB (l.take i))), .cells [.os 0], .cells [.d (.str l)]]) 0 3 rfl rfl (each172 l) (fun _ => trivial) rfl ?_ (fun _ => ⟨rfl, rfl, rfl⟩) (fun i b j hb hi => ?_) (fun i hi => ?_)
 ·exact (by repeat' (first | exact trivial | exact rfl | exact Or.inl rfl | refine And.intro ?_ ?_ | refine Or.inr ?_))
 ·subst hi
  obtain ⟨hlt, rfl⟩ := List.getElem?_eq_some_iff.1 hb
  have hlen : (rowsB (maskB (l.take i))).length ≤ i := by simp [rowsB, maskB]; omega
  have hs : rowsB (maskB (l.take (i + 1))) = rowsB (maskB (l.take i)) ++ [[D.int .u8 (bitv .and .u8 l[i].toNat 63)]] := by
   rw [List.take_succ_eq_append_getElem hlt]
   simp only [rowsB, maskB, List.map_append, List.map_cons, List.map_nil]
   rw [show (63 : Int) = ((63 : UInt8).toNat : Int) from rfl, and_u8]
  repeat' ((conv => whnf); first | exact zf | refine zg ?_ | intro _ | refine And.intro rfl ?_ | refine za ?_ | refine zl ?_ | fail)
  exact ⟨i + 1, rfl, wkB_of (by rw [hs]; rfl), wkB_of rfl, wkB_of rfl, trivial⟩
 ·subst hi
  repeat' ((conv => whnf); first | exact zf | refine zg ?_ | intro _ | refine And.intro rfl ?_ | refine za ?_ | refine zl ?_ | fail)
  refine ⟨maskB (l.take l.length), rfl, ?_⟩
  repeat' ((conv => whnf); first | exact zf | refine zg ?_ | intro _ | refine And.intro rfl ?_ | refine ⟨_, least171 _, ?_⟩ | refine (least171 _).use ?_ | refine za ?_ | refine zl ?_ | fail)
  refine outs_eq ?_
  rw [List.take_length]
  rfl
def holdsB (l : List UInt8) (x : UInt8) : Bool := l.all fun b => !(b &&& x == 0)
set_option maxRecDepth 100000 in
set_option maxHeartbeats 4000000 in
theorem holds173 (l : List UInt8) (x : UInt8) : SatP Tryz.prog 127 [.d (.str l), .d (.int .u8 x.toNat)] (.d (.bool (holdsB l x))) := by
 refine s127 (keep := false) rfl ?_
 repeat' ((conv => whnf); first | exact zf | refine zg ?_ | intro _ | refine And.intro rfl ?_ | refine (each158 l ?_) | refine za ?_ | refine zl ?_ | fail)
 conv => whnf
 refine rf_use 134 [.p 2 0] [2] l (fun b => .int .u8 b.toNat) (fun i (_ : Unit) => holdsB (l.take i) x = true) (fun _ => [.cells [.d (.int .u8 x.toNat)], .cells [.d (.bool false)], .cells [.d (.str l)]]) () 3 rfl rfl (each172 l) (fun _ => trivial) rfl ?_ (fun _ => ⟨rfl, rfl, rfl⟩) (fun i b _ hb hi => ?_) (fun _ hi => ?_)
 ·exact (by repeat' (first | exact trivial | exact rfl | exact Or.inl rfl | refine And.intro ?_ ?_ | refine Or.inr ?_))
 ·obtain ⟨hlt, rfl⟩ := List.getElem?_eq_some_iff.1 hb
  have he : (bitv .and .u8 l[i].toNat x.toNat == 0) = (l[i] &&& x == 0) := by
   rw [and_u8, Bool.eq_iff_iff, beq_iff_eq, beq_iff_eq, ← UInt8.toNat_inj]
   simp
  cases hc : (l[i] &&& x == 0) with
  | true =>
   rw [hc] at he
   repeat' ((conv => whnf); first | exact zf | refine zg ?_ | intro _ | refine And.intro rfl ?_ | refine (sp_t he ?_) | refine za ?_ | refine zl ?_ | fail)
   refine outs_eq ?_
   have : holdsB l x = false := by
    unfold holdsB
    rw [List.all_eq_false]
    exact ⟨l[i], List.getElem_mem hlt, by rw [hc]; simp⟩
   rw [this]
   rfl
  | false =>
   rw [hc] at he
   repeat' ((conv => whnf); first | exact zf | refine zg ?_ | intro _ | refine And.intro rfl ?_ | refine (sp_f he ?_) | refine za ?_ | refine zl ?_ | fail)
   refine ⟨(), ?_, wkB_of rfl, wkB_of rfl, wkB_of rfl, trivial⟩
   rw [List.take_succ_eq_append_getElem hlt]
   unfold holdsB at hi ⊢
   rw [List.all_append, hi]
   simp [hc]
 ·skip
  repeat' ((conv => whnf); first | exact zf | refine zg ?_ | intro _ | refine And.intro rfl ?_ | refine za ?_ | refine zl ?_ | fail)
  refine outs_eq ?_
  rw [List.take_length] at hi
  rw [hi]
  rfl
end Go.Proofs.YtjpgfgajkjhonaaGreatDoor
namespace Go.Proofs.YtjpgfgajkjhonaaGreatDoor
open Go.Vx
set_option maxRecDepth 100000
theorem normB_len (l : List UInt8) : (normB l).length ≤ 256 := by
 unfold normB least
 rw [List.length_map]
 exact leastN_len _ _
def sml (l : List UInt8) : Prop := l.length ≤ 140737488355328
theorem sml_norm (l : List UInt8) : sml (normB l) := Nat.le_trans (normB_len l) (by decide)
def andB (a b : List UInt8) : List UInt8 := normB (normB a ++ normB b)
set_option maxRecDepth 100000 in
theorem and131 (a b : List UInt8) (ha : sml a) (hb : sml b) : SatP Tryz.prog 54 [.d (.str a), .d (.str b)] (.d (.str (andB a b))) := by
 have h1 := norm157 a ha
 have h2 := norm157 b hb
 have la := normB_len a
 have lb := normB_len b
 have h3 := norm157 (normB a ++ normB b) (by rw [List.length_append]; omega)
 refine s54 (keep := false) rfl ?_
 repeat' ((conv => whnf); first | exact zf | refine zg ?_ | intro _ | refine And.intro rfl ?_ | refine ⟨_, h1, ?_⟩ | refine (h1).use ?_ | refine ⟨_, h2, ?_⟩ | refine (h2).use ?_ | refine ⟨_, h3, ?_⟩ | refine (h3).use ?_ | refine za ?_ | refine zl ?_ | fail)
def unions (a b : List UInt8) : List UInt8 := a.flatMap fun c => b.map fun d => c ||| d
def orB (a b : List UInt8) : List UInt8 := normB (unions (normB a) (normB b))
theorem unions_len (a b : List UInt8) : (unions a b).length = a.length * b.length := by
 unfold unions
 induction a with
 | nil => simp
 | cons c a ih => rw [List.flatMap_cons, List.length_append, ih, List.length_map, List.length_cons, Nat.add_mul]; omega
theorem unions_succ (a b : List UInt8) (i : Nat) (h : i < a.length) : unions (a.take (i + 1)) b = unions (a.take i) b ++ b.map fun d => a[i] ||| d := by
 unfold unions
 rw [List.take_succ_eq_append_getElem h, List.flatMap_append, List.flatMap_cons, List.flatMap_nil, List.append_nil]
set_option maxRecDepth 100000 in
set_option maxHeartbeats 4000000 in
theorem or132 (a b : List UInt8) (ha : sml a) (hb : sml b) : SatP Tryz.prog 55 [.d (.str a), .d (.str b)] (.d (.str (orB a b))) := by
 have h1 := norm157 a ha
 have h2 := norm157 b hb
 have la := normB_len a
 have lb := normB_len b
 unfold orB
 generalize normB a = na at h1 la ⊢
 generalize normB b = nb at h2 lb ⊢
 have hmul : na.length * nb.length ≤ 65536 := Nat.le_trans (Nat.mul_le_mul la lb) (by decide)
 have h3 := norm157 (unions na nb) (by rw [unions_len]; omega)
 refine s55 (keep := false) rfl ?_
 repeat' ((conv => whnf); first | exact zf | refine zg ?_ | intro _ | refine And.intro rfl ?_ | refine ⟨_, h1, ?_⟩ | refine (h1).use ?_ | refine ⟨_, h2, ?_⟩ | refine (h2).use ?_ | refine (.inl ⟨by unfold inR; omega, ?_⟩) | refine (each158 na ?_) | refine za ?_ | refine zl ?_ | fail)
 conv => whnf
 refine rf_use 134 [.p 3 0] [3] na (fun b => .int .u8 b.toNat) (fun i j => i = j) (fun i => [.cells [.d (.str nb)], .rows 1 (rowsB (unions (na.take i) nb)), .cells [.os 1], .cells [.d (.str na)]]) 0 4 rfl rfl (each172 na) (fun _ => trivial) rfl ?_ (fun _ => ⟨rfl, rfl, rfl⟩) (fun i c j hc hi => ?_) (fun i hi => ?_)
 ·exact (by repeat' (first | exact trivial | exact rfl | exact Or.inl rfl | refine And.intro ?_ ?_ | refine Or.inr ?_))
 ·subst hi
  obtain ⟨hlt, rfl⟩ := List.getElem?_eq_some_iff.1 hc
  have hs := unions_succ na nb i hlt
  have hul : (unions (na.take i) nb).length ≤ 65536 := by
   rw [unions_len, List.length_take]
   exact Nat.le_trans (Nat.mul_le_mul_right _ (Nat.le_trans (Nat.min_le_right ..) (Nat.le_refl _))) hmul
  repeat' ((conv => whnf); first | exact zf | refine zg ?_ | intro _ | refine And.intro rfl ?_ | refine (each158 nb ?_) | refine za ?_ | refine zl ?_ | fail)
  conv => whnf
  refine rf_use 134 [.p 5 0] [5] nb (fun b => .int .u8 b.toNat) (fun i j => i = j) (fun j => [.cells [.d (.str nb)], .rows 1 (rowsB (unions (na.take i) nb ++ (nb.take j).map fun d => na[i] ||| d)), .cells [.os 1], .cells [.d (.str na)], .cells [.d (.int .u8 na[i].toNat)], .cells [.d (.str nb)]]) 0 6 rfl rfl (each172 nb) (fun _ => trivial) rfl ?_ (fun _ => ⟨rfl, rfl, rfl⟩) (fun j d k hd hj => ?_) (fun j hj => ?_)
  ·exact ⟨wkB_of rfl, wkB_of (by simp), wkB_of rfl, wkB_of rfl, wkB_of rfl, wkB_of rfl, trivial⟩
  ·subst hj
   obtain ⟨hlj, rfl⟩ := List.getElem?_eq_some_iff.1 hd
   have hl2 : (rowsB (unions (na.take i) nb ++ (nb.take j).map fun d => na[i] ||| d)).length ≤ 65536 + 256 := by
    rw [rowsB_len, List.length_append, List.length_map, List.length_take]
    omega
   have hs2 : rowsB (unions (na.take i) nb ++ (nb.take (j + 1)).map fun d => na[i] ||| d) = rowsB (unions (na.take i) nb ++ (nb.take j).map fun d => na[i] ||| d) ++ [[D.int .u8 (bitv .or .u8 na[i].toNat nb[j].toNat)]] := by
    rw [List.take_succ_eq_append_getElem hlj, or_u8]
    simp only [rowsB, List.map_append, List.map_cons, List.map_nil, List.append_assoc]
   repeat' ((conv => whnf); first | exact zf | refine zg ?_ | intro _ | refine And.intro rfl ?_ | refine za ?_ | refine zl ?_ | fail)
   exact ⟨j + 1, rfl, wkB_of rfl, wkB_of (by rw [hs2]; rfl), wkB_of rfl, wkB_of rfl, wkB_of rfl, wkB_of rfl, trivial⟩
  ·subst hj
   repeat' ((conv => whnf); first | exact zf | refine zg ?_ | intro _ | refine And.intro rfl ?_ | refine za ?_ | refine zl ?_ | fail)
   exact ⟨i + 1, rfl, wkB_of rfl, wkB_of (by rw [hs, List.take_length]), wkB_of rfl, wkB_of rfl, trivial⟩
 ·subst hi
  repeat' ((conv => whnf); first | exact zf | refine zg ?_ | intro _ | refine And.intro rfl ?_ | refine za ?_ | refine zl ?_ | fail)
  refine ⟨unions (na.take na.length) nb, rfl, ?_⟩
  rw [List.take_length]
  repeat' ((conv => whnf); first | exact zf | refine zg ?_ | intro _ | refine And.intro rfl ?_ | refine ⟨_, h3, ?_⟩ | refine (h3).use ?_ | refine za ?_ | refine zl ?_ | fail)
def holdsN (l : List UInt8) (n : Nat) : Bool := holdsB l (UInt8.ofNat n)
theorem holdsN173 (l : List UInt8) (n : Nat) (h : n < 256) : SatP Tryz.prog 127 [.d (.str l), .d (.int .u8 n)] (.d (.bool (holdsN l n))) := by
 have := holds173 l (UInt8.ofNat n)
 rw [UInt8.toNat_ofNat', Nat.mod_eq_of_lt h] at this
 exact this
def tabN (l : List UInt8) (k : Nat) : Int := (List.range k).foldl (fun t x => bif holdsN l x then bitv .or .u64 t (shv .shl .u64 1 x) else t) 0
theorem tabN_succ (l : List UInt8) (k : Nat) : tabN l (k + 1) = bif holdsN l k then bitv .or .u64 (tabN l k) (shv .shl .u64 1 k) else tabN l k := by simp [tabN, List.range_succ]
def tableB (l : List UInt8) : Int := tabN (normB l) 64
set_option maxRecDepth 100000 in
set_option maxHeartbeats 4000000 in
theorem table159 (a : List UInt8) (ha : sml a) : SatP Tryz.prog 83 [.d (.str a)] (.d (.int .u64 (tableB a))) := by
 have h1 := norm157 a ha
 unfold tableB
 generalize normB a = l at h1 ⊢
 refine s83 (keep := false) rfl ?_
 repeat' ((conv => whnf); first | exact zf | refine zg ?_ | intro _ | refine And.intro rfl ?_ | refine ⟨_, h1, ?_⟩ | refine (h1).use ?_ | refine za ?_ | refine zl ?_ | fail)
 conv => whnf
 refine loop_use2 [(0, .d (.str l))] (fun k : Nat => k ≤ 64) (fun k => [(7, .d (.int .u8 k)), (3, .d (.int .u64 (tabN l k)))]) (fun _ => []) (fun k => 64 - k) 0 (Nat.zero_le _) ?_ ?_ ?_ (fun k hk => ?_)
 ·exact (by repeat' (first | exact trivial | exact rfl | exact Or.inl rfl | refine And.intro ?_ ?_ | refine Or.inr ?_))
 ·exact (by repeat' (first | exact trivial | exact rfl | exact Or.inl rfl | refine And.intro ?_ ?_ | refine Or.inr ?_))
 ·exact rfl
 repeat' ((conv => whnf); first | exact zf | refine zg ?_ | intro _ | refine And.intro rfl ?_ | refine za ?_ | refine zl ?_ | fail)
 refine sp_intro (fun hlt => ?_) (fun hge => ?_)
 ·have hlt : k < 64 := by have := of_decide_eq_true hlt; omega
  have hr := holdsN173 l k (by omega)
  have hs := tabN_succ l k
  cases hb : holdsN l k with
  | true =>
   rw [hb] at hr hs
   simp only [cond_true] at hs
   repeat' ((conv => whnf); first | exact zf | refine zg ?_ | intro _ | refine And.intro rfl ?_ | refine ⟨_, hr, ?_⟩ | refine (hr).use ?_ | refine (.inl ⟨by unfold inR; omega, ?_⟩) | refine za ?_ | refine zl ?_ | fail)
   refine ⟨k + 1, hlt, Nat.sub_lt_sub_left hlt (Nat.lt_succ_self k), ⟨wkb_of rfl, wkb_of (by rw [hs]; rfl), wkb_of rfl, trivial⟩, (by repeat' (first | exact trivial | exact rfl | exact Or.inl rfl | refine And.intro ?_ ?_ | refine Or.inr ?_)), rfl⟩
  | false =>
   rw [hb] at hr hs
   simp only [cond_false] at hs
   repeat' ((conv => whnf); first | exact zf | refine zg ?_ | intro _ | refine And.intro rfl ?_ | refine ⟨_, hr, ?_⟩ | refine (hr).use ?_ | refine (.inl ⟨by unfold inR; omega, ?_⟩) | refine za ?_ | refine zl ?_ | fail)
   refine ⟨k + 1, hlt, Nat.sub_lt_sub_left hlt (Nat.lt_succ_self k), ⟨wkb_of rfl, wkb_of (by rw [hs]; rfl), wkb_of rfl, trivial⟩, (by repeat' (first | exact trivial | exact rfl | exact Or.inl rfl | refine And.intro ?_ ?_ | refine Or.inr ?_)), rfl⟩
 ·have hge : k = 64 := by have := of_decide_eq_false hge; omega
  subst hge
  repeat' ((conv => whnf); first | exact zf | refine zg ?_ | intro _ | refine And.intro rfl ?_ | refine za ?_ | refine zl ?_ | fail)
def impliesB (a b : List UInt8) : Bool := bitv .andNot .u64 (tableB a) (tableB b) == 0
theorem implies134 (a b : List UInt8) (ha : sml a) (hb : sml b) : SatP Tryz.prog 42 [.d (.str a), .d (.str b)] (.d (.bool (impliesB a b))) := by
 have h1 := table159 a ha
 have h2 := table159 b hb
 refine s42 (keep := false) rfl ?_
 repeat' ((conv => whnf); first | exact zf | refine zg ?_ | intro _ | refine And.intro rfl ?_ | refine ⟨_, h1, ?_⟩ | refine (h1).use ?_ | refine ⟨_, h2, ?_⟩ | refine (h2).use ?_ | refine za ?_ | refine zl ?_ | fail)
structure Lb where
 s : List UInt8
 i : List UInt8
 deriving DecidableEq
def agL (l : Lb) : V := .ag [.d (.str l.s), .d (.str l.i)]
def smL (l : Lb) : Prop := sml l.s ∧ sml l.i
def half (b : Bool) (l : Lb) : List UInt8 := bif b then l.s else l.i
theorem half161 (b : Bool) (l : Lb) : SatP Tryz.prog 129 [.d (.bool b), agL l] (.d (.str (half b l))) := by
 cases b with
 | true =>
  refine s129 (keep := false) rfl ?_
  repeat' ((conv => whnf); first | exact zf | refine zg ?_ | intro _ | refine And.intro rfl ?_ | refine za ?_ | refine zl ?_ | fail)
 | false =>
  refine s129 (keep := false) rfl ?_
  repeat' ((conv => whnf); first | exact zf | refine zg ?_ | intro _ | refine And.intro rfl ?_ | refine za ?_ | refine zl ?_ | fail)
theorem half_sml {b : Bool} {l : Lb} (h : smL l) : sml (half b l) := by cases b <;> first | exact h.1 | exact h.2
theorem norm160 (b : Bool) (l : Lb) (hl : smL l) : Sat Tryz.prog 128 [.d (.bool b), .p 0 0] [.cells [.d (.str l.s), .d (.str l.i)]] fun o h => o = .ret (.d (.str (normB (half b l)))) ∧ h = [.cells [.d (.str l.s), .d (.str l.i)]] := by
 have h1 := half161 b l
 have h2 := norm157 (half b l) (half_sml hl)
 refine s128 (keep := false) rfl ?_
 repeat' ((conv => whnf); first | exact zf | refine zg ?_ | intro _ | refine And.intro rfl ?_ | refine ⟨_, h1, ?_⟩ | refine (h1).use ?_ | refine ⟨_, h2, ?_⟩ | refine (h2).use ?_ | refine za ?_ | refine zl ?_ | fail)
theorem madeN {K : Out → H → Prop} (l : Lb) (a b : List UInt8) (h1 : Sat Tryz.prog 128 [.d (.bool true), .p 0 0] [.cells [.d (.str l.s), .d (.str l.i)]] fun o h => o = .ret (.d (.str a)) ∧ h = [.cells [.d (.str l.s), .d (.str l.i)]]) (h2 : Sat Tryz.prog 128 [.d (.bool false), .p 0 0] [.cells [.d (.str l.s), .d (.str l.i)]] fun o h => o = .ret (.d (.str b)) ∧ h = [.cells [.d (.str l.s), .d (.str l.i)]])
  (hk : K (.ret (agL ⟨a, b⟩)) [.cells [.d (.str l.s), .d (.str l.i)]]) : Sat Tryz.prog 52 [.fc 128 [.p 0 0]] [.cells [.d (.str l.s), .d (.str l.i)]] K := by
 refine s52 (keep := false) rfl ?_
 repeat' ((conv => whnf); first | exact zf | refine zg ?_ | intro _ | refine And.intro rfl ?_ | refine (.inr ?_ : (∃ _, _) ∨ _) | refine za ?_ | refine zl ?_ | fail)
 refine h1.mono fun o h' hh => ?_
 obtain ⟨rfl, rfl⟩ := hh
 repeat' ((conv => whnf); first | exact zf | refine zg ?_ | intro _ | refine And.intro rfl ?_ | refine (.inr ?_ : (∃ _, _) ∨ _) | refine za ?_ | refine zl ?_ | fail)
 refine h2.mono fun o h' hh => ?_
 obtain ⟨rfl, rfl⟩ := hh
 repeat' ((conv => whnf); first | exact zf | refine zg ?_ | intro _ | refine And.intro rfl ?_ | refine za ?_ | refine zl ?_ | fail)
 exact hk
def normL (l : Lb) : Lb := ⟨normB l.s, normB l.i⟩
theorem normL135 (l : Lb) (hl : smL l) : SatP Tryz.prog 84 [agL l] (agL (normL l)) := by
 refine s84 (keep := false) rfl ?_
 repeat' ((conv => whnf); first | exact zf | refine zg ?_ | intro _ | refine And.intro rfl ?_ | refine (.inr ?_ : (∃ _, _) ∨ _) | refine za ?_ | refine zl ?_ | fail)
 refine madeN l _ _ (norm160 true l hl) (norm160 false l hl) ?_
 repeat' ((conv => whnf); first | exact zf | refine zg ?_ | intro _ | refine And.intro rfl ?_ | refine za ?_ | refine zl ?_ | fail)
def okL (l : Lb) : Bool := normB l.s == l.s && normB l.i == l.i
theorem rightL116 (l : Lb) (hl : smL l) : SatP Tryz.prog 44 [agL l] (.d (.bool (okL l))) := by
 have h1 := normL135 l hl
 refine s44 (keep := false) rfl ?_
 repeat' ((conv => whnf); first | exact zf | refine zg ?_ | intro _ | refine And.intro rfl ?_ | refine ⟨_, h1, ?_⟩ | refine (h1).use ?_ | refine za ?_ | refine zl ?_ | fail)
 refine outs_eq ?_
 show V.d (.bool (normB l.s == l.s && (normB l.i == l.i && true))) = _
 rw [Bool.and_true]
 rfl
theorem madeJ {K : Out → H → Prop} (l m : Lb) (a b : List UInt8) (h1 : Sat Tryz.prog 53 [.d (.bool true), .p 0 0, .p 1 0] [.cells [.d (.str l.s), .d (.str l.i)], .cells [.d (.str m.s), .d (.str m.i)]] fun o h => o = .ret (.d (.str a)) ∧ h = [.cells [.d (.str l.s), .d (.str l.i)], .cells [.d (.str m.s), .d (.str m.i)]]) (h2 : Sat Tryz.prog 53 [.d (.bool false), .p 0 0, .p 1 0] [.cells [.d (.str l.s), .d (.str l.i)], .cells [.d (.str m.s), .d (.str m.i)]] fun o h => o = .ret (.d (.str b)) ∧ h = [.cells [.d (.str l.s), .d (.str l.i)], .cells [.d (.str m.s), .d (.str m.i)]])
  (hk : K (.ret (agL ⟨a, b⟩)) [.cells [.d (.str l.s), .d (.str l.i)], .cells [.d (.str m.s), .d (.str m.i)]]) : Sat Tryz.prog 52 [.fc 53 [.p 0 0, .p 1 0]] [.cells [.d (.str l.s), .d (.str l.i)], .cells [.d (.str m.s), .d (.str m.i)]] K := by
 refine s52 (keep := false) rfl ?_
 repeat' ((conv => whnf); first | exact zf | refine zg ?_ | intro _ | refine And.intro rfl ?_ | refine (.inr ?_ : (∃ _, _) ∨ _) | refine za ?_ | refine zl ?_ | fail)
 refine h1.mono fun o h' hh => ?_
 obtain ⟨rfl, rfl⟩ := hh
 repeat' ((conv => whnf); first | exact zf | refine zg ?_ | intro _ | refine And.intro rfl ?_ | refine (.inr ?_ : (∃ _, _) ∨ _) | refine za ?_ | refine zl ?_ | fail)
 refine h2.mono fun o h' hh => ?_
 obtain ⟨rfl, rfl⟩ := hh
 repeat' ((conv => whnf); first | exact zf | refine zg ?_ | intro _ | refine And.intro rfl ?_ | refine za ?_ | refine zl ?_ | fail)
 exact hk
set_option maxRecDepth 100000 in
theorem join130 (b : Bool) (l m : Lb) (hl : smL l) (hm : smL m) : Sat Tryz.prog 53 [.d (.bool b), .p 0 0, .p 1 0] [.cells [.d (.str l.s), .d (.str l.i)], .cells [.d (.str m.s), .d (.str m.i)]] fun o h => o = .ret (.d (.str (bif b then andB l.s m.s else orB l.i m.i))) ∧ h = [.cells [.d (.str l.s), .d (.str l.i)], .cells [.d (.str m.s), .d (.str m.i)]] := by
 have h1 := and131 l.s m.s hl.1 hm.1
 have h2 := or132 l.i m.i hl.2 hm.2
 cases b with
 | true =>
  refine s53 (keep := false) rfl ?_
  repeat' ((conv => whnf); first | exact zf | refine zg ?_ | intro _ | refine And.intro rfl ?_ | refine ⟨_, h1, ?_⟩ | refine (h1).use ?_ | refine za ?_ | refine zl ?_ | fail)
 | false =>
  refine s53 (keep := false) rfl ?_
  repeat' ((conv => whnf); first | exact zf | refine zg ?_ | intro _ | refine And.intro rfl ?_ | refine ⟨_, h2, ?_⟩ | refine (h2).use ?_ | refine za ?_ | refine zl ?_ | fail)
def joinL (l m : Lb) : Lb := ⟨andB l.s m.s, orB l.i m.i⟩
def meetL (l m : Lb) : Lb := ⟨orB l.s m.s, andB l.i m.i⟩
set_option maxRecDepth 100000 in
theorem joinL107 (l m : Lb) (hl : smL l) (hm : smL m) : SatP Tryz.prog 24 [agL l, agL m] (agL (joinL l m)) := by
 refine s24 (keep := false) rfl ?_
 repeat' ((conv => whnf); first | exact zf | refine zg ?_ | intro _ | refine And.intro rfl ?_ | refine (.inr ?_ : (∃ _, _) ∨ _) | refine za ?_ | refine zl ?_ | fail)
 refine madeJ l m _ _ (join130 true l m hl hm) (join130 false l m hl hm) ?_
 repeat' ((conv => whnf); first | exact zf | refine zg ?_ | intro _ | refine And.intro rfl ?_ | refine za ?_ | refine zl ?_ | fail)
def flowsL (l m : Lb) : Bool := impliesB m.s l.s && impliesB l.i m.i
set_option maxRecDepth 100000 in
theorem flowsL111 (l m : Lb) (hl : smL l) (hm : smL m) : SatP Tryz.prog 13 [agL l, agL m] (.d (.bool (flowsL l m))) := by
 have h1 := implies134 m.s l.s hm.1 hl.1
 have h2 := implies134 l.i m.i hl.2 hm.2
 refine s13 (keep := false) rfl ?_
 unfold flowsL
 cases hb : impliesB m.s l.s with
 | true =>
  rw [hb] at h1
  repeat' ((conv => whnf); first | exact zf | refine zg ?_ | intro _ | refine And.intro rfl ?_ | refine ⟨_, h1, ?_⟩ | refine (h1).use ?_ | refine ⟨_, h2, ?_⟩ | refine (h2).use ?_ | refine za ?_ | refine zl ?_ | fail)
 | false =>
  rw [hb] at h1
  repeat' ((conv => whnf); first | exact zf | refine zg ?_ | intro _ | refine And.intro rfl ?_ | refine ⟨_, h1, ?_⟩ | refine (h1).use ?_ | refine za ?_ | refine zl ?_ | fail)
end Go.Proofs.YtjpgfgajkjhonaaGreatDoor
namespace Go.Proofs.YtjpgfgajkjhonaaGreatDoor
open Go.Vx
set_option maxRecDepth 100000
structure Gs where
 cur : Lb
 clr : Lb
def agG (s : Gs) : V := .ag [.d (.str s.cur.s), .d (.str s.cur.i), .d (.str s.clr.s), .d (.str s.clr.i)]
def rowL (l : Lb) : List D := [.str l.s, .str l.i]
def rowG (s : Gs) : List D := [.str s.cur.s, .str s.cur.i, .str s.clr.s, .str s.clr.i]
def smG (s : Gs) : Prop := smL s.cur ∧ smL s.clr
theorem cleared284 (s : Gs) (l : Lb) : SatP Tryz.prog 284 [agG s, agL l] (.ag [.d (.fc 321 [.pt (rowL l) 0, .pt (rowG s) 0]), .d (.int .i64 (-4))]) := by
 refine pin_fc (rows := [rowL l, rowG s]) (by decide) ?_
 refine s284 (keep := false) rfl ?_
 repeat' ((conv => whnf); first | exact zf | refine zg ?_ | intro _ | refine And.intro rfl ?_ | refine za ?_ | refine zl ?_ | fail)
theorem above285 (s : Gs) (l : Lb) : SatP Tryz.prog 285 [agG s, agL l] (.ag [.d (.fc 322 [.pt (rowG s) 0, .pt (rowL l) 0]), .d (.int .i64 (-3))]) := by
 refine pin_fc (rows := [rowG s, rowL l]) (by decide) ?_
 refine s285 (keep := false) rfl ?_
 repeat' ((conv => whnf); first | exact zf | refine zg ?_ | intro _ | refine And.intro rfl ?_ | refine za ?_ | refine zl ?_ | fail)
theorem cleared321 (s : Gs) (l : Lb) (hs : smG s) (hl : smL l) : SatP Tryz.prog 321 [.e (rowL l) 0, .e (rowG s) 0] (.d (.bool (flowsL l s.clr))) := by
 have h := flowsL111 l s.clr hl hs.2
 refine s321 (keep := false) rfl ?_
 repeat' ((conv => whnf); first | exact zf | refine zg ?_ | intro _ | refine And.intro rfl ?_ | refine ⟨_, h, ?_⟩ | refine (h).use ?_ | refine za ?_ | refine zl ?_ | fail)
theorem above322 (s : Gs) (l : Lb) (hs : smG s) (hl : smL l) : SatP Tryz.prog 322 [.e (rowG s) 0, .e (rowL l) 0] (.d (.bool (flowsL s.cur l))) := by
 have h := flowsL111 s.cur l hs.1 hl
 refine s322 (keep := false) rfl ?_
 repeat' ((conv => whnf); first | exact zf | refine zg ?_ | intro _ | refine And.intro rfl ?_ | refine ⟨_, h, ?_⟩ | refine (h).use ?_ | refine za ?_ | refine zl ?_ | fail)
structure Mu where
 F : Nat
 cs : List D
 so : Bool
 ex : Int
def Mu.row (m : Mu) : List D := [.fc m.F m.cs, .int .i64 m.ex]
def firstM : List Mu → Int
 | [] => 0
 | m :: r => bif m.so then firstM r else m.ex
theorem firstM_skip : ∀ {i : Nat} {l : List Mu}, (∀ m ∈ l.take i, m.so = true) → firstM l = firstM (l.drop i)
 | 0, _, _ => rfl
 | i + 1, [], _ => rfl
 | i + 1, m :: l, h => by
  rw [firstM, h m (by simp), List.drop_succ_cons, cond_true]
  exact firstM_skip fun x hx => h x (by simp [hx])
theorem first283 (l : List Mu) (hF : ∀ m ∈ l, ((∃ a b, (m.F = 321 ∨ m.F = 322) ∧ m.cs = [.pt a 0, .pt b 0]) ∨ ∃ a b c, (m.F = 293 ∨ m.F = 295) ∧ m.cs = [.pt a 0, .pt b 0, .pt c 0]) ∧ SatP Tryz.prog m.F (m.cs.map ptE) (.d (.bool m.so))) :
  SatP Tryz.prog 283 [.d (.sl 2 (l.map Mu.row))] (.d (.int .i64 (firstM l))) := by
 have hl : (l.map Mu.row).length = l.length := List.length_map _
 refine s283 (keep := false) rfl ?_
 repeat' ((conv => whnf); first | exact zf | refine zg ?_ | intro _ | refine And.intro rfl ?_ | refine za ?_ | refine zl ?_ | fail)
 conv => whnf
 refine loop_use2 [(0, .d (.sl 2 (l.map Mu.row))), (5, .d (.sl 2 (l.map Mu.row))), (6, .d (.int .i64 (l.map Mu.row).length))] (fun i : Nat => i ≤ l.length ∧ ∀ m ∈ l.take i, m.so = true) (fun i => [(7, .d (.int .i64 i))]) (fun _ => []) (fun i => l.length - i) 0 ⟨Nat.zero_le _, fun _ h => nomatch h⟩ ?_ ?_ ?_ (fun i hi => ?_)
 ·exact (by repeat' (first | exact trivial | exact rfl | exact Or.inl rfl | refine And.intro ?_ ?_ | refine Or.inr ?_))
 ·exact (by repeat' (first | exact trivial | exact rfl | exact Or.inl rfl | refine And.intro ?_ ?_ | refine Or.inr ?_))
 ·exact rfl
 repeat' ((conv => whnf); first | exact zf | refine zg ?_ | intro _ | refine And.intro rfl ?_ | refine za ?_ | refine zl ?_ | fail)
 refine sp_intro (fun hlt => ?_) (fun hge => ?_)
 ·have hlt : i < l.length := by rw [← hl]; simpa using hlt
  obtain ⟨m, hm⟩ : ∃ m, l[i]? = some m := ⟨_, List.getElem?_eq_getElem hlt⟩
  obtain ⟨hf, hs⟩ := hF m (List.mem_of_getElem? hm)
  have hfm := firstM_skip hi.2
  have hdr : l.drop i = m :: l.drop (i + 1) := by
   rw [List.drop_eq_getElem_cons hlt]
   rw [List.getElem?_eq_getElem hlt] at hm
   rw [Option.some.inj hm]
  rw [hdr] at hfm
  have htk : l.take (i + 1) = l.take i ++ [m] := by rw [List.take_add_one, hm]; rfl
  obtain ⟨F, cs, so, ex⟩ := m
  repeat' ((conv => whnf); first | exact zf | refine zg ?_ | intro _ | refine And.intro rfl ?_ | refine za ?_ | refine zl ?_ | fail)
  refine ⟨[.fc F cs, .int .i64 ex], ⟨by omega, by simp [hm, Mu.row], rfl⟩, ?_⟩
  rcases hf with ⟨a, b, hf | hf, hc⟩ | ⟨a, b, c, hf | hf, hc⟩
  ·simp only at hf hc
   subst hf hc
   dsimp only at hs
   cases so with
   | true =>
    repeat' ((conv => whnf); first | exact zf | refine zg ?_ | intro _ | refine And.intro rfl ?_ | refine ⟨_, hs, ?_⟩ | refine (hs).use ?_ | refine za ?_ | refine zl ?_ | fail)
    refine ⟨i + 1, ⟨hlt, ?_⟩, Nat.sub_lt_sub_left hlt (Nat.lt_succ_self i), (by repeat' (first | exact trivial | exact rfl | exact Or.inl rfl | refine And.intro ?_ ?_ | refine Or.inr ?_)), (by repeat' (first | exact trivial | exact rfl | exact Or.inl rfl | refine And.intro ?_ ?_ | refine Or.inr ?_)), rfl⟩
    rw [htk]
    intro x hx
    exact (List.mem_append.1 hx).elim (hi.2 x) fun h => by rw [List.mem_singleton.1 h]
   | false =>
    repeat' ((conv => whnf); first | exact zf | refine zg ?_ | intro _ | refine And.intro rfl ?_ | refine ⟨_, hs, ?_⟩ | refine (hs).use ?_ | refine za ?_ | refine zl ?_ | fail)
    exact outs_eq (congrArg (fun x => V.d (D.int .i64 x)) hfm.symm)
  ·simp only at hf hc
   subst hf hc
   dsimp only at hs
   cases so with
   | true =>
    repeat' ((conv => whnf); first | exact zf | refine zg ?_ | intro _ | refine And.intro rfl ?_ | refine ⟨_, hs, ?_⟩ | refine (hs).use ?_ | refine za ?_ | refine zl ?_ | fail)
    refine ⟨i + 1, ⟨hlt, ?_⟩, Nat.sub_lt_sub_left hlt (Nat.lt_succ_self i), (by repeat' (first | exact trivial | exact rfl | exact Or.inl rfl | refine And.intro ?_ ?_ | refine Or.inr ?_)), (by repeat' (first | exact trivial | exact rfl | exact Or.inl rfl | refine And.intro ?_ ?_ | refine Or.inr ?_)), rfl⟩
    rw [htk]
    intro x hx
    exact (List.mem_append.1 hx).elim (hi.2 x) fun h => by rw [List.mem_singleton.1 h]
   | false =>
    repeat' ((conv => whnf); first | exact zf | refine zg ?_ | intro _ | refine And.intro rfl ?_ | refine ⟨_, hs, ?_⟩ | refine (hs).use ?_ | refine za ?_ | refine zl ?_ | fail)
    exact outs_eq (congrArg (fun x => V.d (D.int .i64 x)) hfm.symm)
  ·simp only at hf hc
   subst hf hc
   dsimp only at hs
   cases so with
   | true =>
    repeat' ((conv => whnf); first | exact zf | refine zg ?_ | intro _ | refine And.intro rfl ?_ | refine ⟨_, hs, ?_⟩ | refine (hs).use ?_ | refine za ?_ | refine zl ?_ | fail)
    refine ⟨i + 1, ⟨hlt, ?_⟩, Nat.sub_lt_sub_left hlt (Nat.lt_succ_self i), (by repeat' (first | exact trivial | exact rfl | exact Or.inl rfl | refine And.intro ?_ ?_ | refine Or.inr ?_)), (by repeat' (first | exact trivial | exact rfl | exact Or.inl rfl | refine And.intro ?_ ?_ | refine Or.inr ?_)), rfl⟩
    rw [htk]
    intro x hx
    exact (List.mem_append.1 hx).elim (hi.2 x) fun h => by rw [List.mem_singleton.1 h]
   | false =>
    repeat' ((conv => whnf); first | exact zf | refine zg ?_ | intro _ | refine And.intro rfl ?_ | refine ⟨_, hs, ?_⟩ | refine (hs).use ?_ | refine za ?_ | refine zl ?_ | fail)
    exact outs_eq (congrArg (fun x => V.d (D.int .i64 x)) hfm.symm)
  ·simp only at hf hc
   subst hf hc
   dsimp only at hs
   cases so with
   | true =>
    repeat' ((conv => whnf); first | exact zf | refine zg ?_ | intro _ | refine And.intro rfl ?_ | refine ⟨_, hs, ?_⟩ | refine (hs).use ?_ | refine za ?_ | refine zl ?_ | fail)
    refine ⟨i + 1, ⟨hlt, ?_⟩, Nat.sub_lt_sub_left hlt (Nat.lt_succ_self i), (by repeat' (first | exact trivial | exact rfl | exact Or.inl rfl | refine And.intro ?_ ?_ | refine Or.inr ?_)), (by repeat' (first | exact trivial | exact rfl | exact Or.inl rfl | refine And.intro ?_ ?_ | refine Or.inr ?_)), rfl⟩
    rw [htk]
    intro x hx
    exact (List.mem_append.1 hx).elim (hi.2 x) fun h => by rw [List.mem_singleton.1 h]
   | false =>
    repeat' ((conv => whnf); first | exact zf | refine zg ?_ | intro _ | refine And.intro rfl ?_ | refine ⟨_, hs, ?_⟩ | refine (hs).use ?_ | refine za ?_ | refine zl ?_ | fail)
    exact outs_eq (congrArg (fun x => V.d (D.int .i64 x)) hfm.symm)
 ·have hge : i = l.length := by
   have : ¬ i < l.length := by rw [← hl]; simpa using hge
   omega
  have hfm := firstM_skip hi.2
  rw [hge, List.drop_length] at hfm
  rw [hfm]
  repeat' ((conv => whnf); first | exact zf | refine zg ?_ | intro _ | refine And.intro rfl ?_ | refine za ?_ | refine zl ?_ | fail)
def muC (s : Gs) (l : Lb) : Mu := ⟨321, [.pt (rowL l) 0, .pt (rowG s) 0], flowsL l s.clr, -4⟩
def muA (s : Gs) (l : Lb) : Mu := ⟨322, [.pt (rowG s) 0, .pt (rowL l) 0], flowsL s.cur l, -3⟩
theorem muC_ok (s : Gs) (l : Lb) (hs : smG s) (hl : smL l) : ((∃ a b, ((muC s l).F = 321 ∨ (muC s l).F = 322) ∧ (muC s l).cs = [.pt a 0, .pt b 0]) ∨ ∃ a b c, ((muC s l).F = 293 ∨ (muC s l).F = 295) ∧ (muC s l).cs = [.pt a 0, .pt b 0, .pt c 0]) ∧ SatP Tryz.prog (muC s l).F ((muC s l).cs.map ptE) (.d (.bool (muC s l).so)) :=
 ⟨.inl ⟨_, _, .inl rfl, rfl⟩, cleared321 s l hs hl⟩
theorem muA_ok (s : Gs) (l : Lb) (hs : smG s) (hl : smL l) : ((∃ a b, ((muA s l).F = 321 ∨ (muA s l).F = 322) ∧ (muA s l).cs = [.pt a 0, .pt b 0]) ∨ ∃ a b c, ((muA s l).F = 293 ∨ (muA s l).F = 295) ∧ (muA s l).cs = [.pt a 0, .pt b 0, .pt c 0]) ∧ SatP Tryz.prog (muA s l).F ((muA s l).cs.map ptE) (.d (.bool (muA s l).so)) :=
 ⟨.inl ⟨_, _, .inr rfl, rfl⟩, above322 s l hs hl⟩
def writeG (s : Gs) (l : Lb) : Int := firstM [muA s l, muC s l]
theorem write242 (s : Gs) (l : Lb) (hs : smG s) (hl : smL l) : SatP Tryz.prog 242 [agG s, agL l] (.d (.int .i64 (writeG s l))) := by
 have h1 := above285 s l
 have h2 := cleared284 s l
 have h3 := first283 [muA s l, muC s l] (by
  intro m hm
  simp only [List.mem_cons, List.not_mem_nil, or_false] at hm
  rcases hm with rfl | rfl
  ·exact muA_ok s l hs hl
  ·exact muC_ok s l hs hl)
 refine s242 (keep := false) rfl ?_
 repeat' ((conv => whnf); first | exact zf | refine zg ?_ | intro _ | refine And.intro rfl ?_ | refine ⟨_, h1, ?_⟩ | refine (h1).use ?_ | refine ⟨_, h2, ?_⟩ | refine (h2).use ?_ | refine ⟨_, h3, ?_⟩ | refine (h3).use ?_ | refine za ?_ | refine zl ?_ | fail)
def taintE (s : Gs) (l : Lb) : Int := firstM [muC s (joinL s.cur l)]
def taintG (s : Gs) (l : Lb) : Gs := bif taintE s l == 0 then ⟨joinL s.cur l, s.clr⟩ else s
def grR (s : Gs) (e : Int) : V := .tu [agG s, .d (.int .i64 e)]
theorem taint282 (s : Gs) (l : Lb) (hs : smG s) (hl : smL l) (hj : smL (joinL s.cur l)) : SatP Tryz.prog 282 [agG s, agL l] (grR (taintG s l) (taintE s l)) := by
 have h1 := joinL107 s.cur l hs.1 hl
 have h2 := cleared284 s (joinL s.cur l)
 have h3 := first283 [muC s (joinL s.cur l)] (by
  intro m hm
  rw [List.mem_singleton.1 hm]
  exact muC_ok s _ hs hj)
 have he : firstM [muC s (joinL s.cur l)] = taintE s l := rfl
 rw [he] at h3
 unfold taintG
 cases hb : taintE s l == 0 with
 | true =>
  rw [eq_of_beq hb] at h3 ⊢
  refine s282 (keep := false) rfl ?_
  repeat' ((conv => whnf); first | exact zf | refine zg ?_ | intro _ | refine And.intro rfl ?_ | refine ⟨_, h1, ?_⟩ | refine (h1).use ?_ | refine ⟨_, h2, ?_⟩ | refine (h2).use ?_ | refine ⟨_, h3, ?_⟩ | refine (h3).use ?_ | refine za ?_ | refine zl ?_ | fail)
 | false =>
  refine s282 (keep := false) rfl ?_
  repeat' ((conv => whnf); first | exact zf | refine zg ?_ | intro _ | refine And.intro rfl ?_ | refine ⟨_, h1, ?_⟩ | refine (h1).use ?_ | refine ⟨_, h2, ?_⟩ | refine (h2).use ?_ | refine ⟨_, h3, ?_⟩ | refine (h3).use ?_ | refine za ?_ | refine zl ?_ | refine zt ?_ | refine zu ?_ | fail)
end Go.Proofs.YtjpgfgajkjhonaaGreatDoor
namespace Go.Proofs.YtjpgfgajkjhonaaGreatDoor
open Go.RowKit Go.Shelf Go.Proofs
def writeStringR : Go.Shelf.Ren := ⟨fun | 240 => 341 | 276 => 342 | 166 => 339 | 169 => 340 | 167 => 338 | n => n, fun | 37 => 188 | 70 => 401 | 72 => 403 | 164 => 409 | 127 => 391 | 75 => 262 | 80 => 324 | n => n, fun | n => n⟩
theorem writeString : Lays.n166 Tryz.prog writeStringR where
 mixed := by kernel_rfl
 f166 := Tryz.func339.trans (congrArg some (by kernel_rfl))
 f240 := Tryz.func341.trans (congrArg some (by kernel_rfl))
 f276 := Tryz.func342.trans (congrArg some (by kernel_rfl))
 t0 := Tryz.underlying0
 a0 := Tryz.isAgg0
 z0 := Tryz.sizeOf0
 v0 := Tryz.zeroValue0
 t3 := Tryz.underlying3
 a3 := Tryz.isAgg3
 z3 := Tryz.sizeOf3
 v3 := Tryz.zeroValue3
 t4 := Tryz.underlying4
 a4 := Tryz.isAgg4
 z4 := Tryz.sizeOf4
 v4 := Tryz.zeroValue4
 t9 := Tryz.underlying9
 a9 := Tryz.isAgg9
 z9 := Tryz.sizeOf9
 v9 := Tryz.zeroValue9
 t20 := Tryz.underlying20
 a20 := Tryz.isAgg20
 z20 := Tryz.sizeOf20
 v20 := Tryz.zeroValue20
 t37 := Tryz.underlying188
 a37 := Tryz.isAgg188
 z37 := Tryz.sizeOf188
 v37 := Tryz.zeroValue188
 t70 := Tryz.underlying401
 a70 := Tryz.isAgg401
 z70 := Tryz.sizeOf401
 v70 := Tryz.zeroValue401
 t72 := Tryz.underlying403
 a72 := Tryz.isAgg403
 z72 := Tryz.sizeOf403
 v72 := Tryz.zeroValue403
 t75 := Tryz.underlying262
 a75 := Tryz.isAgg262
 z75 := Tryz.sizeOf262
 v75 := Tryz.zeroValue262
 t164 := Tryz.underlying409
 a164 := Tryz.isAgg409
 z164 := Tryz.sizeOf409
 v164 := Tryz.zeroValue409
def writeByteR : Go.Shelf.Ren := ⟨fun | 240 => 341 | 276 => 342 | 166 => 339 | 169 => 340 | 167 => 338 | n => n, fun | 37 => 188 | 70 => 401 | 72 => 403 | 164 => 409 | 127 => 391 | 75 => 262 | 80 => 324 | n => n, fun | n => n⟩
theorem writeByte : Lays.n167 Tryz.prog writeByteR where
 mixed := by kernel_rfl
 f167 := Tryz.func338.trans (congrArg some (by kernel_rfl))
 f240 := Tryz.func341.trans (congrArg some (by kernel_rfl))
 f276 := Tryz.func342.trans (congrArg some (by kernel_rfl))
 t0 := Tryz.underlying0
 a0 := Tryz.isAgg0
 z0 := Tryz.sizeOf0
 v0 := Tryz.zeroValue0
 t4 := Tryz.underlying4
 a4 := Tryz.isAgg4
 z4 := Tryz.sizeOf4
 v4 := Tryz.zeroValue4
 t5 := Tryz.underlying5
 a5 := Tryz.isAgg5
 z5 := Tryz.sizeOf5
 v5 := Tryz.zeroValue5
 t9 := Tryz.underlying9
 a9 := Tryz.isAgg9
 z9 := Tryz.sizeOf9
 v9 := Tryz.zeroValue9
 t20 := Tryz.underlying20
 a20 := Tryz.isAgg20
 z20 := Tryz.sizeOf20
 v20 := Tryz.zeroValue20
 t37 := Tryz.underlying188
 a37 := Tryz.isAgg188
 z37 := Tryz.sizeOf188
 v37 := Tryz.zeroValue188
 t70 := Tryz.underlying401
 a70 := Tryz.isAgg401
 z70 := Tryz.sizeOf401
 v70 := Tryz.zeroValue401
 t72 := Tryz.underlying403
 a72 := Tryz.isAgg403
 z72 := Tryz.sizeOf403
 v72 := Tryz.zeroValue403
 t75 := Tryz.underlying262
 a75 := Tryz.isAgg262
 z75 := Tryz.sizeOf262
 v75 := Tryz.zeroValue262
 t164 := Tryz.underlying409
 a164 := Tryz.isAgg409
 z164 := Tryz.sizeOf409
 v164 := Tryz.zeroValue409
def bstringR : Go.Shelf.Ren := ⟨fun | 240 => 341 | 276 => 342 | 166 => 339 | 169 => 340 | 167 => 338 | n => n, fun | 37 => 188 | 70 => 401 | 72 => 403 | 164 => 409 | 127 => 391 | 75 => 262 | 80 => 324 | n => n, fun | n => n⟩
theorem bstring : Lays.n169 Tryz.prog bstringR where
 mixed := by kernel_rfl
 f169 := Tryz.func340.trans (congrArg some (by kernel_rfl))
 t0 := Tryz.underlying0
 a0 := Tryz.isAgg0
 z0 := Tryz.sizeOf0
 v0 := Tryz.zeroValue0
 t3 := Tryz.underlying3
 a3 := Tryz.isAgg3
 z3 := Tryz.sizeOf3
 v3 := Tryz.zeroValue3
 t9 := Tryz.underlying9
 a9 := Tryz.isAgg9
 z9 := Tryz.sizeOf9
 v9 := Tryz.zeroValue9
 t37 := Tryz.underlying188
 a37 := Tryz.isAgg188
 z37 := Tryz.sizeOf188
 v37 := Tryz.zeroValue188
 t70 := Tryz.underlying401
 a70 := Tryz.isAgg401
 z70 := Tryz.sizeOf401
 v70 := Tryz.zeroValue401
 t72 := Tryz.underlying403
 a72 := Tryz.isAgg403
 z72 := Tryz.sizeOf403
 v72 := Tryz.zeroValue403
 t127 := Tryz.underlying391
 a127 := Tryz.isAgg391
 z127 := Tryz.sizeOf391
 v127 := Tryz.zeroValue391
end Go.Proofs.YtjpgfgajkjhonaaGreatDoor
namespace Go.Proofs.YtjpgfgajkjhonaaGreatDoor
open Go.RowKit Go.Shelf Go.Proofs
def indexR : Go.Shelf.Ren := ⟨fun | 143 => 213 | 219 => 275 | 217 => 308 | 225 => 309 | 224 => 310 | 267 => 311 | 266 => 333 | 314 => 334 | n => n, fun | 9 => 9 | 3 => 3 | 4 => 4 | 5 => 5 | 46 => 198 | 146 => 398 | 51 => 293 | n => n, fun | 1 => 1 | n => n⟩
theorem index : Lays.n143 Tryz.prog indexR where
 mixed := by kernel_rfl
 f143 := Tryz.func213.trans (congrArg some (by kernel_rfl))
 f217 := Tryz.func308.trans (congrArg some (by kernel_rfl))
 f219 := Tryz.func275.trans (congrArg some (by kernel_rfl))
 f224 := Tryz.func310.trans (congrArg some (by kernel_rfl))
 f225 := Tryz.func309.trans (congrArg some (by kernel_rfl))
 f266 := Tryz.func333.trans (congrArg some (by kernel_rfl))
 f267 := Tryz.func311.trans (congrArg some (by kernel_rfl))
 f314 := Tryz.func334.trans (congrArg some (by kernel_rfl))
 t3 := Tryz.underlying3
 a3 := Tryz.isAgg3
 z3 := Tryz.sizeOf3
 v3 := Tryz.zeroValue3
 t4 := Tryz.underlying4
 a4 := Tryz.isAgg4
 z4 := Tryz.sizeOf4
 v4 := Tryz.zeroValue4
 t5 := Tryz.underlying5
 a5 := Tryz.isAgg5
 z5 := Tryz.sizeOf5
 v5 := Tryz.zeroValue5
 t9 := Tryz.underlying9
 a9 := Tryz.isAgg9
 z9 := Tryz.sizeOf9
 v9 := Tryz.zeroValue9
 t46 := Tryz.underlying198
 a46 := Tryz.isAgg198
 z46 := Tryz.sizeOf198
 v46 := Tryz.zeroValue198
 t51 := Tryz.underlying293
 a51 := Tryz.isAgg293
 z51 := Tryz.sizeOf293
 v51 := Tryz.zeroValue293
 t146 := Tryz.underlying398
 a146 := Tryz.isAgg398
 z146 := Tryz.sizeOf398
 v146 := Tryz.zeroValue398
 g1 := by kernel_rfl
def insertR : Go.Shelf.Ren := ⟨fun | 22 => 48 | 29 => 88 | 30 => 89 | 36 => 132 | 17 => 196 | n => n, fun | 24 => 93 | 9 => 9 | 3 => 3 | 4 => 4 | 0 => 0 | n => n, fun | n => n⟩
theorem insert : Lays2.n22 Tryz.prog insertR where
 mixed := by kernel_rfl
 f17 := Tryz.func196.trans (congrArg some (by kernel_rfl))
 f22 := Tryz.func48.trans (congrArg some (by kernel_rfl))
 f29 := Tryz.func88.trans (congrArg some (by kernel_rfl))
 f30 := Tryz.func89.trans (congrArg some (by kernel_rfl))
 f36 := Tryz.func132.trans (congrArg some (by kernel_rfl))
 t0 := Tryz.underlying0
 a0 := Tryz.isAgg0
 z0 := Tryz.sizeOf0
 v0 := Tryz.zeroValue0
 t3 := Tryz.underlying3
 a3 := Tryz.isAgg3
 z3 := Tryz.sizeOf3
 v3 := Tryz.zeroValue3
 t4 := Tryz.underlying4
 a4 := Tryz.isAgg4
 z4 := Tryz.sizeOf4
 v4 := Tryz.zeroValue4
 t9 := Tryz.underlying9
 a9 := Tryz.isAgg9
 z9 := Tryz.sizeOf9
 v9 := Tryz.zeroValue9
 t24 := Tryz.underlying93
 a24 := Tryz.isAgg93
 z24 := Tryz.sizeOf93
 v24 := Tryz.zeroValue93
 i9 := by kernel_rfl
end Go.Proofs.YtjpgfgajkjhonaaGreatDoor
