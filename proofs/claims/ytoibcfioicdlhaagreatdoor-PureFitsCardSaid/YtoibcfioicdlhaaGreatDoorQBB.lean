/- Formulas and labels: what their functions tell. Conditions: none. -/
import Derived.Test.YtoibcfioicdlhaaGreatDoorQAZ
import Derived.Test.YtoibcfioicdlhaaGreatDoorQBA
import Derived.Test.YtoibcfioicdlhaaGreatDoorQAW
namespace Go.Proofs.YtoibcfioicdlhaaGreatDoor
open Go.Vx
set_option maxRecDepth 100000
theorem each158 {K : Out → H → Prop} (s : List UInt8) (hk : K (.ret (.fc 172 [.p 0 0])) [.cells [.d (.str s)]]) : Sat Tryz.prog 158 [.d (.str s)] [] K := by
  refine s158 (keep := false) rfl ?_
  repeat' ((conv => whnf); first | exact zf | refine zg ?_ | intro _ | refine And.intro rfl ?_ | refine za ?_ | refine zl ?_ | fail)
  exact hk
def inB (a b : Int) : Bool := bitv .andNot .u8 a b == 0
theorem in185 (a b : Int) : SatP Tryz.prog 185 [.d (.int .u8 a), .d (.int .u8 b)] (.d (.bool (inB a b))) := by
  refine s185 (keep := false) rfl ?_
  repeat' ((conv => whnf); first | exact zf | refine zg ?_ | intro _ | refine And.intro rfl ?_ | refine za ?_ | refine zl ?_ | fail)
def oneOf (s : Int) (l : List Int) : Bool := l.any fun x => inB x s
def rowsU (l : List Int) : List (List D) := l.map fun x => [D.int .u8 x]
theorem rowsU_len (l : List Int) : (rowsU l).length = l.length := by simp [rowsU]
theorem one178 (s : Int) (l : List Int) : SatP Tryz.prog 178 [.d (.int .u8 s), .d (.sl 1 (rowsU l))] (.d (.bool (oneOf s l))) := by
  have hl := rowsU_len l
  refine s178 (keep := false) rfl ?_
  repeat' ((conv => whnf); first | exact zf | refine zg ?_ | intro _ | refine And.intro rfl ?_ | refine za ?_ | refine zl ?_ | fail)
  conv => whnf
  refine loop_use2 [(0, .d (.int .u8 s)), (7, .d (.sl 1 (rowsU l))), (8, .d (.int .i64 (rowsU l).length))] (fun i : Nat => i ≤ l.length ∧ oneOf s (l.take i) = false) (fun i => [(9, .d (.int .i64 i))]) (fun _ => []) (fun i => l.length - i) 0 ⟨Nat.zero_le _, rfl⟩ ?_ ?_ ?_ (fun i hi => ?_)
  · exact (by repeat' (first | exact trivial | exact rfl | exact Or.inl rfl | refine And.intro ?_ ?_ | refine Or.inr ?_))
  · exact (by repeat' (first | exact trivial | exact rfl | exact Or.inl rfl | refine And.intro ?_ ?_ | refine Or.inr ?_))
  · exact rfl
  repeat' ((conv => whnf); first | exact zf | refine zg ?_ | intro _ | refine And.intro rfl ?_ | refine za ?_ | refine zl ?_ | fail)
  refine sp_intro (fun hlt => ?_) (fun hge => ?_)
  · have hlt : i < l.length := by simpa [rowsU] using hlt
    have hr := in185 l[i] s
    have ht : l.take (i + 1) = l.take i ++ [l[i]] := List.take_succ_eq_append_getElem hlt
    repeat' ((conv => whnf); first | exact zf | refine zg ?_ | intro _ | refine And.intro rfl ?_ | refine za ?_ | refine zl ?_ | fail)
    refine ⟨[D.int .u8 l[i]], ⟨by omega, by simp [rowsU, hlt], rfl⟩, ?_⟩
    cases hb : inB l[i] s with
    | true =>
      rw [hb] at hr
      repeat' ((conv => whnf); first | exact zf | refine zg ?_ | intro _ | refine And.intro rfl ?_ | refine ⟨_, hr, ?_⟩ | refine (hr).use ?_ | refine za ?_ | refine zl ?_ | fail)
      refine outs_eq ?_
      have : oneOf s l = true := List.any_eq_true.2 ⟨l[i], List.getElem_mem hlt, hb⟩
      rw [this]
      rfl
    | false =>
      rw [hb] at hr
      repeat' ((conv => whnf); first | exact zf | refine zg ?_ | intro _ | refine And.intro rfl ?_ | refine ⟨_, hr, ?_⟩ | refine (hr).use ?_ | refine (.inl ⟨by unfold inR; omega, ?_⟩) | refine za ?_ | refine zl ?_ | fail)
      refine ⟨i + 1, ⟨hlt, ?_⟩, Nat.sub_lt_sub_left hlt (Nat.lt_succ_self i), (by repeat' (first | exact trivial | exact rfl | exact Or.inl rfl | refine And.intro ?_ ?_ | refine Or.inr ?_)), (by repeat' (first | exact trivial | exact rfl | exact Or.inl rfl | refine And.intro ?_ ?_ | refine Or.inr ?_)), rfl⟩
      rw [ht]
      unfold oneOf at hi ⊢
      rw [List.any_append, hi.2]
      simp [hb]
  · have hge : l.length ≤ i := by simpa [rowsU] using hge
    repeat' ((conv => whnf); first | exact zf | refine zg ?_ | intro _ | refine And.intro rfl ?_ | refine za ?_ | refine zl ?_ | fail)
    refine outs_eq ?_
    have h2 := hi.2
    rw [List.take_of_length_le hge] at h2
    rw [h2]
    rfl
def hasN (l : List UInt8) (n : Nat) : Bool := l.any fun b => b.toNat == n
def leastStep (l : List UInt8) (told : List Int) (n : Nat) : List Int := bif hasN l n && !(oneOf n told) then told ++ [(n : Int)] else told
def leastN (l : List UInt8) (k : Nat) : List Int := (List.range k).foldl (leastStep l) []
def least (l : List UInt8) : List UInt8 := (leastN l 256).map fun x => UInt8.ofNat x.toNat
theorem leastN_succ (l : List UInt8) (k : Nat) : leastN l (k + 1) = leastStep l (leastN l k) k := by simp [leastN, List.range_succ]
theorem leastN_lt (l : List UInt8) (k : Nat) (hk : k ≤ 256) : ∀ x ∈ leastN l k, 0 ≤ x ∧ x < 256 := by
  induction k with
  | zero => intro x hx; simp [leastN] at hx
  | succ k ih =>
    intro x hx
    rw [leastN_succ] at hx
    unfold leastStep at hx
    cases hc : hasN l k && !(oneOf k (leastN l k)) <;> rw [hc] at hx
    · exact ih (by omega) x hx
    · simp only [cond_true, List.mem_append, List.mem_singleton] at hx
      rcases hx with hx | hx
      · exact ih (by omega) x hx
      · omega
theorem leastN_len (l : List UInt8) (k : Nat) : (leastN l k).length ≤ k := by
  induction k with
  | zero => simp [leastN]
  | succ k ih =>
    rw [leastN_succ]
    unfold leastStep
    cases hasN l k && !(oneOf k (leastN l k)) <;> simp <;> omega
theorem least_rows (l : List UInt8) : rowsU (leastN l 256) = (least l).map fun b => [D.int .u8 b.toNat] := by
  unfold rowsU least
  rw [List.map_map]
  refine List.map_congr_left fun x hx => ?_
  have := leastN_lt l 256 (Nat.le_refl _) x hx
  simp only [Function.comp_apply, UInt8.toNat_ofNat']
  rw [Nat.mod_eq_of_lt (by omega), Int.toNat_of_nonneg this.1]
def hereR (l : List UInt8) (k : Nat) : List (List D) := (List.range 256).map fun j => [D.bool (hasN (l.take k) j)]
def hereD (l : List UInt8) : List D := (List.range 256).map fun j => D.bool (hasN l j)
theorem map_const_range {α : Type} (x : α) : ∀ n, List.replicate n x = (List.range n).map fun _ => x := by
  intro n
  rw [List.map_const', List.length_range]
theorem hereR_0 (l : List UInt8) : List.replicate 256 [D.bool false] = hereR l 0 := map_const_range _ 256
theorem hereR_get (l : List UInt8) (k : Nat) (b : UInt8) : (hereR l k)[b.toNat]? = some [D.bool (hasN (l.take k) b.toNat)] := by
  unfold hereR
  rw [List.getElem?_map, List.getElem?_range (by have := b.toNat_lt; omega)]
  rfl
theorem hereR_succ (l : List UInt8) (k : Nat) (hk : k < l.length) : (hereR l k).set l[k].toNat [D.bool true] = hereR l (k + 1) := by
  have ht : l.take (k + 1) = l.take k ++ [l[k]] := List.take_succ_eq_append_getElem hk
  have hh : ∀ j, hasN (l.take (k + 1)) j = (hasN (l.take k) j || l[k].toNat == j) := fun j => by
    unfold hasN
    rw [ht, List.any_append]
    simp
  unfold hereR
  refine List.ext_getElem? fun j => ?_
  by_cases hj : j < 256
  · by_cases e : l[k].toNat = j
    · subst e
      rw [List.getElem?_set_self (by simpa using hj), List.getElem?_map, List.getElem?_range hj, Option.map_some, hh]
      simp
    · rw [List.getElem?_set_ne e, List.getElem?_map, List.getElem?_map, List.getElem?_range hj, Option.map_some, Option.map_some, hh]
      have : (l[k].toNat == j) = false := by simpa using e
      rw [this, Bool.or_false]
  · rw [List.getElem?_eq_none (by simp; omega), List.getElem?_eq_none (by simp; omega)]
theorem hereR_D (l : List UInt8) : hereR l l.length = (hereD l).map fun d => [d] := by
  unfold hereR hereD
  rw [List.take_length, List.map_map]
  rfl
theorem lts_least (i : Int) (l : List D) (r : List (List D)) : lts 0 [(19, .d (.int .i64 i)), (18, .ag (l.map .d)), (5, .os 1)] [.no, .rows 1 r] = true := by
  have e : id1 (.ag (l.map V.d)) = [] := by simp [id1, List.flatMap_eq_nil_iff, id0, idc]
  simp only [lts, List.all_cons, List.all_nil, id2, e, Bool.and_true, Bool.true_and]
  rfl
set_option maxRecDepth 100000 in
set_option maxHeartbeats 4000000 in
theorem least171 (l : List UInt8) : SatP Tryz.prog 171 [.d (.str l)] (.d (.str (least l))) := by
  refine s171 (keep := false) rfl ?_
  repeat' ((conv => whnf); first | exact zf | refine zg ?_ | intro _ | refine And.intro rfl ?_ | refine za ?_ | refine zl ?_ | fail)
  conv => whnf
  refine loop_use2 [(0, .d (.str l)), (3, .q 0 1 0 0), (9, .d (.int .i64 l.length))] (fun k : Nat => k ≤ l.length) (fun k => [(10, .d (.int .i64 k))]) (fun k => [.rows 1 (hereR l k)]) (fun k => l.length - k) 0 (Nat.zero_le _) ?_ ?_ ?_ (fun k hk => ?_)
  · exact (by repeat' (first | exact trivial | exact rfl | exact Or.inl rfl | refine And.intro ?_ ?_ | refine Or.inr ?_))
  · exact ⟨wkB_of (by rw [hereR_0 l]), trivial⟩
  · exact (by kernel_rfl)
  repeat' ((conv => whnf); first | exact zf | refine zg ?_ | intro _ | refine And.intro rfl ?_ | refine za ?_ | refine zl ?_ | fail)
  refine sp_intro (fun hlt => ?_) (fun hge => ?_)
  · have hlt : k < l.length := by simpa using hlt
    repeat' ((conv => whnf); first | exact zf | refine zg ?_ | intro _ | refine And.intro rfl ?_ | refine za ?_ | refine zl ?_ | fail)
    refine ⟨l[k], ⟨by omega, by simp [hlt]⟩, ?_⟩
    have hb := l[k].toNat_lt
    repeat' ((conv => whnf); first | exact zf | refine zg ?_ | intro _ | refine And.intro rfl ?_ | refine za ?_ | refine zl ?_ | fail)
    conv => whnf
    refine ⟨[D.bool (hasN (l.take k) l[k].toNat)], hereR_get l k l[k], ⟨rfl, rfl, rfl⟩, ?_⟩
    repeat' ((conv => whnf); first | exact zf | refine zg ?_ | intro _ | refine And.intro rfl ?_ | refine (.inl ⟨by unfold inR; omega, ?_⟩) | refine za ?_ | refine zl ?_ | fail)
    refine ⟨k + 1, hlt, Nat.sub_lt_sub_left hlt (Nat.lt_succ_self k), (by repeat' (first | exact trivial | exact rfl | exact Or.inl rfl | refine And.intro ?_ ?_ | refine Or.inr ?_)), ⟨wkB_of (congrArg (B.rows 1) (hereR_succ l k hlt)), trivial⟩, rfl⟩
  · have hge : l.length ≤ k := by simpa using hge
    obtain rfl : k = l.length := by omega
    repeat' ((conv => whnf); first | exact zf | refine zg ?_ | intro _ | refine And.intro rfl ?_ | refine za ?_ | refine zl ?_ | fail)
    refine ⟨hereD l, ⟨hereR_D l, by simp [hereD]⟩, ?_⟩
    repeat' ((conv => whnf); first | exact zf | refine zg ?_ | intro _ | refine And.intro rfl ?_ | refine za ?_ | refine zl ?_ | fail)
    conv => whnf
    refine loop_use2 [(18, .ag ((hereD l).map .d)), (5, .os 1)] (fun k : Nat => k ≤ 256) (fun k => [(19, .d (.int .i64 k))]) (fun k => [.no, .rows 1 (rowsU (leastN l k))]) (fun k => 256 - k) 0 (Nat.zero_le _) ?_ ?_ (lts_least _ _ _) (fun k hk => ?_)
    · exact (by repeat' (first | exact trivial | exact rfl | exact Or.inl rfl | refine And.intro ?_ ?_ | refine Or.inr ?_))
    · exact (by repeat' (first | exact trivial | exact rfl | exact Or.inl rfl | refine And.intro ?_ ?_ | refine Or.inr ?_))
    repeat' ((conv => whnf); first | exact zf | refine zg ?_ | intro _ | refine And.intro rfl ?_ | refine za ?_ | refine zl ?_ | fail)
    refine sp_intro (fun hlt => ?_) (fun hge => ?_)
    · have hlt : k < 256 := by have := of_decide_eq_true hlt; omega
      have hlen := leastN_len l k
      have hrl := rowsU_len (leastN l k)
      have hg : ∀ b, hasN l k = b → ((hereD l).map V.d)[(k : Int).toNat]? = some (.d (.bool b)) := fun b hb => by
        subst hb
        simp [hereD, hlt]
      have hsx := leastN_succ l k
      unfold leastStep at hsx
      have hr := one178 k (leastN l k)
      cases h1 : hasN l k with
      | false =>
        rw [h1, Bool.false_and, cond_false] at hsx
        repeat' ((conv => whnf); first | exact zf | refine zg ?_ | intro _ | refine And.intro rfl ?_ | refine za ?_ | refine zl ?_ | fail)
        refine ⟨.bool false, ⟨by omega, by omega, hg _ h1⟩, ?_⟩
        repeat' ((conv => whnf); first | exact zf | refine zg ?_ | intro _ | refine And.intro rfl ?_ | refine (.inl ⟨by unfold inR; omega, ?_⟩) | refine za ?_ | refine zl ?_ | fail)
        refine ⟨k + 1, hlt, Nat.sub_lt_sub_left hlt (Nat.lt_succ_self k), (by repeat' (first | exact trivial | exact rfl | exact Or.inl rfl | refine And.intro ?_ ?_ | refine Or.inr ?_)), ⟨wkB_of (by rw [hsx]), trivial⟩, lts_least _ _ _⟩
      | true =>
        cases h2 : oneOf k (leastN l k) with
        | true =>
          rw [h1, h2] at hsx
          rw [h2] at hr
          simp only [Bool.not_true, Bool.and_false, cond_false] at hsx
          repeat' ((conv => whnf); first | exact zf | refine zg ?_ | intro _ | refine And.intro rfl ?_ | refine za ?_ | refine zl ?_ | fail)
          refine ⟨.bool true, ⟨by omega, by omega, hg _ h1⟩, ?_⟩
          repeat' ((conv => whnf); first | exact zf | refine zg ?_ | intro _ | refine And.intro rfl ?_ | refine (.inl ⟨_, hr, rfl, ?_⟩) | refine (.inl ⟨by unfold inR; omega, ?_⟩) | refine za ?_ | refine zl ?_ | fail)
          refine ⟨k + 1, hlt, Nat.sub_lt_sub_left hlt (Nat.lt_succ_self k), (by repeat' (first | exact trivial | exact rfl | exact Or.inl rfl | refine And.intro ?_ ?_ | refine Or.inr ?_)), ⟨wkB_of (by rw [hsx]), trivial⟩, lts_least _ _ _⟩
        | false =>
          rw [h1, h2] at hsx
          rw [h2] at hr
          simp only [Bool.not_false, Bool.and_self, cond_true] at hsx
          repeat' ((conv => whnf); first | exact zf | refine zg ?_ | intro _ | refine And.intro rfl ?_ | refine za ?_ | refine zl ?_ | fail)
          refine ⟨.bool true, ⟨by omega, by omega, hg _ h1⟩, ?_⟩
          repeat' ((conv => whnf); first | exact zf | refine zg ?_ | intro _ | refine And.intro rfl ?_ | refine (.inl ⟨_, hr, rfl, ?_⟩) | refine (.inl ⟨by unfold inR; omega, ?_⟩) | refine za ?_ | refine zl ?_ | fail)
          refine ⟨k + 1, hlt, Nat.sub_lt_sub_left hlt (Nat.lt_succ_self k), (by repeat' (first | exact trivial | exact rfl | exact Or.inl rfl | refine And.intro ?_ ?_ | refine Or.inr ?_)), ⟨wkB_of (by rw [hsx]; simp [rowsU]), trivial⟩, lts_least _ _ _⟩
    · have hge : k = 256 := by have := of_decide_eq_false hge; omega
      subst hge
      repeat' ((conv => whnf); first | exact zf | refine zg ?_ | intro _ | refine And.intro rfl ?_ | refine za ?_ | refine zl ?_ | fail)
      refine ⟨least l, least_rows l, ?_⟩
      repeat' ((conv => whnf); first | exact zf | refine zg ?_ | intro _ | refine And.intro rfl ?_ | refine za ?_ | refine zl ?_ | fail)
theorem u8_bv (a : UInt8) : BitVec.ofInt 8 (a.toNat : Int) = a.toBitVec := by
  rw [BitVec.ofInt_natCast]
  exact BitVec.eq_of_toNat_eq (by rw [BitVec.toNat_ofNat, Nat.mod_eq_of_lt a.toNat_lt]; rfl)
theorem wrap_u8 (b : BitVec 8) : IntKind.u8.wrap (b.toNat : Int) = b.toNat := by
  have := b.isLt
  have e : (IntKind.u8.wrap (b.toNat : Int)) = (b.toNat : Int) % 256 := rfl
  rw [e]
  omega
theorem and_u8 (a b : UInt8) : bitv .and .u8 a.toNat b.toNat = ((a &&& b).toNat : Int) := by
  show IntKind.u8.wrap ((BitVec.ofInt 8 (a.toNat : Int) &&& BitVec.ofInt 8 (b.toNat : Int)).toNat : Int) = _
  rw [u8_bv, u8_bv, wrap_u8]
  rfl
theorem or_u8 (a b : UInt8) : bitv .or .u8 a.toNat b.toNat = ((a ||| b).toNat : Int) := by
  show IntKind.u8.wrap ((BitVec.ofInt 8 (a.toNat : Int) ||| BitVec.ofInt 8 (b.toNat : Int)).toNat : Int) = _
  rw [u8_bv, u8_bv, wrap_u8]
  rfl
def maskB (l : List UInt8) : List UInt8 := l.map (· &&& 63)
def normB (l : List UInt8) : List UInt8 := least (maskB l)
def rowsB (l : List UInt8) : List (List D) := l.map fun b => [D.int .u8 b.toNat]
theorem rowsB_len (l : List UInt8) : (rowsB l).length = l.length := by simp [rowsB]
set_option maxRecDepth 100000 in
set_option maxHeartbeats 4000000 in
theorem norm157 (l : List UInt8) (hm : l.length ≤ 140737488355328) : SatP Tryz.prog 157 [.d (.str l)] (.d (.str (normB l))) := by
  refine s157 (keep := false) rfl ?_
  repeat' ((conv => whnf); first | exact zf | refine zg ?_ | intro _ | refine And.intro rfl ?_ | refine (each158 l ?_) | refine za ?_ | refine zl ?_ | fail)
  conv => whnf
  refine rf_use 172 [.p 2 0] [2] l (fun b => .int .u8 b.toNat) (fun i j => i = j) (fun i => [.rows 1 (rowsB (maskB (l.take i))), .cells [.os 0], .cells [.d (.str l)]]) 0 3 rfl rfl (each172 l) (fun _ => trivial) rfl ?_ (fun _ => ⟨rfl, rfl, rfl⟩) (fun i b j hb hi => ?_) (fun i hi => ?_)
  · exact (by repeat' (first | exact trivial | exact rfl | exact Or.inl rfl | refine And.intro ?_ ?_ | refine Or.inr ?_))
  · subst hi
    obtain ⟨hlt, rfl⟩ := List.getElem?_eq_some_iff.1 hb
    have hlen : (rowsB (maskB (l.take i))).length ≤ i := by simp [rowsB, maskB]; omega
    have hs : rowsB (maskB (l.take (i + 1))) = rowsB (maskB (l.take i)) ++ [[D.int .u8 (bitv .and .u8 l[i].toNat 63)]] := by
      rw [List.take_succ_eq_append_getElem hlt]
      simp only [rowsB, maskB, List.map_append, List.map_cons, List.map_nil]
      rw [show (63 : Int) = ((63 : UInt8).toNat : Int) from rfl, and_u8]
    repeat' ((conv => whnf); first | exact zf | refine zg ?_ | intro _ | refine And.intro rfl ?_ | refine za ?_ | refine zl ?_ | fail)
    exact ⟨i + 1, rfl, wkB_of (by rw [hs]; rfl), wkB_of rfl, wkB_of rfl, trivial⟩
  · subst hi
    repeat' ((conv => whnf); first | exact zf | refine zg ?_ | intro _ | refine And.intro rfl ?_ | refine za ?_ | refine zl ?_ | fail)
    refine ⟨maskB (l.take l.length), rfl, ?_⟩
    repeat' ((conv => whnf); first | exact zf | refine zg ?_ | intro _ | refine And.intro rfl ?_ | refine ⟨_, least171 _, ?_⟩ | refine (least171 _).use ?_ | refine za ?_ | refine zl ?_ | fail)
    refine outs_eq ?_
    rw [List.take_length]
    rfl
end Go.Proofs.YtoibcfioicdlhaaGreatDoor
namespace Go.Proofs.YtoibcfioicdlhaaGreatDoor
open Go.Vx
set_option maxRecDepth 100000
theorem normB_len (l : List UInt8) : (normB l).length ≤ 256 := by
  unfold normB least
  rw [List.length_map]
  exact leastN_len _ _
def sml (l : List UInt8) : Prop := l.length ≤ 140737488355328
theorem sml_norm (l : List UInt8) : sml (normB l) := Nat.le_trans (normB_len l) (by decide)
def andB (a b : List UInt8) : List UInt8 := normB (normB a ++ normB b)
set_option maxRecDepth 100000 in
theorem and131 (a b : List UInt8) (ha : sml a) (hb : sml b) : SatP Tryz.prog 131 [.d (.str a), .d (.str b)] (.d (.str (andB a b))) := by
  have h1 := norm157 a ha
  have h2 := norm157 b hb
  have la := normB_len a
  have lb := normB_len b
  have h3 := norm157 (normB a ++ normB b) (by rw [List.length_append]; omega)
  refine s131 (keep := false) rfl ?_
  repeat' ((conv => whnf); first | exact zf | refine zg ?_ | intro _ | refine And.intro rfl ?_ | refine ⟨_, h1, ?_⟩ | refine (h1).use ?_ | refine ⟨_, h2, ?_⟩ | refine (h2).use ?_ | refine ⟨_, h3, ?_⟩ | refine (h3).use ?_ | refine za ?_ | refine zl ?_ | fail)
def unions (a b : List UInt8) : List UInt8 := a.flatMap fun c => b.map fun d => c ||| d
def orB (a b : List UInt8) : List UInt8 := normB (unions (normB a) (normB b))
theorem unions_len (a b : List UInt8) : (unions a b).length = a.length * b.length := by
  unfold unions
  induction a with
  | nil => simp
  | cons c a ih => rw [List.flatMap_cons, List.length_append, ih, List.length_map, List.length_cons, Nat.add_mul]; omega
theorem unions_succ (a b : List UInt8) (i : Nat) (h : i < a.length) : unions (a.take (i + 1)) b = unions (a.take i) b ++ b.map fun d => a[i] ||| d := by
  unfold unions
  rw [List.take_succ_eq_append_getElem h, List.flatMap_append, List.flatMap_cons, List.flatMap_nil, List.append_nil]
set_option maxRecDepth 100000 in
set_option maxHeartbeats 4000000 in
theorem or132 (a b : List UInt8) (ha : sml a) (hb : sml b) : SatP Tryz.prog 132 [.d (.str a), .d (.str b)] (.d (.str (orB a b))) := by
  have h1 := norm157 a ha
  have h2 := norm157 b hb
  have la := normB_len a
  have lb := normB_len b
  unfold orB
  generalize normB a = na at h1 la ⊢
  generalize normB b = nb at h2 lb ⊢
  have hmul : na.length * nb.length ≤ 65536 := Nat.le_trans (Nat.mul_le_mul la lb) (by decide)
  have h3 := norm157 (unions na nb) (by rw [unions_len]; omega)
  refine s132 (keep := false) rfl ?_
  repeat' ((conv => whnf); first | exact zf | refine zg ?_ | intro _ | refine And.intro rfl ?_ | refine ⟨_, h1, ?_⟩ | refine (h1).use ?_ | refine ⟨_, h2, ?_⟩ | refine (h2).use ?_ | refine (.inl ⟨by unfold inR; omega, ?_⟩) | refine (each158 na ?_) | refine za ?_ | refine zl ?_ | fail)
  conv => whnf
  refine rf_use 172 [.p 3 0] [3] na (fun b => .int .u8 b.toNat) (fun i j => i = j) (fun i => [.cells [.d (.str nb)], .rows 1 (rowsB (unions (na.take i) nb)), .cells [.os 1], .cells [.d (.str na)]]) 0 4 rfl rfl (each172 na) (fun _ => trivial) rfl ?_ (fun _ => ⟨rfl, rfl, rfl⟩) (fun i c j hc hi => ?_) (fun i hi => ?_)
  · exact (by repeat' (first | exact trivial | exact rfl | exact Or.inl rfl | refine And.intro ?_ ?_ | refine Or.inr ?_))
  · subst hi
    obtain ⟨hlt, rfl⟩ := List.getElem?_eq_some_iff.1 hc
    have hs := unions_succ na nb i hlt
    have hul : (unions (na.take i) nb).length ≤ 65536 := by
      rw [unions_len, List.length_take]
      exact Nat.le_trans (Nat.mul_le_mul_right _ (Nat.le_trans (Nat.min_le_right ..) (Nat.le_refl _))) hmul
    repeat' ((conv => whnf); first | exact zf | refine zg ?_ | intro _ | refine And.intro rfl ?_ | refine (each158 nb ?_) | refine za ?_ | refine zl ?_ | fail)
    conv => whnf
    refine rf_use 172 [.p 5 0] [5] nb (fun b => .int .u8 b.toNat) (fun i j => i = j) (fun j => [.cells [.d (.str nb)], .rows 1 (rowsB (unions (na.take i) nb ++ (nb.take j).map fun d => na[i] ||| d)), .cells [.os 1], .cells [.d (.str na)], .cells [.d (.int .u8 na[i].toNat)], .cells [.d (.str nb)]]) 0 6 rfl rfl (each172 nb) (fun _ => trivial) rfl ?_ (fun _ => ⟨rfl, rfl, rfl⟩) (fun j d k hd hj => ?_) (fun j hj => ?_)
    · exact ⟨wkB_of rfl, wkB_of (by simp), wkB_of rfl, wkB_of rfl, wkB_of rfl, wkB_of rfl, trivial⟩
    · subst hj
      obtain ⟨hlj, rfl⟩ := List.getElem?_eq_some_iff.1 hd
      have hl2 : (rowsB (unions (na.take i) nb ++ (nb.take j).map fun d => na[i] ||| d)).length ≤ 65536 + 256 := by
        rw [rowsB_len, List.length_append, List.length_map, List.length_take]
        omega
      have hs2 : rowsB (unions (na.take i) nb ++ (nb.take (j + 1)).map fun d => na[i] ||| d) = rowsB (unions (na.take i) nb ++ (nb.take j).map fun d => na[i] ||| d) ++ [[D.int .u8 (bitv .or .u8 na[i].toNat nb[j].toNat)]] := by
        rw [List.take_succ_eq_append_getElem hlj, or_u8]
        simp only [rowsB, List.map_append, List.map_cons, List.map_nil, List.append_assoc]
      repeat' ((conv => whnf); first | exact zf | refine zg ?_ | intro _ | refine And.intro rfl ?_ | refine za ?_ | refine zl ?_ | fail)
      exact ⟨j + 1, rfl, wkB_of rfl, wkB_of (by rw [hs2]; rfl), wkB_of rfl, wkB_of rfl, wkB_of rfl, wkB_of rfl, trivial⟩
    · subst hj
      repeat' ((conv => whnf); first | exact zf | refine zg ?_ | intro _ | refine And.intro rfl ?_ | refine za ?_ | refine zl ?_ | fail)
      exact ⟨i + 1, rfl, wkB_of rfl, wkB_of (by rw [hs, List.take_length]), wkB_of rfl, wkB_of rfl, trivial⟩
  · subst hi
    repeat' ((conv => whnf); first | exact zf | refine zg ?_ | intro _ | refine And.intro rfl ?_ | refine za ?_ | refine zl ?_ | fail)
    refine ⟨unions (na.take na.length) nb, rfl, ?_⟩
    rw [List.take_length]
    repeat' ((conv => whnf); first | exact zf | refine zg ?_ | intro _ | refine And.intro rfl ?_ | refine ⟨_, h3, ?_⟩ | refine (h3).use ?_ | refine za ?_ | refine zl ?_ | fail)
structure Lb where
  s : List UInt8
  i : List UInt8
  deriving DecidableEq
def agL (l : Lb) : V := .ag [.d (.str l.s), .d (.str l.i)]
def smL (l : Lb) : Prop := sml l.s ∧ sml l.i
def half (b : Bool) (l : Lb) : List UInt8 := bif b then l.s else l.i
theorem half161 (b : Bool) (l : Lb) : SatP Tryz.prog 161 [.d (.bool b), agL l] (.d (.str (half b l))) := by
  cases b with
  | true =>
    refine s161 (keep := false) rfl ?_
    repeat' ((conv => whnf); first | exact zf | refine zg ?_ | intro _ | refine And.intro rfl ?_ | refine za ?_ | refine zl ?_ | fail)
  | false =>
    refine s161 (keep := false) rfl ?_
    repeat' ((conv => whnf); first | exact zf | refine zg ?_ | intro _ | refine And.intro rfl ?_ | refine za ?_ | refine zl ?_ | fail)
theorem half_sml {b : Bool} {l : Lb} (h : smL l) : sml (half b l) := by cases b <;> first | exact h.1 | exact h.2
theorem norm160 (b : Bool) (l : Lb) (hl : smL l) : Sat Tryz.prog 160 [.d (.bool b), .p 0 0] [.cells [.d (.str l.s), .d (.str l.i)]] fun o h => o = .ret (.d (.str (normB (half b l)))) ∧ h = [.cells [.d (.str l.s), .d (.str l.i)]] := by
  have h1 := half161 b l
  have h2 := norm157 (half b l) (half_sml hl)
  refine s160 (keep := false) rfl ?_
  repeat' ((conv => whnf); first | exact zf | refine zg ?_ | intro _ | refine And.intro rfl ?_ | refine ⟨_, h1, ?_⟩ | refine (h1).use ?_ | refine ⟨_, h2, ?_⟩ | refine (h2).use ?_ | refine za ?_ | refine zl ?_ | fail)
theorem madeN {K : Out → H → Prop} (l : Lb) (a b : List UInt8) (h1 : Sat Tryz.prog 160 [.d (.bool true), .p 0 0] [.cells [.d (.str l.s), .d (.str l.i)]] fun o h => o = .ret (.d (.str a)) ∧ h = [.cells [.d (.str l.s), .d (.str l.i)]]) (h2 : Sat Tryz.prog 160 [.d (.bool false), .p 0 0] [.cells [.d (.str l.s), .d (.str l.i)]] fun o h => o = .ret (.d (.str b)) ∧ h = [.cells [.d (.str l.s), .d (.str l.i)]])
    (hk : K (.ret (agL ⟨a, b⟩)) [.cells [.d (.str l.s), .d (.str l.i)]]) : Sat Tryz.prog 129 [.fc 160 [.p 0 0]] [.cells [.d (.str l.s), .d (.str l.i)]] K := by
  refine s129 (keep := false) rfl ?_
  repeat' ((conv => whnf); first | exact zf | refine zg ?_ | intro _ | refine And.intro rfl ?_ | refine (.inr ?_ : (∃ _, _) ∨ _) | refine za ?_ | refine zl ?_ | fail)
  refine h1.mono fun o h' hh => ?_
  obtain ⟨rfl, rfl⟩ := hh
  repeat' ((conv => whnf); first | exact zf | refine zg ?_ | intro _ | refine And.intro rfl ?_ | refine (.inr ?_ : (∃ _, _) ∨ _) | refine za ?_ | refine zl ?_ | fail)
  refine h2.mono fun o h' hh => ?_
  obtain ⟨rfl, rfl⟩ := hh
  repeat' ((conv => whnf); first | exact zf | refine zg ?_ | intro _ | refine And.intro rfl ?_ | refine za ?_ | refine zl ?_ | fail)
  exact hk
def normL (l : Lb) : Lb := ⟨normB l.s, normB l.i⟩
theorem normL135 (l : Lb) (hl : smL l) : SatP Tryz.prog 135 [agL l] (agL (normL l)) := by
  refine s135 (keep := false) rfl ?_
  repeat' ((conv => whnf); first | exact zf | refine zg ?_ | intro _ | refine And.intro rfl ?_ | refine (.inr ?_ : (∃ _, _) ∨ _) | refine za ?_ | refine zl ?_ | fail)
  refine madeN l _ _ (norm160 true l hl) (norm160 false l hl) ?_
  repeat' ((conv => whnf); first | exact zf | refine zg ?_ | intro _ | refine And.intro rfl ?_ | refine za ?_ | refine zl ?_ | fail)
def okL (l : Lb) : Bool := normB l.s == l.s && normB l.i == l.i
theorem rightL116 (l : Lb) (hl : smL l) : SatP Tryz.prog 116 [agL l] (.d (.bool (okL l))) := by
  have h1 := normL135 l hl
  refine s116 (keep := false) rfl ?_
  repeat' ((conv => whnf); first | exact zf | refine zg ?_ | intro _ | refine And.intro rfl ?_ | refine ⟨_, h1, ?_⟩ | refine (h1).use ?_ | refine za ?_ | refine zl ?_ | fail)
  refine outs_eq ?_
  show V.d (.bool (normB l.s == l.s && (normB l.i == l.i && true))) = _
  rw [Bool.and_true]
  rfl
theorem madeJ {K : Out → H → Prop} (l m : Lb) (a b : List UInt8) (h1 : Sat Tryz.prog 130 [.d (.bool true), .p 0 0, .p 1 0] [.cells [.d (.str l.s), .d (.str l.i)], .cells [.d (.str m.s), .d (.str m.i)]] fun o h => o = .ret (.d (.str a)) ∧ h = [.cells [.d (.str l.s), .d (.str l.i)], .cells [.d (.str m.s), .d (.str m.i)]]) (h2 : Sat Tryz.prog 130 [.d (.bool false), .p 0 0, .p 1 0] [.cells [.d (.str l.s), .d (.str l.i)], .cells [.d (.str m.s), .d (.str m.i)]] fun o h => o = .ret (.d (.str b)) ∧ h = [.cells [.d (.str l.s), .d (.str l.i)], .cells [.d (.str m.s), .d (.str m.i)]])
    (hk : K (.ret (agL ⟨a, b⟩)) [.cells [.d (.str l.s), .d (.str l.i)], .cells [.d (.str m.s), .d (.str m.i)]]) : Sat Tryz.prog 129 [.fc 130 [.p 0 0, .p 1 0]] [.cells [.d (.str l.s), .d (.str l.i)], .cells [.d (.str m.s), .d (.str m.i)]] K := by
  refine s129 (keep := false) rfl ?_
  repeat' ((conv => whnf); first | exact zf | refine zg ?_ | intro _ | refine And.intro rfl ?_ | refine (.inr ?_ : (∃ _, _) ∨ _) | refine za ?_ | refine zl ?_ | fail)
  refine h1.mono fun o h' hh => ?_
  obtain ⟨rfl, rfl⟩ := hh
  repeat' ((conv => whnf); first | exact zf | refine zg ?_ | intro _ | refine And.intro rfl ?_ | refine (.inr ?_ : (∃ _, _) ∨ _) | refine za ?_ | refine zl ?_ | fail)
  refine h2.mono fun o h' hh => ?_
  obtain ⟨rfl, rfl⟩ := hh
  repeat' ((conv => whnf); first | exact zf | refine zg ?_ | intro _ | refine And.intro rfl ?_ | refine za ?_ | refine zl ?_ | fail)
  exact hk
theorem madeM {K : Out → H → Prop} (l m : Lb) (a b : List UInt8) (h1 : Sat Tryz.prog 133 [.d (.bool true), .p 0 0, .p 1 0] [.cells [.d (.str l.s), .d (.str l.i)], .cells [.d (.str m.s), .d (.str m.i)]] fun o h => o = .ret (.d (.str a)) ∧ h = [.cells [.d (.str l.s), .d (.str l.i)], .cells [.d (.str m.s), .d (.str m.i)]]) (h2 : Sat Tryz.prog 133 [.d (.bool false), .p 0 0, .p 1 0] [.cells [.d (.str l.s), .d (.str l.i)], .cells [.d (.str m.s), .d (.str m.i)]] fun o h => o = .ret (.d (.str b)) ∧ h = [.cells [.d (.str l.s), .d (.str l.i)], .cells [.d (.str m.s), .d (.str m.i)]])
    (hk : K (.ret (agL ⟨a, b⟩)) [.cells [.d (.str l.s), .d (.str l.i)], .cells [.d (.str m.s), .d (.str m.i)]]) : Sat Tryz.prog 129 [.fc 133 [.p 0 0, .p 1 0]] [.cells [.d (.str l.s), .d (.str l.i)], .cells [.d (.str m.s), .d (.str m.i)]] K := by
  refine s129 (keep := false) rfl ?_
  repeat' ((conv => whnf); first | exact zf | refine zg ?_ | intro _ | refine And.intro rfl ?_ | refine (.inr ?_ : (∃ _, _) ∨ _) | refine za ?_ | refine zl ?_ | fail)
  refine h1.mono fun o h' hh => ?_
  obtain ⟨rfl, rfl⟩ := hh
  repeat' ((conv => whnf); first | exact zf | refine zg ?_ | intro _ | refine And.intro rfl ?_ | refine (.inr ?_ : (∃ _, _) ∨ _) | refine za ?_ | refine zl ?_ | fail)
  refine h2.mono fun o h' hh => ?_
  obtain ⟨rfl, rfl⟩ := hh
  repeat' ((conv => whnf); first | exact zf | refine zg ?_ | intro _ | refine And.intro rfl ?_ | refine za ?_ | refine zl ?_ | fail)
  exact hk
set_option maxRecDepth 100000 in
theorem join130 (b : Bool) (l m : Lb) (hl : smL l) (hm : smL m) : Sat Tryz.prog 130 [.d (.bool b), .p 0 0, .p 1 0] [.cells [.d (.str l.s), .d (.str l.i)], .cells [.d (.str m.s), .d (.str m.i)]] fun o h => o = .ret (.d (.str (bif b then andB l.s m.s else orB l.i m.i))) ∧ h = [.cells [.d (.str l.s), .d (.str l.i)], .cells [.d (.str m.s), .d (.str m.i)]] := by
  have h1 := and131 l.s m.s hl.1 hm.1
  have h2 := or132 l.i m.i hl.2 hm.2
  cases b with
  | true =>
    refine s130 (keep := false) rfl ?_
    repeat' ((conv => whnf); first | exact zf | refine zg ?_ | intro _ | refine And.intro rfl ?_ | refine ⟨_, h1, ?_⟩ | refine (h1).use ?_ | refine za ?_ | refine zl ?_ | fail)
  | false =>
    refine s130 (keep := false) rfl ?_
    repeat' ((conv => whnf); first | exact zf | refine zg ?_ | intro _ | refine And.intro rfl ?_ | refine ⟨_, h2, ?_⟩ | refine (h2).use ?_ | refine za ?_ | refine zl ?_ | fail)
set_option maxRecDepth 100000 in
theorem meet133 (b : Bool) (l m : Lb) (hl : smL l) (hm : smL m) : Sat Tryz.prog 133 [.d (.bool b), .p 0 0, .p 1 0] [.cells [.d (.str l.s), .d (.str l.i)], .cells [.d (.str m.s), .d (.str m.i)]] fun o h => o = .ret (.d (.str (bif b then orB l.s m.s else andB l.i m.i))) ∧ h = [.cells [.d (.str l.s), .d (.str l.i)], .cells [.d (.str m.s), .d (.str m.i)]] := by
  have h1 := or132 l.s m.s hl.1 hm.1
  have h2 := and131 l.i m.i hl.2 hm.2
  cases b with
  | true =>
    refine s133 (keep := false) rfl ?_
    repeat' ((conv => whnf); first | exact zf | refine zg ?_ | intro _ | refine And.intro rfl ?_ | refine ⟨_, h1, ?_⟩ | refine (h1).use ?_ | refine za ?_ | refine zl ?_ | fail)
  | false =>
    refine s133 (keep := false) rfl ?_
    repeat' ((conv => whnf); first | exact zf | refine zg ?_ | intro _ | refine And.intro rfl ?_ | refine ⟨_, h2, ?_⟩ | refine (h2).use ?_ | refine za ?_ | refine zl ?_ | fail)
def joinL (l m : Lb) : Lb := ⟨andB l.s m.s, orB l.i m.i⟩
def meetL (l m : Lb) : Lb := ⟨orB l.s m.s, andB l.i m.i⟩
set_option maxRecDepth 100000 in
theorem joinL107 (l m : Lb) (hl : smL l) (hm : smL m) : SatP Tryz.prog 107 [agL l, agL m] (agL (joinL l m)) := by
  refine s107 (keep := false) rfl ?_
  repeat' ((conv => whnf); first | exact zf | refine zg ?_ | intro _ | refine And.intro rfl ?_ | refine (.inr ?_ : (∃ _, _) ∨ _) | refine za ?_ | refine zl ?_ | fail)
  refine madeJ l m _ _ (join130 true l m hl hm) (join130 false l m hl hm) ?_
  repeat' ((conv => whnf); first | exact zf | refine zg ?_ | intro _ | refine And.intro rfl ?_ | refine za ?_ | refine zl ?_ | fail)
set_option maxRecDepth 100000 in
theorem meetL109 (l m : Lb) (hl : smL l) (hm : smL m) : SatP Tryz.prog 109 [agL l, agL m] (agL (meetL l m)) := by
  refine s109 (keep := false) rfl ?_
  repeat' ((conv => whnf); first | exact zf | refine zg ?_ | intro _ | refine And.intro rfl ?_ | refine (.inr ?_ : (∃ _, _) ∨ _) | refine za ?_ | refine zl ?_ | fail)
  refine madeM l m _ _ (meet133 true l m hl hm) (meet133 false l m hl hm) ?_
  repeat' ((conv => whnf); first | exact zf | refine zg ?_ | intro _ | refine And.intro rfl ?_ | refine za ?_ | refine zl ?_ | fail)
end Go.Proofs.YtoibcfioicdlhaaGreatDoor
namespace Go.Proofs.YtoibcfioicdlhaaGreatDoor
open Go.Vx
set_option maxRecDepth 100000
theorem store53 (m : Mh) (st : List Va) (ts : List Tr) (a : Va) (frs : List Fr) (f : Fr) (hl : 0 < frs.length) (hlf : frs.length < 1000000000) (hf : frs[frs.length - 1]? = some f) (hv : f.vars.length < 1000000000) (h0 : 0 ≤ m.o.a) (h1 : m.o.a < f.vars.length) :
    MKeep 53 m st ts ts [a] frs (lastSet frs { f with vars := f.vars.set m.o.a.toNat a }) false 0 := by
  intro K hk
  have hrow := last_row hl hf
  rw [← lastSet_row hl] at hk
  have e : encF { f with vars := f.vars.set m.o.a.toNat a } = [.int .i64 f.fu, .int .i64 f.pc, .int .i64 f.ba, .int .u8 f.ma, .sl 5 ((f.vars.map encV).set m.o.a.toNat (encV a))] := by simp [encF, List.map_set]
  rw [e] at hk
  obtain ⟨v0, hv0⟩ : ∃ v0, f.vars[m.o.a.toNat]? = some v0 := ⟨_, List.getElem?_eq_getElem (by omega)⟩
  have hvr : (f.vars.map encV)[m.o.a.toNat]? = some (encV v0) := by simp [hv0]
  refine s53 (keep := false) rfl ?_
  repeat' ((conv => whnf); first | exact zf | refine zg ?_ | intro _ | refine And.intro rfl ?_ | refine (.inr ?_ : (∃ _, _) ∨ _) | refine top74 m st ts [a] went false 0 _ (by simp; omega) (by simp; omega) ?_ | refine za ?_ | refine zl ?_ | fail)
  refine ⟨encF f, hrow, ?_⟩
  repeat' ((conv => whnf); first | exact zf | refine zg ?_ | intro _ | refine And.intro rfl ?_ | refine (.inr ?_ : (∃ _, _) ∨ _) | refine clone49 (f.vars.map encV) (by simpa using hv) ?_ | refine rxn_own ?_ | refine za ?_ | refine zl ?_ | fail)
  conv => whnf
  refine ⟨encF f, hrow, ⟨rfl, rfl, rfl⟩, ?_⟩
  repeat' ((conv => whnf); first | exact zf | refine zg ?_ | intro _ | refine And.intro rfl ?_ | refine za ?_ | refine zl ?_ | fail)
  refine ⟨encV a, ⟨by decide, rfl, rfl⟩, ?_⟩
  repeat' ((conv => whnf); first | exact zf | refine zg ?_ | intro _ | refine And.intro rfl ?_ | refine And.intro ⟨h0, by simpa using h1, rfl⟩ ?_ | refine za ?_ | refine zl ?_ | fail)
  refine ⟨encV v0, hvr, ⟨rfl, rfl, rfl⟩, ?_⟩
  repeat' ((conv => whnf); first | exact zf | refine zg ?_ | intro _ | refine And.intro rfl ?_ | refine za ?_ | refine zl ?_ | fail)
  conv => whnf
  exact hk
def mkL (l : Lb) : Va := ⟨2, 0, [], l.s, l.i⟩
def lbV (v : Va) : Lb := ⟨v.ls, v.li⟩
theorem mark106 {K : Out → H → Prop} (m : Mh) (st : List Va) (ts : List Tr) (tk : List Va) (u : Ou) (wr : Bool) (cd : Int) (fs : List Fr) (l : Lb) (hs : st.length < 1000000000)
    (hk : K (.ret (.tu [])) [.cells (mcs m (.d (.sl 5 (fs.map encF))) (st ++ [mkL l]) ts (tkd tk) u wr cd), .no]) :
    Sat Tryz.prog 106 [.p 0 0, agL l] [.cells (mcs m (.os 1) st ts (tkd tk) u wr cd), .rows 5 (fs.map encF)] K := by
  refine s106 (keep := false) rfl ?_
  repeat' ((conv => whnf); first | exact zf | refine zg ?_ | intro _ | refine And.intro rfl ?_ | refine (.inr ?_ : (∃ _, _) ∨ _) | refine layA93 m st ts tk u wr cd fs (mkL l) hs ?_ | refine za ?_ | refine zl ?_ | fail)
  conv => whnf
  exact hk
theorem join105 (m : Mh) (st : List Va) (ts : List Tr) (a b : Va) (frs : List Fr) (hs : st.length < 1000000000) (ha : smL (lbV a)) (hb : smL (lbV b)) : LayF 105 [agV a, agV b] m st (st ++ [mkL (joinL (lbV a) (lbV b))]) ts [a, b] frs := by
  intro K hk
  have h := joinL107 (lbV a) (lbV b) ha hb
  refine s105 (keep := false) rfl ?_
  repeat' ((conv => whnf); first | exact zf | refine zg ?_ | intro _ | refine And.intro rfl ?_ | refine ⟨_, h, ?_⟩ | refine (h).use ?_ | refine (.inr ?_ : (∃ _, _) ∨ _) | refine mark106 m st ts [a, b] went false 0 frs (joinL (lbV a) (lbV b)) hs ?_ | refine za ?_ | refine zl ?_ | fail)
  conv => whnf
  exact hk
theorem meet108 (m : Mh) (st : List Va) (ts : List Tr) (a b : Va) (frs : List Fr) (hs : st.length < 1000000000) (ha : smL (lbV a)) (hb : smL (lbV b)) : LayF 108 [agV a, agV b] m st (st ++ [mkL (meetL (lbV a) (lbV b))]) ts [a, b] frs := by
  intro K hk
  have h := meetL109 (lbV a) (lbV b) ha hb
  refine s108 (keep := false) rfl ?_
  repeat' ((conv => whnf); first | exact zf | refine zg ?_ | intro _ | refine And.intro rfl ?_ | refine ⟨_, h, ?_⟩ | refine (h).use ?_ | refine (.inr ?_ : (∃ _, _) ∨ _) | refine mark106 m st ts [a, b] went false 0 frs (meetL (lbV a) (lbV b)) hs ?_ | refine za ?_ | refine zl ?_ | fail)
  conv => whnf
  exact hk
theorem join67A (m : Mh) (st : List Va) (ts : List Tr) (a b : Va) (frs : List Fr) (hs : st.length < 1000000000) (ha : a.k = 2) (hb : b.k = 2) (hla : smL (lbV a)) (hlb : smL (lbV b)) : MLay 67 m st (st ++ [mkL (joinL (lbV a) (lbV b))]) ts [a, b] frs := by
  intro K hk
  refine s67 (keep := false) rfl ?_
  repeat' ((conv => whnf); first | exact zf | refine zg ?_ | intro _ | refine And.intro rfl ?_ | refine (.inr ?_ : (∃ _, _) ∨ _) | refine twoA94 105 rfl m st (st ++ [mkL (joinL (lbV a) (lbV b))]) ts a b 2 frs ha hb (join105 m st ts a b frs hs hla hlb) ?_ | refine za ?_ | refine zl ?_ | fail)
  exact hk
theorem join67E (m : Mh) (st : List Va) (ts : List Tr) (a b : Va) (frs : List Fr) (hab : ¬ (a.k = 2 ∧ b.k = 2)) : MKeep 67 m st ts ts [a, b] frs frs true (-1) := by
  intro K hk
  refine s67 (keep := false) rfl ?_
  repeat' ((conv => whnf); first | exact zf | refine zg ?_ | intro _ | refine And.intro rfl ?_ | refine (.inr ?_ : (∃ _, _) ∨ _) | refine twoE94 105 m st ts a b 2 frs hab ?_ | refine za ?_ | refine zl ?_ | fail)
  exact hk
theorem meet68A (m : Mh) (st : List Va) (ts : List Tr) (a b : Va) (frs : List Fr) (hs : st.length < 1000000000) (ha : a.k = 2) (hb : b.k = 2) (hla : smL (lbV a)) (hlb : smL (lbV b)) : MLay 68 m st (st ++ [mkL (meetL (lbV a) (lbV b))]) ts [a, b] frs := by
  intro K hk
  refine s68 (keep := false) rfl ?_
  repeat' ((conv => whnf); first | exact zf | refine zg ?_ | intro _ | refine And.intro rfl ?_ | refine (.inr ?_ : (∃ _, _) ∨ _) | refine twoA94 108 rfl m st (st ++ [mkL (meetL (lbV a) (lbV b))]) ts a b 2 frs ha hb (meet108 m st ts a b frs hs hla hlb) ?_ | refine za ?_ | refine zl ?_ | fail)
  exact hk
theorem meet68E (m : Mh) (st : List Va) (ts : List Tr) (a b : Va) (frs : List Fr) (hab : ¬ (a.k = 2 ∧ b.k = 2)) : MKeep 68 m st ts ts [a, b] frs frs true (-1) := by
  intro K hk
  refine s68 (keep := false) rfl ?_
  repeat' ((conv => whnf); first | exact zf | refine zg ?_ | intro _ | refine And.intro rfl ?_ | refine (.inr ?_ : (∃ _, _) ∨ _) | refine twoE94 108 m st ts a b 2 frs hab ?_ | refine za ?_ | refine zl ?_ | fail)
  exact hk
def opX (im : Im) (c : Co) (fr tr : Int) (o : Op) (f : Fr) : Co × Ou :=
  let a := tk0 im c o
  let b := tk1' im c o
  bif o.c == 3 then (⟨lastSet (nxt c.fr f) { { f with pc := f.pc + 1 } with vars := f.vars.set o.a.toNat a }, lft (mkM im c o 0 0), c.tr⟩, went)
  else bif o.c == 22 then (bif (a.k == 2) && (b.k == 2) then layC im c o f [mkL (joinL (lbV a) (lbV b))] else raise c (-1) (max tr 0))
  else bif o.c == 23 then (bif (a.k == 2) && (b.k == 2) then layC im c o f [mkL (meetL (lbV a) (lbV b))] else raise c (-1) (max tr 0))
  else opR im c fr tr o f
section
variable {im : Im} {c : Co} {fr tr : Int} {f : Fr} {fn : Fn} {oa : Int}
theorem op3 (x : Cx im c fr tr ⟨3, oa⟩ f fn) (hv : f.vars.length < 1000000000) : St im c fr tr (opX im c fr tr ⟨3, oa⟩ f) := by
  have hw : within oa f.vars.length = true := x.op
  obtain ⟨k1, k2⟩ := within_iff.1 hw
  obtain ⟨a, ha⟩ := x.tk1 rfl
  have e : opX im c fr tr ⟨3, oa⟩ f = (⟨lastSet (nxt c.fr f) { { f with pc := f.pc + 1 } with vars := f.vars.set oa.toNat a }, lft (mkM im c ⟨3, oa⟩ 0 0), c.tr⟩, went) := by
    show ((⟨lastSet (nxt c.fr f) { { f with pc := f.pc + 1 } with vars := f.vars.set oa.toNat (tk0 im c ⟨3, oa⟩) }, lft (mkM im c ⟨3, oa⟩ 0 0), c.tr⟩ : Co), went) = _
    rw [t0 ha]
  rw [e]
  refine keepQ x 1000053 2 _ _ (fun _ => rfl) rfl rfl ?_
  rw [ha]
  exact store53 (mkM im c ⟨3, oa⟩ fr tr) (lft (mkM im c ⟨3, oa⟩ fr tr)) c.tr a (nxt c.fr f) { f with pc := f.pc + 1 } x.nlen.1 x.nlen.2 x.last hv k1 k2
theorem tkn_mem {o : Op} {v : Va} (h : v ∈ tkn (mkM im c o fr tr)) : v ∈ c.st := List.mem_of_mem_drop h
theorem op22 (x : Cx im c fr tr ⟨22, oa⟩ f fn) (hm : ∀ v ∈ c.st, smL (lbV v)) : St im c fr tr (opX im c fr tr ⟨22, oa⟩ f) := by
  obtain ⟨a, b, ha⟩ := x.tk2 rfl
  have ma : smL (lbV a) := hm a (tkn_mem (im := im) (o := ⟨22, oa⟩) (fr := fr) (tr := tr) (by rw [ha]; simp))
  have mb : smL (lbV b) := hm b (tkn_mem (im := im) (o := ⟨22, oa⟩) (fr := fr) (tr := tr) (by rw [ha]; simp))
  have e : opX im c fr tr ⟨22, oa⟩ f = (bif (a.k == 2) && (b.k == 2) then layC im c ⟨22, oa⟩ f [mkL (joinL (lbV a) (lbV b))] else raise c (-1) (max tr 0)) := by
    show (bif ((tk0 im c ⟨22, oa⟩).k == 2) && ((tk1' im c ⟨22, oa⟩).k == 2) then layC im c ⟨22, oa⟩ f [mkL (joinL (lbV (tk0 im c ⟨22, oa⟩)) (lbV (tk1' im c ⟨22, oa⟩)))] else raise c (-1) (max tr 0)) = _
    rw [t0 ha, t1 ha]
  rw [e]
  by_cases hab : a.k = 2 ∧ b.k = 2
  · rw [beqT hab.1, beqT hab.2]
    refine layQ x 1000067 21 [mkL (joinL (lbV a) (lbV b))] (fun _ => rfl) rfl rfl ?_
    rw [ha]
    exact join67A _ _ _ a b _ (by have := x.sl; omega) hab.1 hab.2 ma mb
  · have e2 : ((a.k == 2) && (b.k == 2)) = false := by
      cases h : (a.k == 2) && (b.k == 2) with
      | false => rfl
      | true => simp at h; exact absurd h hab
    rw [e2]
    refine excQ x 1000067 21 (-1) (fun _ => rfl) rfl rfl ?_
    rw [ha]
    exact join67E _ _ _ a b _ hab
theorem op23 (x : Cx im c fr tr ⟨23, oa⟩ f fn) (hm : ∀ v ∈ c.st, smL (lbV v)) : St im c fr tr (opX im c fr tr ⟨23, oa⟩ f) := by
  obtain ⟨a, b, ha⟩ := x.tk2 rfl
  have ma : smL (lbV a) := hm a (tkn_mem (im := im) (o := ⟨23, oa⟩) (fr := fr) (tr := tr) (by rw [ha]; simp))
  have mb : smL (lbV b) := hm b (tkn_mem (im := im) (o := ⟨23, oa⟩) (fr := fr) (tr := tr) (by rw [ha]; simp))
  have e : opX im c fr tr ⟨23, oa⟩ f = (bif (a.k == 2) && (b.k == 2) then layC im c ⟨23, oa⟩ f [mkL (meetL (lbV a) (lbV b))] else raise c (-1) (max tr 0)) := by
    show (bif ((tk0 im c ⟨23, oa⟩).k == 2) && ((tk1' im c ⟨23, oa⟩).k == 2) then layC im c ⟨23, oa⟩ f [mkL (meetL (lbV (tk0 im c ⟨23, oa⟩)) (lbV (tk1' im c ⟨23, oa⟩)))] else raise c (-1) (max tr 0)) = _
    rw [t0 ha, t1 ha]
  rw [e]
  by_cases hab : a.k = 2 ∧ b.k = 2
  · rw [beqT hab.1, beqT hab.2]
    refine layQ x 1000068 22 [mkL (meetL (lbV a) (lbV b))] (fun _ => rfl) rfl rfl ?_
    rw [ha]
    exact meet68A _ _ _ a b _ (by have := x.sl; omega) hab.1 hab.2 ma mb
  · have e2 : ((a.k == 2) && (b.k == 2)) = false := by
      cases h : (a.k == 2) && (b.k == 2) with
      | false => rfl
      | true => simp at h; exact absurd h hab
    rw [e2]
    refine excQ x 1000068 22 (-1) (fun _ => rfl) rfl rfl ?_
    rw [ha]
    exact meet68E _ _ _ a b _ hab
theorem opXAll {o : Op} (x : Cx im c fr tr o f fn) (hma : 0 ≤ f.ma ∧ f.ma ≤ 255) (hv : f.vars.length < 1000000000) (hm : ∀ v ∈ c.st, smL (lbV v)) (hd : o.c ≠ 24 ∧ o.c ≠ 31) (hr : rightB o = true) : St im c fr tr (opX im c fr tr o f) := by
  obtain ⟨k, oa⟩ := o
  by_cases h3 : k = 3
  · subst h3; exact op3 x hv
  by_cases h22 : k = 22
  · subst h22; exact op22 x hm
  by_cases h23 : k = 23
  · subst h23; exact op23 x hm
  have e : opX im c fr tr ⟨k, oa⟩ f = opR im c fr tr ⟨k, oa⟩ f := by
    simp only [opX, beqF h3, beqF h22, beqF h23, cond_false]
  rw [e]
  refine opAll x hma ?_ hr
  simp only [dom, beqF h3, beqF h22, beqF h23, beqF hd.1, beqF hd.2, Bool.or_self, Bool.not_false]
def stepX (im : Im) (c : Co) (fr tr : Int) : Co × Ou :=
  match fit im c with
  | none => (c, failed (-6))
  | some o => match c.fr.getLast? with
    | none => (c, failed (-6))
    | some f => opX im c fr tr o f
structure okX (im : Im) (c : Co) : Prop where
  hI : okI im
  cd : ∀ (i : Nat) (g : Fn), im.fs[i]? = some g → g.code.length < 1000000000
  lf : c.fr.length < 900000000
  ls : c.st.length < 800000000
  lt : c.tr.length < 900000000
  ma : ∀ f, c.fr.getLast? = some f → (0 ≤ f.ma ∧ f.ma ≤ 255) ∧ f.vars.length < 1000000000
  sm : ∀ v ∈ c.st, smL (lbV v)
  dm : ∀ o, fit im c = some o → o.c ≠ 24 ∧ o.c ≠ 31
theorem step13x (h : okX im c) : St im c fr tr (stepX im c fr tr) := by
  unfold stepX
  cases hf : fit im c with
  | none => exact stepN im c fr tr h.hI (by have := h.ls; omega) hf
  | some o =>
    obtain ⟨f, fn, hl, w1, hfn, w2, ho, hr, hop, hpo⟩ := fit_some hf
    simp only [hl]
    obtain ⟨a1, a2⟩ := within_iff.1 w2
    have := h.cd _ _ hfn
    exact opXAll (fn := fn) ⟨h.hI, hf, hl, ⟨a1, by omega⟩, hop, hpo, h.lf, h.ls, h.lt⟩ (h.ma f hl).1 (h.ma f hl).2 h.sm (h.dm o hf) hr
end
end Go.Proofs.YtoibcfioicdlhaaGreatDoor
