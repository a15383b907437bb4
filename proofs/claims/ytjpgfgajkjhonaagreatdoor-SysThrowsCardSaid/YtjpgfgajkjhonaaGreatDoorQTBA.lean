/- What the small functions under core come to, in the picture. Conditions: where a list grows, it is not too long. -/
import Derived.Test.YtjpgfgajkjhonaaGreatDoorQTAT
import Derived.Test.YtjpgfgajkjhonaaGreatDoorQTAY
import Derived.Test.YtjpgfgajkjhonaaGreatDoorQTAZ
namespace Go.Proofs.YtjpgfgajkjhonaaGreatDoor
open Go.Vx
set_option maxRecDepth 100000
theorem cut92 (l : List (List D)) (n : Int) : SatP Tryz.prog 90 [.d (.sl 5 l), .d (.int .i64 n)] (.cl 5 (l.take (min (max n 0) l.length).toNat)) := by
 refine s90 (keep := false) rfl ?_
 repeat' ((conv => whnf); first | exact zf | refine zg ?_ | intro _ | refine And.intro rfl ?_ | refine za ?_ | refine zl ?_ | fail)
theorem cut90 (l : List (List D)) (n : Int) : SatP Tryz.prog 94 [.d (.sl 5 l), .d (.int .i64 n)] (.cl 5 (l.take (min (max n 0) l.length).toNat)) := by
 refine s94 (keep := false) rfl ?_
 repeat' ((conv => whnf); first | exact zf | refine zg ?_ | intro _ | refine And.intro rfl ?_ | refine za ?_ | refine zl ?_ | fail)
theorem cut113 (l : List (List D)) (n : Int) : SatP Tryz.prog 95 [.d (.sl 3 l), .d (.int .i64 n)] (.cl 3 (l.take (min (max n 0) l.length).toNat)) := by
 refine s95 (keep := false) rfl ?_
 repeat' ((conv => whnf); first | exact zf | refine zg ?_ | intro _ | refine And.intro rfl ?_ | refine za ?_ | refine zl ?_ | fail)
theorem take_all {α : Type} (l : List α) : l.take (min (max (l.length : Int) 0) l.length).toNat = l := List.take_of_length_le (by omega)
theorem add50 (l : List (List D)) (a b c d e : D) (hl : l.length < 1000000000) : SatP Tryz.prog 51 [.d (.sl 5 l), .ag [.d a, .d b, .d c, .d d, .d e]] (.d (.sl 5 (l ++ [[a, b, c, d, e]]))) := by
 refine s51 (keep := false) rfl ?_
 repeat' ((conv => whnf); first | exact zf | refine zg ?_ | intro _ | refine And.intro rfl ?_ | refine ⟨_, cut92 _ _, ?_⟩ | refine (cut92 _ _).use ?_ | refine za ?_ | refine zl ?_ | fail)
 exact outs_eq (congrArg (fun x => V.d (.sl 5 (x ++ [[a, b, c, d, e]]))) (take_all l))
theorem add91 (l : List (List D)) (a b c d e : D) (hl : l.length < 1000000000) : SatP Tryz.prog 103 [.d (.sl 5 l), .ag [.d a, .d b, .d c, .d d, .d e]] (.d (.sl 5 (l ++ [[a, b, c, d, e]]))) := by
 refine s103 (keep := false) rfl ?_
 repeat' ((conv => whnf); first | exact zf | refine zg ?_ | intro _ | refine And.intro rfl ?_ | refine ⟨_, cut90 _ _, ?_⟩ | refine (cut90 _ _).use ?_ | refine za ?_ | refine zl ?_ | fail)
 exact outs_eq (congrArg (fun x => V.d (.sl 5 (x ++ [[a, b, c, d, e]]))) (take_all l))
theorem clone49 {K : Out → H → Prop} (l : List (List D)) (hl : l.length < 1000000000) (hk : K (.ret (.os 0)) [.rows 5 l]) : Sat Tryz.prog 50 [.d (.sl 5 l)] [] K := by
 refine s50 (keep := true) rfl ?_
 cases l with
 | nil =>
  repeat' ((conv => whnf); first | exact zf | refine zg ?_ | intro _ | refine And.intro rfl ?_ | refine za ?_ | refine zl ?_ | refine And.intro ?_ ?_ | fail)
  all_goals exact hk
 | cons r l =>
  repeat' ((conv => whnf); first | exact zf | refine zg ?_ | intro _ | refine And.intro rfl ?_ | refine za ?_ | refine zl ?_ | fail)
  all_goals exact hk
theorem clone73 {K : Out → H → Prop} (l : List (List D)) (hl : l.length < 1000000000) (hk : K (.ret (.os 0)) [.rows 5 l]) : Sat Tryz.prog 114 [.d (.sl 5 l)] [] K := by
 refine s114 (keep := true) rfl ?_
 cases l with
 | nil =>
  repeat' ((conv => whnf); first | exact zf | refine zg ?_ | intro _ | refine And.intro rfl ?_ | refine za ?_ | refine zl ?_ | refine And.intro ?_ ?_ | fail)
  all_goals exact hk
 | cons r l =>
  repeat' ((conv => whnf); first | exact zf | refine zg ?_ | intro _ | refine And.intro rfl ?_ | refine za ?_ | refine zl ?_ | fail)
  all_goals exact hk
theorem clone127 {K : Out → H → Prop} (l : List (List D)) (hl : l.length < 1000000000) (hk : K (.ret (.os 0)) [.rows 3 l]) : Sat Tryz.prog 278 [.d (.sl 3 l)] [] K := by
 refine s278 (keep := true) rfl ?_
 cases l with
 | nil =>
  repeat' ((conv => whnf); first | exact zf | refine zg ?_ | intro _ | refine And.intro rfl ?_ | refine za ?_ | refine zl ?_ | refine And.intro ?_ ?_ | fail)
  all_goals exact hk
 | cons r l =>
  repeat' ((conv => whnf); first | exact zf | refine zg ?_ | intro _ | refine And.intro rfl ?_ | refine za ?_ | refine zl ?_ | fail)
  all_goals exact hk
end Go.Proofs.YtjpgfgajkjhonaaGreatDoor
namespace Go.Proofs.YtjpgfgajkjhonaaGreatDoor
open Go.Vx
structure Va where
 k : Int
 n : Int
 nm : List UInt8
 ls : List UInt8
 li : List UInt8
def encV (v : Va) : List D := [.int .i64 v.k, .int .i64 v.n, .str v.nm, .str v.ls, .str v.li]
def eqV (a b : Va) : Bool := (a.k == b.k) && ((a.n == b.n) && ((a.nm == b.nm) && ((a.ls == b.ls) && ((a.li == b.li) && true))))
theorem nt {b : Bool} (h : (!b) = true) : b = false := by cases b <;> simp_all
theorem nf {b : Bool} (h : (!b) = false) : b = true := by cases b <;> simp_all
structure Tr where
 f : Int
 h : Int
 a : Int
def encT (v : Tr) : List D := [.int .i64 v.f, .int .i64 v.h, .int .i64 v.a]
end Go.Proofs.YtjpgfgajkjhonaaGreatDoor
namespace Go.Proofs.YtjpgfgajkjhonaaGreatDoor
open Go.Vx
structure Fr where
 fu : Int
 pc : Int
 ba : Int
 ma : Int
 vars : List Va
def encF (f : Fr) : List D := [.int .i64 f.fu, .int .i64 f.pc, .int .i64 f.ba, .int .u8 f.ma, .sl 5 (f.vars.map encV)]
def agF (f : Fr) : V := .ag [.d (.int .i64 f.fu), .d (.int .i64 f.pc), .d (.int .i64 f.ba), .d (.int .u8 f.ma), .d (.sl 5 (f.vars.map encV))]
def agV (v : Va) : V := .ag [.d (.int .i64 v.k), .d (.int .i64 v.n), .d (.str v.nm), .d (.str v.ls), .d (.str v.li)]
structure Co where
 fr : List Fr
 st : List Va
 tr : List Tr
def agC (c : Co) : V := .ag [.d (.sl 5 (c.fr.map encF)), .d (.sl 5 (c.st.map encV)), .d (.sl 3 (c.tr.map encT))]
def cutn {α : Type} (l : List α) (n : Int) : List α := l.take (min (max n 0) l.length).toNat
theorem cutn_map {α β : Type} (f : α → β) (l : List α) (n : Int) : cutn (l.map f) n = (cutn l n).map f := by simp [cutn, List.map_take]
def pushC (c : Co) (v : Va) : Co := ⟨c.fr, c.st ++ [v], c.tr⟩
theorem push48 (c : Co) (v : Va) (hl : c.st.length < 1000000000) : SatP Tryz.prog 69 [agC c, agV v] (agC (pushC c v)) := by
 refine s69 (keep := false) rfl ?_
 have hl' : (c.st.map encV).length < 1000000000 := by simpa using hl
 repeat' ((conv => whnf); first | exact zf | refine zg ?_ | intro _ | refine And.intro rfl ?_ | refine ⟨_, add91 _ _ _ _ _ _ hl', ?_⟩ | refine (add91 _ _ _ _ _ _ hl').use ?_ | refine za ?_ | refine zl ?_ | fail)
 show Out.ret (V.ag [V.d (.sl 5 (c.fr.map encF)), V.d (.sl 5 (c.st.map encV ++ [encV v])), V.d (.sl 3 (c.tr.map encT))]) = _
 simp [agC, pushC]
def base (c : Co) : Int := match c.fr.getLast? with
 | some f => f.ba
 | none => 0
def popOk (c : Co) (n : Int) : Bool := decide (0 ≤ n) && (decide (0 ≤ base c) && (decide (base c ≤ c.st.length) && decide (n ≤ c.st.length - base c)))
def popC (c : Co) (n : Int) : Co := ⟨c.fr, cutn c.st (c.st.length - n), c.tr⟩
def popL (c : Co) (n : Int) : List Va := c.st.drop (c.st.length - n).toNat
def popR (c : Co) (n : Int) : V :=
 bif popOk c n then .tu [agC (popC c n), .d (.sl 5 ((popL c n).map encV)), .d (.bool true)]
 else .tu [agC c, .d (.sl 5 []), .d (.bool false)]
theorem popR_yes {c : Co} {n : Int} (h : popOk c n = true) : popR c n = .tu [agC (popC c n), .d (.sl 5 ((popL c n).map encV)), .d (.bool true)] := by simp [popR, h]
theorem popR_no {c : Co} {n : Int} (h : popOk c n = false) : popR c n = .tu [agC c, .d (.sl 5 []), .d (.bool false)] := by simp [popR, h]
theorem pop46 (c : Co) (n : Int) (hl : c.st.length < 1000000000) : SatP Tryz.prog 113 [agC c, .d (.int .i64 n)] (popR c n) := by
  refine s113 (keep := false) rfl ?_
  have hl' : (c.st.map encV).length < 1000000000 := by simpa using hl
  have yes : ∀ (b : Int), base c = b → ¬ n < 0 → ¬ b < 0 → ¬ (c.st.length : Int) < b → ¬ (c.st.length : Int) - b < n → popOk c n = true := by
    intro b hb h1 h2 h3 h4
    simp [popOk, hb]
    omega
  have no : ∀ (b : Int), base c = b → (n < 0 ∨ b < 0 ∨ (c.st.length : Int) < b ∨ (c.st.length : Int) - b < n) → popOk c n = false := by
    intro b hb h
    cases he : popOk c n with
    | false => rfl
    | true =>
      simp [popOk, hb] at he
      omega
  repeat' ((conv => whnf); first | exact zf | refine zg ?_ | intro _ | refine And.intro rfl ?_ | refine za ?_ | refine zl ?_ | fail)
  refine sp_intro (fun hpos => ?_) (fun hzero => ?_)
  · have hpos : 0 < c.fr.length := by simpa using hpos
    obtain ⟨f, hf1⟩ : ∃ f, c.fr[c.fr.length - 1]? = some f := ⟨_, List.getElem?_eq_getElem (by omega)⟩
    have hb : base c = f.ba := by simp [base, List.getLast?_eq_getElem?, hf1]
    replace yes := yes _ hb
    replace no := no _ hb
    repeat' ((conv => whnf); first | exact zf | refine zg ?_ | intro _ | refine And.intro rfl ?_ | refine za ?_ | refine zl ?_ | fail)
    refine ⟨encF f, ⟨by simp; omega, by simp [hf1], rfl⟩, ?_⟩
    repeat' ((conv => whnf); first | exact zf | refine zg ?_ | intro _ | refine And.intro rfl ?_ | refine clone49 _ (by simp; omega) ?_ | refine ⟨_, cut90 _ _, ?_⟩ | refine (cut90 _ _).use ?_ | refine za ?_ | refine zl ?_ | refine sp_intro (fun hb => ?_) (fun hb => ?_) | fail)
    all_goals
      first
        | (refine (outs_eq (popR_no (no ?_))).symm; simp at *; omega)
        | (have hy := yes (by simp at * <;> omega) (by simp at * <;> omega) (by simp at * <;> omega) (by simp at * <;> omega)
           rw [popR_yes hy]
           show Out.ret (V.tu [V.ag [V.d (.sl 5 (c.fr.map encF)), V.d (.sl 5 (cutn (c.st.map encV) ((c.st.map encV).length - n))), V.d (.sl 3 (c.tr.map encT))], V.d (.sl 5 ((c.st.map encV).drop (((c.st.map encV).length : Int) - n).toNat)), V.d (.bool true)]) = _
           rw [cutn_map]
           simp [agC, popC, popL, List.map_drop])
  · have hz : c.fr = [] := by
      have : ¬ 0 < c.fr.length := by simpa using hzero
      exact List.eq_nil_of_length_eq_zero (by omega)
    have hb : base c = 0 := by simp [base, hz]
    replace yes := yes _ hb
    replace no := no _ hb
    repeat' ((conv => whnf); first | exact zf | refine zg ?_ | intro _ | refine And.intro rfl ?_ | refine clone49 _ (by simp; omega) ?_ | refine ⟨_, cut90 _ _, ?_⟩ | refine (cut90 _ _).use ?_ | refine za ?_ | refine zl ?_ | refine sp_intro (fun hb => ?_) (fun hb => ?_) | fail)
    all_goals
      first
        | (refine (outs_eq (popR_no (no ?_))).symm; simp at *; omega)
        | (have hy := yes (by simp at * <;> omega) (by simp at * <;> omega) (by simp at * <;> omega) (by simp at * <;> omega)
           rw [popR_yes hy]
           show Out.ret (V.tu [V.ag [V.d (.sl 5 (c.fr.map encF)), V.d (.sl 5 (cutn (c.st.map encV) ((c.st.map encV).length - n))), V.d (.sl 3 (c.tr.map encT))], V.d (.sl 5 ((c.st.map encV).drop (((c.st.map encV).length : Int) - n).toNat)), V.d (.bool true)]) = _
           rw [cutn_map]
           simp [agC, popC, popL, List.map_drop])
end Go.Proofs.YtjpgfgajkjhonaaGreatDoor
namespace Go.Proofs.YtjpgfgajkjhonaaGreatDoor
open Go.Vx
def agT (t : Tr) : V := .ag [.d (.int .i64 t.f), .d (.int .i64 t.h), .d (.int .i64 t.a)]
theorem more128 (t : Tr) (n : Int) : SatP Tryz.prog 279 [agT t, .e [.int .i64 n] 0] (.d (.bool (decide (n < t.f)))) := by
 refine s279 (keep := false) rfl ?_
 repeat' ((conv => whnf); first | exact zf | refine zg ?_ | intro _ | refine And.intro rfl ?_ | refine za ?_ | refine zl ?_ | fail)
def idx (p : Tr → Bool) : List Tr → Nat
 | [] => 0
 | x :: l => bif p x then 0 else idx p l + 1
theorem idx_le (p : Tr → Bool) : ∀ l, idx p l ≤ l.length
 | [] => Nat.le_refl _
 | x :: l => by
  simp only [idx]
  cases p x
  ·simp [idx_le p l]
  ·simp
theorem idx_take {p : Tr → Bool} : ∀ {l : List Tr} {i : Nat}, (∀ j x, j < i → l[j]? = some x → p x = false) → (∀ x, l[i]? = some x → p x = true) → i ≤ l.length → idx p l = i
 | [], i, _, _, hi => by simp at hi; simp [idx, hi]
 | x :: l, 0, _, h, _ => by simp [idx, h x rfl]
 | x :: l, i + 1, h1, h2, hi => by
  simp only [idx, h1 0 x (by omega) rfl, cond_false]
  rw [idx_take (i := i) (fun j y hj hy => h1 (j + 1) y (by omega) (by simpa using hy)) (fun y hy => h2 y (by simpa using hy)) (by simpa using hi)]
def idxR (p : Tr → Bool) (l : List Tr) : Int := if idx p l < l.length then idx p l else -1
theorem index156 (l : List Tr) (n : Int) : SatP Tryz.prog 320 [.d (.sl 3 (l.map encT)), .fc 279 [.e [.int .i64 n] 0]] (.d (.int .i64 (idxR (fun t => decide (n < t.f)) l))) := by
 refine s320 (keep := false) rfl ?_
 repeat' ((conv => whnf); first | exact zf | refine zg ?_ | intro _ | refine And.intro rfl ?_ | refine za ?_ | refine zl ?_ | fail)
 refine lx_intro ⟨Nat, fun i => i ≤ l.length ∧ ∀ j x, j < i → l[j]? = some x → decide (n < x.f) = false, fun i => [(0, .d (.sl 3 (l.map encT))), (1, .fc 279 [.e [.int .i64 n] 0]), (7, .d (.int .i64 (l.map encT).length)), (8, .d (.int .i64 i))], fun _ => [], fun i => l.length - i, 0,
  ⟨⟨Nat.zero_le _, by simp⟩, ⟨rfl, rfl, rfl, rfl, trivial⟩, trivial, rfl⟩, fun i ⟨hi, he⟩ => ?_⟩
 repeat' ((conv => whnf); first | exact zf | refine zg ?_ | intro _ | refine And.intro rfl ?_ | refine za ?_ | refine zl ?_ | fail)
 refine sp_intro (fun hlt => ?_) (fun hge => ?_)
 ·have hlt : i < l.length := by simpa using hlt
  obtain ⟨x, hx⟩ : ∃ x, l[i]? = some x := ⟨_, List.getElem?_eq_getElem hlt⟩
  repeat' ((conv => whnf); first | exact zf | refine zg ?_ | intro _ | refine And.intro rfl ?_ | refine za ?_ | refine zl ?_ | fail)
  refine ⟨encT x, ⟨by omega, by simp [hx], rfl⟩, ?_⟩
  repeat' ((conv => whnf); first | exact zf | refine zg ?_ | intro _ | refine And.intro rfl ?_ | refine ⟨_, more128 x n, ?_⟩ | refine (more128 x n).use ?_ | refine za ?_ | refine zl ?_ | fail)
  refine sp_intro (fun hyes => ?_) (fun hno => ?_)
  ·skip
   repeat' ((conv => whnf); first | exact zf | refine zg ?_ | intro _ | refine And.intro rfl ?_ | refine za ?_ | refine zl ?_ | fail)
   refine outs_eq (congrArg (fun x => V.d (.int .i64 x)) ?_)
   have := idx_take (p := fun t => decide (n < t.f)) he (fun y hy => by rw [hx] at hy; cases hy; exact hyes) hi
   simp only [idxR, this, hlt, if_true]
  ·skip
   repeat' ((conv => whnf); first | exact zf | refine zg ?_ | intro _ | refine And.intro rfl ?_ | refine za ?_ | refine zl ?_ | fail)
   refine ⟨i + 1, ⟨hlt, fun j y hj hy => ?_⟩, Nat.sub_lt_sub_left hlt (Nat.lt_succ_self i), ⟨rfl, rfl, rfl, rfl, trivial⟩, trivial, rfl⟩
   by_cases hji : j = i
   ·subst hji; rw [hx] at hy; cases hy; exact hno
   ·exact he j y (by omega) hy
 ·have hge : i = l.length := by
   have : ¬ i < l.length := by simpa using hge
   omega
  repeat' ((conv => whnf); first | exact zf | refine zg ?_ | intro _ | refine And.intro rfl ?_ | refine za ?_ | refine zl ?_ | fail)
  refine outs_eq (congrArg (fun x => V.d (.int .i64 x)) ?_)
  have := idx_take (p := fun t => decide (n < t.f)) he (fun y hy => by simp [hge] at hy) hi
  simp [idxR, this, hge]
end Go.Proofs.YtjpgfgajkjhonaaGreatDoor
namespace Go.Proofs.YtjpgfgajkjhonaaGreatDoor
open Go.Vx
def keep (n : Int) (l : List Tr) : List Tr := l.filter fun t => !(decide (n < t.f))
theorem keep_all {n : Int} : ∀ {l : List Tr}, idx (fun t => decide (n < t.f)) l = l.length → keep n l = l
 | [], _ => rfl
 | x :: l, h => by
  simp only [idx] at h
  cases hx : decide (n < x.f) with
  | true => rw [hx] at h; simp at h
  | false =>
   rw [hx] at h
   simp only [cond_false, List.length_cons, Nat.add_right_cancel_iff] at h
   have := keep_all h
   simp only [keep] at this ⊢
   rw [List.filter_cons_of_pos (by simp [hx]), this]
theorem keep_take {n : Int} : ∀ {l : List Tr}, keep n (l.take (idx (fun t => decide (n < t.f)) l)) = l.take (idx (fun t => decide (n < t.f)) l)
 | [] => rfl
 | x :: l => by
  simp only [idx]
  cases hx : decide (n < x.f) with
  | true => rfl
  | false =>
   simp only [cond_false, List.take_succ_cons]
   have := keep_take (n := n) (l := l)
   simp only [keep] at this ⊢
   rw [List.filter_cons_of_pos (by simp [hx]), this]
theorem idx_at {n : Int} : ∀ {l : List Tr} {x : Tr}, l[idx (fun t => decide (n < t.f)) l]? = some x → decide (n < x.f) = true
 | [], _, h => by simp at h
 | y :: l, x, h => by
  simp only [idx] at h
  cases hy : decide (n < y.f) with
  | true => rw [hy] at h; simp at h; subst h; exact hy
  | false => rw [hy] at h; exact idx_at (by simpa using h)
theorem keep_succ {n : Int} {l : List Tr} {j : Nat} {x : Tr} (h : l[j]? = some x) : keep n (l.take (j + 1)) = keep n (l.take j) ++ (bif decide (n < x.f) then [] else [x]) := by
 rw [List.take_add_one, h]
 simp only [keep, List.filter_append, Option.toList]
 cases hx : decide (n < x.f) <;> simp [hx]
theorem delete126 {K : Out → H → Prop} (l : List Tr) (n : Int) (hl : l.length < 1000000000) (hk : K (.ret (.d (.sl 3 ((keep n l).map encT)))) [.no, .cells [.d (.int .i64 n)]]) : Sat Tryz.prog 277 [.os 0, .fc 279 [.p 1 0]] [.rows 3 (l.map encT), .cells [.d (.int .i64 n)]] K := by
 refine s277 (keep := false) rfl ?_
 have hle := idx_le (fun t => decide (n < t.f)) l
 have hst := fun x => idx_at (n := n) (l := l) (x := x)
 repeat' ((conv => whnf); first | exact zf | refine zg ?_ | intro _ | refine And.intro rfl ?_ | refine za ?_ | refine zl ?_ | fail)
 refine .inl ⟨_, index156 l n, rfl, ?_⟩
 repeat' ((conv => whnf); first | exact zf | refine zg ?_ | intro _ | refine And.intro rfl ?_ | refine za ?_ | refine zl ?_ | fail)
 refine sp_intro (fun hno => ?_) (fun hyes => ?_)
 ·have hall : keep n l = l := by
   refine keep_all ?_
   by_cases h : idx (fun t => decide (n < t.f)) l < l.length
   ·simp [idxR, h] at hno
   ·omega
  repeat' ((conv => whnf); first | exact zf | refine zg ?_ | intro _ | refine And.intro rfl ?_ | refine za ?_ | refine zl ?_ | fail)
  rw [hall] at hk
  exact hk
 ·have hlt : idx (fun t => decide (n < t.f)) l < l.length := by
   by_cases h : idx (fun t => decide (n < t.f)) l < l.length
   ·exact h
   ·simp [idxR, h] at hyes
  have hix : idxR (fun t => decide (n < t.f)) l = (idx (fun t => decide (n < t.f)) l : Nat) := by simp [idxR, hlt]
  rw [hix]
  generalize hi0 : idx (fun t => decide (n < t.f)) l = i0 at *
  repeat' ((conv => whnf); first | exact zf | refine zg ?_ | intro _ | refine And.intro rfl ?_ | refine za ?_ | refine zl ?_ | fail)
  have hkt := keep_take (n := n) (l := l)
  rw [hi0] at hkt
  obtain ⟨x0, hx0⟩ : ∃ x, l[i0]? = some x := ⟨_, List.getElem?_eq_getElem hlt⟩
  refine lx_intro ⟨Nat × Nat × List Tr, fun (j, i, m) => m.length = l.length ∧ i < j ∧ j ≤ l.length ∧ m.take i = keep n (l.take j) ∧ m.drop j = l.drop j,
   fun (j, i, _) => [(0, .os 0), (1, .fc 279 [.p 1 0]), (5, .d (.int .i64 i)), (6, .d (.int .i64 j))], fun (_, _, m) => [.rows 3 (m.map encT), .cells [.d (.int .i64 n)]], fun (j, _, _) => l.length - j, (i0 + 1, i0, l),
   ⟨⟨rfl, by omega, hlt, by rw [keep_succ hx0, hkt, hst x0 hx0]; simp, rfl⟩, ⟨rfl, rfl, rfl, rfl, trivial⟩, ⟨rfl, .inl rfl, trivial⟩, rfl⟩, fun (j, i, m) ⟨h1, h2, h3, h4, h5⟩ => ?_⟩
  repeat' ((conv => whnf); first | exact zf | refine zg ?_ | intro _ | refine And.intro rfl ?_ | refine za ?_ | refine zl ?_ | fail)
  refine sp_intro (fun hlt => ?_) (fun hge => ?_)
  ·have hlt : j < m.length := by simpa using hlt
   obtain ⟨x, hx⟩ : ∃ x, l[j]? = some x := ⟨_, List.getElem?_eq_getElem (by omega)⟩
   have hmx : m[j]? = some x := by
    have := congrArg (fun l => l[0]?) h5
    simpa [List.getElem?_drop, hx] using this
   obtain ⟨y, hy⟩ : ∃ y, m[i]? = some y := ⟨_, List.getElem?_eq_getElem (by omega)⟩
   repeat' ((conv => whnf); first | exact zf | refine zg ?_ | intro _ | refine And.intro rfl ?_ | refine za ?_ | refine zl ?_ | fail)
   refine ⟨encT x, by simp [hmx], ?_⟩
   repeat' ((conv => whnf); first | exact zf | refine zg ?_ | intro _ | refine And.intro rfl ?_ | refine za ?_ | refine zl ?_ | fail)
   refine .inl ⟨_, more128 x n, rfl, ?_⟩
   repeat' ((conv => whnf); first | exact zf | refine zg ?_ | intro _ | refine And.intro rfl ?_ | refine za ?_ | refine zl ?_ | fail)
   refine sp_intro (fun hyes => ?_) (fun hno => ?_)
   ·skip
    repeat' ((conv => whnf); first | exact zf | refine zg ?_ | intro _ | refine And.intro rfl ?_ | refine za ?_ | refine zl ?_ | fail)
    refine ⟨encT y, by simp [hy], ⟨rfl, rfl, rfl⟩, ?_⟩
    repeat' ((conv => whnf); first | exact zf | refine zg ?_ | intro _ | refine And.intro rfl ?_ | refine za ?_ | refine zl ?_ | fail)
    refine ⟨(j + 1, i + 1, m.set i x), ⟨by simp [h1], by omega, by omega, ?_, ?_⟩, Nat.sub_lt_sub_left (by omega) (Nat.lt_succ_self j), ⟨rfl, rfl, rfl, rfl, trivial⟩, ⟨?_, .inl rfl, trivial⟩, rfl⟩
    ·rw [keep_succ hx, nt hyes, ← h4]
     simp only [cond_false]
     rw [List.take_add_one, List.take_set_of_le (Nat.le_refl _), List.getElem?_set_self (by omega)]
     rfl
    ·rw [List.drop_set_of_lt (by omega)]
     have := congrArg (List.drop 1) h5
     simpa [List.drop_drop] using this
    ·show B.rows 3 ((m.map encT).set i (encT x)) = B.rows 3 ((m.set i x).map encT)
     rw [List.map_set]
   ·skip
    repeat' ((conv => whnf); first | exact zf | refine zg ?_ | intro _ | refine And.intro rfl ?_ | refine za ?_ | refine zl ?_ | fail)
    refine ⟨(j + 1, i, m), ⟨h1, by omega, by omega, ?_, ?_⟩, Nat.sub_lt_sub_left (by omega) (Nat.lt_succ_self j), ⟨rfl, rfl, rfl, rfl, trivial⟩, ⟨rfl, .inl rfl, trivial⟩, rfl⟩
    ·rw [keep_succ hx, nf hno, h4]
     simp
    ·have := congrArg (List.drop 1) h5
     simpa [List.drop_drop] using this
  ·have hj : j = l.length := by
    have : ¬ j < m.length := by simpa using hge
    omega
   subst hj
   rw [List.take_length] at h4
   repeat' ((conv => whnf); first | exact zf | refine zg ?_ | intro _ | refine And.intro rfl ?_ | refine za ?_ | refine zl ?_ | fail)
   show K (.ret (.d (.sl 3 (List.drop 0 (List.take i (List.take i (m.map encT) ++ List.replicate ((m.map encT).length - i) [.int .i64 0, .int .i64 0, .int .i64 0])))))) [.no, .cells [.d (.int .i64 n)]]
   have e : List.drop 0 (List.take i (List.take i (m.map encT) ++ List.replicate ((m.map encT).length - i) [D.int .i64 0, .int .i64 0, .int .i64 0])) = (keep n l).map encT := by
    rw [List.drop_zero, List.take_append_of_le_length (by simp; omega), List.take_take, Nat.min_self, ← List.map_take, h4]
   rw [e]
   exact hk
end Go.Proofs.YtjpgfgajkjhonaaGreatDoor
namespace Go.Proofs.YtjpgfgajkjhonaaGreatDoor
open Go.Vx
def num (n : Int) : Va := ⟨1, n, [], [], []⟩
def tryOk (c : Co) (t : Tr) : Bool := decide (1 ≤ t.f) && (decide (t.f ≤ c.fr.length) && (decide (0 ≤ t.h) && decide (t.h ≤ c.st.length)))
def setPC (l : List Fr) (i : Nat) (pc : Int) : List Fr := match l[i]? with
 | some f => l.set i { f with pc := pc }
 | none => l
def throwC (c : Co) (t : Tr) (code : Int) : Co := ⟨setPC (cutn c.fr t.f) (t.f - 1).toNat t.a, cutn c.st t.h ++ [num code], cutn c.tr (c.tr.length - 1)⟩
def throwR (c : Co) (code kp : Int) : V :=
 bif decide ((c.tr.length : Int) - 1 < max kp 0) then .tu [agC c, .d (.bool false)] else
 match c.tr.getLast? with
 | none => .tu [agC c, .d (.bool false)]
 | some t => bif tryOk c t then .tu [agC (throwC c t code), .d (.bool true)] else .tu [agC c, .d (.bool false)]
theorem throw75 (c : Co) (code kp : Int) (hf : c.fr.length < 1000000000) (hs : c.st.length < 1000000000) : SatP Tryz.prog 168 [agC c, .d (.int .i64 code), .d (.int .i64 kp)] (throwR c code kp) := by
 cases hkp : decide ((c.tr.length : Int) - 1 < max kp 0) with
 | true =>
  have hr : throwR c code kp = .tu [agC c, .d (.bool false)] := by simp only [throwR, hkp, cond_true]
  have hkp' : decide (((c.tr.map encT).length : Int) - 1 < max kp 0) = true := by simpa using hkp
  rw [hr]
  refine s168 (keep := false) rfl ?_
  repeat' ((conv => whnf); first | exact zf | refine zg ?_ | intro _ | refine And.intro rfl ?_ | refine za ?_ | refine zl ?_ | fail)
  refine sp_intro (fun hkp2 => ?_) (fun hkp2 => by rw [hkp'] at hkp2; cases hkp2)
  repeat' ((conv => whnf); first | exact zf | refine zg ?_ | intro _ | refine And.intro rfl ?_ | refine za ?_ | refine zl ?_ | fail)
 | false =>
  have hkp' : decide (((c.tr.map encT).length : Int) - 1 < max kp 0) = false := by simpa using hkp
  have hpos : 0 < c.tr.length := by simp at hkp; omega
  obtain ⟨t, ht⟩ : ∃ t, c.tr[c.tr.length - 1]? = some t := ⟨_, List.getElem?_eq_getElem (by omega)⟩
  have htl : c.tr.getLast? = some t := by rw [List.getLast?_eq_getElem?]; exact ht
  cases hy : tryOk c t with
  | false =>
   have hr : throwR c code kp = .tu [agC c, .d (.bool false)] := by simp only [throwR, hkp, htl, hy, cond_false]
   rw [hr]
   refine s168 (keep := false) rfl ?_
   repeat' ((conv => whnf); first | exact zf | refine zg ?_ | intro _ | refine And.intro rfl ?_ | refine za ?_ | refine zl ?_ | fail)
   refine sp_intro (fun hkp2 => by rw [hkp'] at hkp2; cases hkp2) (fun hkp2 => ?_)
   repeat' ((conv => whnf); first | exact zf | refine zg ?_ | intro _ | refine And.intro rfl ?_ | refine za ?_ | refine zl ?_ | fail)
   refine ⟨encT t, ⟨by simp; omega, by simp [ht], rfl⟩, ?_⟩
   repeat' ((conv => whnf); first | exact zf | refine zg ?_ | intro _ | refine And.intro rfl ?_ | refine clone73 _ (by simp at *; omega) ?_ | refine za ?_ | refine zl ?_ | refine sp_intro (fun hb => ?_) (fun hb => ?_) | fail)
   exfalso
   simp [tryOk] at *
   omega
  | true =>
   have hr : throwR c code kp = .tu [agC (throwC c t code), .d (.bool true)] := by simp only [throwR, hkp, htl, hy, cond_false, cond_true]
   rw [hr]
   have h1 : 1 ≤ t.f ∧ t.f ≤ c.fr.length ∧ 0 ≤ t.h ∧ t.h ≤ c.st.length := by
    simp [tryOk] at hy; omega
   obtain ⟨f, hf⟩ : ∃ f, c.fr[(t.f - 1).toNat]? = some f := ⟨_, List.getElem?_eq_getElem (by omega)⟩
   have hrow : (List.take (min (max t.f 0) (List.map encF c.fr).length).toNat (List.map encF c.fr))[(t.f - 1).toNat]? = some (encF f) := by
    rw [List.getElem?_take, if_pos (by simp; omega), List.getElem?_map, hf]
    rfl
   have hfc : (cutn c.fr t.f)[(t.f - 1).toNat]? = some f := by
    unfold cutn
    rw [List.getElem?_take, if_pos (by omega), hf]
   have hst : setPC (cutn c.fr t.f) (t.f - 1).toNat t.a = (cutn c.fr t.f).set (t.f - 1).toNat { f with pc := t.a } := by simp only [setPC, hfc]
   refine s168 (keep := false) rfl ?_
   repeat' ((conv => whnf); first | exact zf | refine zg ?_ | intro _ | refine And.intro rfl ?_ | refine za ?_ | refine zl ?_ | fail)
   refine sp_intro (fun hkp2 => by rw [hkp'] at hkp2; cases hkp2) (fun hkp2 => ?_)
   repeat' ((conv => whnf); first | exact zf | refine zg ?_ | intro _ | refine And.intro rfl ?_ | refine za ?_ | refine zl ?_ | fail)
   refine ⟨encT t, ⟨by simp; omega, by simp [ht], rfl⟩, ?_⟩
   repeat' ((conv => whnf); first | exact zf | refine zg ?_ | intro _ | refine And.intro rfl ?_ | refine za ?_ | refine zl ?_ | fail)
   refine sp_intro (fun hb => absurd hb (by simp; omega)) (fun hb => ?_)
   repeat' ((conv => whnf); first | exact zf | refine zg ?_ | intro _ | refine And.intro rfl ?_ | refine za ?_ | refine zl ?_ | fail)
   refine sp_intro (fun hb => absurd hb (by simp; omega)) (fun hb => ?_)
   repeat' ((conv => whnf); first | exact zf | refine zg ?_ | intro _ | refine And.intro rfl ?_ | refine za ?_ | refine zl ?_ | fail)
   refine sp_intro (fun hb => absurd hb (by simp; omega)) (fun hb => ?_)
   repeat' ((conv => whnf); first | exact zf | refine zg ?_ | intro _ | refine And.intro rfl ?_ | refine za ?_ | refine zl ?_ | fail)
   refine sp_intro (fun hb => absurd hb (by simp; omega)) (fun hb => ?_)
   repeat' ((conv => whnf); first | exact zf | refine zg ?_ | intro _ | refine And.intro rfl ?_ | refine clone73 _ (by simp at *; omega) ?_ | refine ⟨_, cut92 _ _, ?_⟩ | refine (cut92 _ _).use ?_ | refine za ?_ | refine zl ?_ | fail)
   refine ⟨encF f, hrow, ⟨rfl, rfl, rfl⟩, ?_⟩
   repeat' ((conv => whnf); first | exact zf | refine zg ?_ | intro _ | refine And.intro rfl ?_ | refine ⟨_, cut90 _ _, ?_⟩ | refine (cut90 _ _).use ?_ | refine ⟨_, add91 _ _ _ _ _ _ (by simp; omega), ?_⟩ | refine (add91 _ _ _ _ _ _ (by simp; omega)).use ?_ | refine ⟨_, cut113 _ _, ?_⟩ | refine (cut113 _ _).use ?_ | refine za ?_ | refine zl ?_ | fail)
   show Out.ret (V.tu [V.ag [V.d (.sl 5 ((cutn (c.fr.map encF) t.f).set (t.f - 1).toNat (encF { f with pc := t.a }))), V.d (.sl 5 (cutn (c.st.map encV) t.h ++ [encV (num code)])), V.d (.sl 3 (cutn (c.tr.map encT) ((c.tr.map encT).length - 1)))], V.d (.bool true)]) = _
   rw [cutn_map, cutn_map, cutn_map]
   simp only [agC, throwC, hst, List.map_set, List.map_append, List.map_cons, List.map_nil, List.length_map]
def retOk (c : Co) : Bool := popOk c 1 && decide (0 < c.fr.length)
def zeroV : Va := ⟨0, 0, [], [], []⟩
def retC (c : Co) : Co := ⟨cutn c.fr (c.fr.length - 1), cutn c.st (base c), keep (c.fr.length - 1) c.tr⟩
def retV (c : Co) : Va := ((popL c 1)[0]?).getD zeroV
def retR (c : Co) : V := bif retOk c then .tu [agC (retC c), agV (retV c), .d (.bool true)] else .tu [agC c, agV zeroV, .d (.bool false)]
theorem ret102 (c : Co) (hf : c.fr.length < 1000000000) (hs : c.st.length < 1000000000) (ht : c.tr.length < 1000000000) : SatP Tryz.prog 223 [agC c] (retR c) := by
 refine s223 (keep := false) rfl ?_
 cases hp : popOk c 1 with
 | false =>
  have hr : popR c 1 = .tu [agC c, .d (.sl 5 []), .d (.bool false)] := popR_no hp
  have hpop := pop46 c 1 hs
  rw [hr] at hpop
  repeat' ((conv => whnf); first | exact zf | refine zg ?_ | intro _ | refine And.intro rfl ?_ | refine ⟨_, hpop, ?_⟩ | refine (hpop).use ?_ | refine za ?_ | refine zl ?_ | fail)
  simp only [retR, retOk, hp, Bool.false_and, cond_false]
  rfl
 | true =>
  have hr : popR c 1 = .tu [agC (popC c 1), .d (.sl 5 ((popL c 1).map encV)), .d (.bool true)] := popR_yes hp
  have hpop := pop46 c 1 hs
  rw [hr] at hpop
  repeat' ((conv => whnf); first | exact zf | refine zg ?_ | intro _ | refine And.intro rfl ?_ | refine ⟨_, hpop, ?_⟩ | refine (hpop).use ?_ | refine za ?_ | refine zl ?_ | fail)
  refine sp_intro (fun hz => ?_) (fun hz => ?_)
  ·have hz : c.fr.length = 0 := by simpa using hz
   have hy : retOk c = false := by simp [retOk, hz]
   repeat' ((conv => whnf); first | exact zf | refine zg ?_ | intro _ | refine And.intro rfl ?_ | refine za ?_ | refine zl ?_ | fail)
   simp only [retR, hy, cond_false]
   rfl
  ·have hz : 0 < c.fr.length := by
    have : ¬ c.fr.length = 0 := by simpa using hz
    omega
   have hy : retOk c = true := by simp [retOk, hz, hp]
   simp only [retR, hy, cond_true]
   obtain ⟨f, hf1⟩ : ∃ f, c.fr[c.fr.length - 1]? = some f := ⟨_, List.getElem?_eq_getElem (by omega)⟩
   have hb : base c = f.ba := by simp [base, List.getLast?_eq_getElem?, hf1]
   repeat' ((conv => whnf); first | exact zf | refine zg ?_ | intro _ | refine And.intro rfl ?_ | refine za ?_ | refine zl ?_ | fail)
   refine ⟨encF f, ⟨by simp; omega, by simp [hf1], rfl⟩, ?_⟩
   repeat' ((conv => whnf); first | exact zf | refine zg ?_ | intro _ | refine And.intro rfl ?_ | refine ⟨_, cut90 _ _, ?_⟩ | refine (cut90 _ _).use ?_ | refine ⟨_, cut92 _ _, ?_⟩ | refine (cut92 _ _).use ?_ | refine clone127 _ (by simp; omega) ?_ | refine delete126 _ _ ht ?_ | refine za ?_ | refine zl ?_ | fail)
   obtain ⟨v, hv⟩ : ∃ v, (popL c 1)[0]? = some v := by
    refine ⟨_, List.getElem?_eq_getElem ?_⟩
    simp [popL, popOk] at *
    omega
   refine ⟨encV v, ⟨by omega, by simp [hv], rfl⟩, ?_⟩
   repeat' ((conv => whnf); first | exact zf | refine zg ?_ | intro _ | refine And.intro rfl ?_ | refine za ?_ | refine zl ?_ | fail)
   refine Eq.trans (show _ = Out.ret (V.tu [V.ag [V.d (.sl 5 _), V.d (.sl 5 _), V.d (.sl 3 _)], V.ag [V.d _, V.d _, V.d _, V.d _, V.d _], V.d (.bool true)]) from rfl) ?_
   show Out.ret (V.tu [V.ag [V.d (.sl 5 (cutn (c.fr.map encF) ((c.fr.map encF).length - 1))), V.d (.sl 5 (cutn (c.st.map encV) f.ba)), V.d (.sl 3 ((keep ((c.fr.map encF).length - 1) c.tr).map encT))], agV v, V.d (.bool true)]) = _
   rw [cutn_map, cutn_map]
   simp only [agC, retC, retV, hv, hb, List.length_map, Option.getD_some]
def zeros (n : Nat) : List Va := List.replicate n (num 0)
def enterOk (c : Co) : Bool := decide (c.fr.length < 16)
def enterC (c : Co) (fn vs : Int) (l : List Va) (ma : Int) : Co := ⟨c.fr ++ [⟨fn, 0, c.st.length, ma, l ++ zeros (min (max vs 0) 16).toNat⟩], c.st, c.tr⟩
def enterR (c : Co) (fn vs : Int) (l : List Va) (ma : Int) : V := bif enterOk c then .tu [agC (enterC c fn vs l ma), .d (.bool true)] else .tu [agC c, .d (.bool false)]
theorem enter24 (c : Co) (fn vs : Int) (l : List Va) (ma : Int) (hf : c.fr.length < 1000000000) (ha : l.length < 1000000000) : SatP Tryz.prog 20 [agC c, .d (.int .i64 fn), .d (.int .i64 vs), .d (.sl 5 (l.map encV)), .d (.int .u8 ma)] (enterR c fn vs l ma) := by
 refine s20 (keep := false) rfl ?_
 repeat' ((conv => whnf); first | exact zf | refine zg ?_ | intro _ | refine And.intro rfl ?_ | refine za ?_ | refine zl ?_ | fail)
 refine sp_intro (fun hno => ?_) (fun hyes => ?_)
 ·have hno : 16 ≤ (c.fr.length : Int) := by simpa using hno
  repeat' ((conv => whnf); first | exact zf | refine zg ?_ | intro _ | refine And.intro rfl ?_ | refine za ?_ | refine zl ?_ | fail)
  have hy : enterOk c = false := by simp [enterOk]; omega
  simp only [enterR, hy, cond_false]
  rfl
 ·have hyes : (c.fr.length : Int) < 16 := by simpa using hyes
  have hy : enterOk c = true := by simp [enterOk]; omega
  have hr : enterR c fn vs l ma = .tu [agC (enterC c fn vs l ma), .d (.bool true)] := by simp only [enterR, hy, cond_true]
  rw [hr]
  repeat' ((conv => whnf); first | exact zf | refine zg ?_ | intro _ | refine And.intro rfl ?_ | refine clone49 _ (by simp; omega) ?_ | refine za ?_ | refine zl ?_ | fail)
  conv => whnf
  refine loop_use [12, 18, 19, 23, 24, 25, 26, 27, 28, 29] (fun p : Nat × List Va => p.1 ≤ (min (max vs 0) 16).toNat ∧ p.2 = l ++ zeros p.1) (fun p => [(12, .os 2), (23, .d (.int .i64 p.1))]) (fun p => [.cells [.d (.sl 5 (c.fr.map encF)), .d (.sl 5 (c.st.map encV)), .d (.sl 3 (c.tr.map encT))], .cells [.nl 5, .nl 5, .nl 3], .rows 5 (p.2.map encV)]) (fun p => (min (max vs 0) 16).toNat - p.1) (0, l) ⟨Nat.zero_le _, by simp [zeros]⟩ ?_ ?_ ?_ (fun ⟨i, r⟩ ⟨hi, hr⟩ => ?_)
  ·exact (by repeat' (first | exact trivial | exact rfl | exact Or.inl rfl | refine And.intro ?_ ?_ | refine Or.inr ?_))
  ·exact (by repeat' (first | exact trivial | exact rfl | exact Or.inl rfl | refine And.intro ?_ ?_ | refine Or.inr ?_))
  ·exact rfl
  repeat' ((conv => whnf); first | exact zf | refine zg ?_ | intro _ | refine And.intro rfl ?_ | refine za ?_ | refine zl ?_ | fail)
  refine sp_intro (fun hlt => ?_) (fun hge => ?_)
  ·have hlt : i < (min (max vs 0) 16).toNat := by simp at hlt; omega
   have hrl : r.length < 1000000100 := by simp at hr; simp [hr, zeros]; omega
   repeat' ((conv => whnf); first | exact zf | refine zg ?_ | intro _ | refine And.intro rfl ?_ | refine za ?_ | refine zl ?_ | fail)
   refine ⟨(i + 1, r ++ [num 0]), ⟨hlt, ?_⟩, Nat.sub_lt_sub_left hlt (Nat.lt_succ_self i), (by repeat' (first | exact trivial | exact rfl | exact Or.inl rfl | refine And.intro ?_ ?_ | refine Or.inr ?_)), ?_, rfl⟩
   ·simp at hr
    simp [hr, zeros, List.replicate_succ']
   ·refine ⟨.inl rfl, .inl rfl, ?_, trivial⟩
    simp [encV, num]
    rfl
  ·have hge : i = (min (max vs 0) 16).toNat := by simp at hge hi; omega
   repeat' ((conv => whnf); first | exact zf | refine zg ?_ | intro _ | refine And.intro rfl ?_ | refine za ?_ | refine zl ?_ | fail)
   conv => whnf
   refine .inr ?_
   repeat' ((conv => whnf); first | exact zf | refine zg ?_ | intro _ | refine And.intro rfl ?_ | refine ⟨_, add50 _ _ _ _ _ _ (by simp; omega), ?_⟩ | refine (add50 _ _ _ _ _ _ (by simp; omega)).use ?_ | refine za ?_ | refine zl ?_ | fail)
   show Out.ret (V.tu [V.ag [V.d (.sl 5 (c.fr.map encF ++ [[.int .i64 fn, .int .i64 0, .int .i64 (c.st.map encV).length, .int .u8 ma, .sl 5 (r.map encV)]])), V.d (.sl 5 (c.st.map encV)), V.d (.sl 3 (c.tr.map encT))], V.d (.bool true)]) = _
   simp at hr
   simp [agC, enterC, encF, hr, hge]
end Go.Proofs.YtjpgfgajkjhonaaGreatDoor
namespace Go.Proofs.YtjpgfgajkjhonaaGreatDoor
open Go.Vx
set_option maxRecDepth 100000
structure Sc where
 nm : List UInt8
 l : Lb
 un : Int
 fr : Int
 he : Int
 tr : Int
 g : Gs
 pa : List UInt8
 ma : Int
 ro : Int
def encSc (s : Sc) : List D := [.str s.nm, .str s.l.s, .str s.l.i, .int .i64 s.un, .int .i64 s.fr, .int .i64 s.he, .int .i64 s.tr, .str s.g.cur.s, .str s.g.cur.i, .str s.g.clr.s, .str s.g.clr.i, .str s.pa, .int .i64 s.ma, .int .i64 s.ro]
def agSc (s : Sc) : V := .ag ((encSc s).map .d)
structure Th where
 id : List UInt8
 pa : List UInt8
 g : Gs
 c : Co
 sc : List Sc
 ma : Int
 ro : Int
 st : Int
 on : List UInt8
 v : Va
 ex : Bool
def cellsTh (t : Th) : List D := [.str t.id, .str t.pa, .str t.g.cur.s, .str t.g.cur.i, .str t.g.clr.s, .str t.g.clr.i, .sl 5 (t.c.fr.map encF), .sl 5 (t.c.st.map encV), .sl 3 (t.c.tr.map encT), .sl 14 (t.sc.map encSc), .int .i64 t.ma, .int .i64 t.ro, .int .i64 t.st, .str t.on,
 .int .i64 t.v.k, .int .i64 t.v.n, .str t.v.nm, .str t.v.ls, .str t.v.li, .bool t.ex]
def agTh (t : Th) : V := .ag ((cellsTh t).map .d)
def noV : Va := ⟨0, 0, [], [], []⟩
def noL : Lb := ⟨[], []⟩
def noG : Gs := ⟨noL, noL⟩
def noSc : Sc := ⟨[], noL, 0, 0, 0, 0, noG, [], 0, 0⟩
def newTh (id : List UInt8) (g : Gs) (c : Co) (ro : Int) : Th := ⟨id, id, g, c, [], 0, ro, 0, [], noV, false⟩
theorem new22 (id : List UInt8) (g : Gs) (c : Co) (ro : Int) : SatP Tryz.prog 22 [.d (.str id), agG g, agC c, .d (.int .i64 ro)] (agTh (newTh id g c ro)) := by
 refine s22 (keep := false) rfl ?_
 repeat' ((conv => whnf); first | exact zf | refine zg ?_ | intro _ | refine And.intro rfl ?_ | refine za ?_ | refine zl ?_ | fail)
def agLad (t : Th) : V := .ag [.d (.sl 14 (t.sc.map encSc)), .d (.str t.g.cur.s), .d (.str t.g.cur.i)]
theorem parts40 (t : Th) : SatP Tryz.prog 40 [agTh t] (agLad t) := by
 refine s40 (keep := false) rfl ?_
 repeat' ((conv => whnf); first | exact zf | refine zg ?_ | intro _ | refine And.intro rfl ?_ | refine za ?_ | refine zl ?_ | fail)
def innerT (t : Th) : Sc := t.sc.getLast?.getD noSc
theorem inner104 (t : Th) : SatP Tryz.prog 104 [agLad t] (.tu [agSc (innerT t), .d (.bool (!t.sc.isEmpty))]) := by
 have hl : (t.sc.map encSc).length = t.sc.length := List.length_map _
 cases hs : t.sc.getLast? with
 | none =>
  have h0 : t.sc = [] := List.getLast?_eq_none_iff.1 hs
  unfold innerT agLad
  rw [hs, h0]
  refine s104 (keep := false) rfl ?_
  repeat' ((conv => whnf); first | exact zf | refine zg ?_ | intro _ | refine And.intro rfl ?_ | refine za ?_ | refine zl ?_ | refine zt ?_ | refine zu ?_ | fail)
 | some s =>
  have hne : t.sc ≠ [] := by intro h; rw [h] at hs; cases hs
  have hpos : 0 < t.sc.length := List.length_pos_iff.2 hne
  have hem : t.sc.isEmpty = false := by rw [List.isEmpty_eq_false_iff]; exact hne
  have hget : (t.sc.map encSc)[t.sc.length - 1]? = some (encSc s) := by
   rw [List.getElem?_map, ← List.getLast?_eq_getElem?, hs]
   rfl
  unfold innerT
  rw [hs, hem]
  refine s104 (keep := false) rfl ?_
  have hn : (((t.sc.map encSc).length : Int) - 1).toNat = t.sc.length - 1 := by omega
  repeat' ((conv => whnf); first | exact zf | refine zg ?_ | intro _ | refine And.intro rfl ?_ | refine (.inl ⟨by unfold inR; omega, ?_⟩) | refine ⟨encSc s, ⟨by omega, by rw [hn]; exact hget, rfl⟩, ?_⟩ | refine za ?_ | refine zl ?_ | refine zt ?_ | refine zu ?_ | fail)
theorem floor70 (t : Th) : SatP Tryz.prog 70 [agTh t] (.tu [.d (.int .i64 (innerT t).fr), .d (.int .i64 (innerT t).tr)]) := by
 have h1 := parts40 t
 have h2 := inner104 t
 refine s70 (keep := false) rfl ?_
 repeat' ((conv => whnf); first | exact zf | refine zg ?_ | intro _ | refine And.intro rfl ?_ | refine ⟨_, h1, ?_⟩ | refine (h1).use ?_ | refine ⟨_, h2, ?_⟩ | refine (h2).use ?_ | refine za ?_ | refine zl ?_ | fail)
def dueI (now : Int) : List Sc → Nat
 | [] => 0
 | s :: r => bif decide (s.un ≤ now) then 0 else dueI now r + 1
def dueT (t : Th) (now : Int) : Int := if dueI now t.sc < t.sc.length then dueI now t.sc else -1
theorem dueI_skip {now : Int} : ∀ {l : List Sc} {i : Nat}, (∀ s ∈ l.take i, ¬ s.un ≤ now) → i ≤ l.length → dueI now l = i + dueI now (l.drop i)
 | l, 0, _, _ => by simp
 | [], i + 1, _, h => by simp at h
 | s :: l, i + 1, h, hi => by
  rw [dueI, decide_eq_false (h s (by simp)), cond_false, List.drop_succ_cons, dueI_skip (i := i) (fun x hx => h x (by rw [List.take_succ_cons]; exact List.mem_cons_of_mem _ hx)) (by simpa using hi)]
  omega
theorem due41 (t : Th) (now : Int) : SatP Tryz.prog 41 [agLad t, .d (.int .i64 now)] (.d (.int .i64 (dueT t now))) := by
 have hl : (t.sc.map encSc).length = t.sc.length := List.length_map _
 refine s41 (keep := false) rfl ?_
 repeat' ((conv => whnf); first | exact zf | refine zg ?_ | intro _ | refine And.intro rfl ?_ | refine za ?_ | refine zl ?_ | fail)
 conv => whnf
 refine loop_use2 [(1, .d (.int .i64 now)), (8, .d (.sl 14 (t.sc.map encSc))), (9, .d (.int .i64 (t.sc.map encSc).length))] (fun i : Nat => i ≤ t.sc.length ∧ ∀ s ∈ t.sc.take i, ¬ s.un ≤ now) (fun i => [(10, .d (.int .i64 i))]) (fun _ => []) (fun i => t.sc.length - i) 0 ⟨Nat.zero_le _, fun _ h => nomatch h⟩ ?_ ?_ ?_ (fun i hi => ?_)
 ·exact (by repeat' (first | exact trivial | exact rfl | exact Or.inl rfl | refine And.intro ?_ ?_ | refine Or.inr ?_))
 ·exact (by repeat' (first | exact trivial | exact rfl | exact Or.inl rfl | refine And.intro ?_ ?_ | refine Or.inr ?_))
 ·exact rfl
 repeat' ((conv => whnf); first | exact zf | refine zg ?_ | intro _ | refine And.intro rfl ?_ | refine za ?_ | refine zl ?_ | fail)
 refine sp_intro (fun hlt => ?_) (fun hge => ?_)
 ·have hlt : i < t.sc.length := by rw [← hl]; simpa using hlt
  obtain ⟨s, hs⟩ : ∃ s, t.sc[i]? = some s := ⟨_, List.getElem?_eq_getElem hlt⟩
  have htk : t.sc.take (i + 1) = t.sc.take i ++ [s] := by rw [List.take_add_one, hs]; rfl
  have hdr : t.sc.drop i = s :: t.sc.drop (i + 1) := by
   rw [List.drop_eq_getElem_cons hlt]
   rw [List.getElem?_eq_getElem hlt] at hs
   rw [Option.some.inj hs]
  have hk := dueI_skip hi.2 hi.1
  rw [hdr, dueI] at hk
  repeat' ((conv => whnf); first | exact zf | refine zg ?_ | intro _ | refine And.intro rfl ?_ | refine za ?_ | refine zl ?_ | fail)
  refine ⟨encSc s, ⟨by omega, by simp [hs], rfl⟩, ?_⟩
  repeat' ((conv => whnf); first | exact zf | refine zg ?_ | intro _ | refine And.intro rfl ?_ | refine za ?_ | refine zl ?_ | fail)
  refine sp_intro (fun hy => ?_) (fun hn => ?_)
  ·skip
   repeat' ((conv => whnf); first | exact zf | refine zg ?_ | intro _ | refine And.intro rfl ?_ | refine za ?_ | refine zl ?_ | fail)
   refine outs_eq (congrArg (fun x => V.d (D.int .i64 x)) ?_)
   rw [show decide (s.un ≤ now) = true from hy, cond_true] at hk
   unfold dueT
   rw [hk, if_pos (by omega)]
   simp
  ·skip
   repeat' ((conv => whnf); first | exact zf | refine zg ?_ | intro _ | refine And.intro rfl ?_ | refine za ?_ | refine zl ?_ | fail)
   refine ⟨i + 1, ⟨hlt, ?_⟩, Nat.sub_lt_sub_left hlt (Nat.lt_succ_self i), (by repeat' (first | exact trivial | exact rfl | exact Or.inl rfl | refine And.intro ?_ ?_ | refine Or.inr ?_)), (by repeat' (first | exact trivial | exact rfl | exact Or.inl rfl | refine And.intro ?_ ?_ | refine Or.inr ?_)), rfl⟩
   rw [htk]
   intro x hx
   exact (List.mem_append.1 hx).elim (hi.2 x) fun h => by rw [List.mem_singleton.1 h]; exact of_decide_eq_false hn
 ·have hge : i = t.sc.length := by
   have : ¬ i < t.sc.length := by rw [← hl]; simpa using hge
   omega
  have hk := dueI_skip hi.2 hi.1
  rw [hge, List.drop_length] at hk
  have : dueT t now = -1 := by unfold dueT; rw [hk, if_neg (by simp [dueI])]
  rw [this]
  repeat' ((conv => whnf); first | exact zf | refine zg ?_ | intro _ | refine And.intro rfl ?_ | refine za ?_ | refine zl ?_ | fail)
theorem due11 (t : Th) (now : Int) : SatP Tryz.prog 11 [agTh t, .d (.int .i64 now)] (.d (.int .i64 (dueT t now))) := by
 have h1 := parts40 t
 have h2 := due41 t now
 refine s11 (keep := false) rfl ?_
 repeat' ((conv => whnf); first | exact zf | refine zg ?_ | intro _ | refine And.intro rfl ?_ | refine ⟨_, h1, ?_⟩ | refine (h1).use ?_ | refine ⟨_, h2, ?_⟩ | refine (h2).use ?_ | refine za ?_ | refine zl ?_ | fail)
def finishT (t : Th) (v : Va) (ex : Bool) : Th := { t with st := bif !t.sc.isEmpty then 2 else bif ex then 4 else 3, v := v, ex := ex, on := [] }
theorem finish110 (t : Th) (v : Va) (ex : Bool) : SatP Tryz.prog 110 [agTh t, agV v, .d (.bool ex)] (agTh (finishT t v ex)) := by
 have hl : (t.sc.map encSc).length = t.sc.length := List.length_map _
 unfold finishT
 cases he : t.sc.isEmpty with
 | true =>
  have h0 : t.sc = [] := List.isEmpty_iff.1 he
  cases ex <;> refine s110 (keep := false) rfl ?_
  ·skip
   repeat' ((conv => whnf); first | exact zf | refine zg ?_ | intro _ | refine And.intro rfl ?_ | refine za ?_ | refine zl ?_ | refine zt ?_ | refine zu ?_ | fail)
  ·skip
   repeat' ((conv => whnf); first | exact zf | refine zg ?_ | intro _ | refine And.intro rfl ?_ | refine za ?_ | refine zl ?_ | refine zt ?_ | refine zu ?_ | fail)
 | false =>
  have hpos : 0 < t.sc.length := List.length_pos_iff.2 (by simpa using he)
  refine s110 (keep := false) rfl ?_
  repeat' ((conv => whnf); first | exact zf | refine zg ?_ | intro _ | refine And.intro rfl ?_ | refine za ?_ | refine zl ?_ | refine zt ?_ | refine zu ?_ | fail)
structure Wt where
 id : List UInt8
 put : Bool
 v : Va
def encWt (x : Wt) : List D := [.str x.id, .bool x.put, .int .i64 x.v.k, .int .i64 x.v.n, .str x.v.nm, .str x.v.ls, .str x.v.li]
structure Vr where
 full : Bool
 v : Va
 q : List Wt
structure Ob where
 k : Int
 l : Lb
 v : Va
 ex : Bool
 dn : Bool
 va : Vr
 fu : Int
 ma : Int
def cellsOb (o : Ob) : List D := [.int .i64 o.k, .str o.l.s, .str o.l.i, .int .i64 o.v.k, .int .i64 o.v.n, .str o.v.nm, .str o.v.ls, .str o.v.li, .bool o.ex, .bool o.dn, .bool o.va.full,
 .int .i64 o.va.v.k, .int .i64 o.va.v.n, .str o.va.v.nm, .str o.va.v.ls, .str o.va.v.li, .sl 7 (o.va.q.map encWt), .int .i64 o.fu, .int .u8 o.ma]
def agOb (o : Ob) : V := .ag ((cellsOb o).map .d)
def noVr : Vr := ⟨false, noV, []⟩
def noOb : Ob := ⟨0, noL, noV, false, false, noVr, 0, 0⟩
def nameU (t : Th) : Th := { t with ma := t.ma + 1, ro := t.ro - 1 }
theorem name292 (t : Th) (l : List Nat) (n : Nat) (hp : t.pa = txt l) (hm : t.ma = n) (h0 : l ≠ []) (hl : l.length < 24) (hs : ∀ n ∈ l, n < 100) (hn : n < 100) (hr : 1 ≤ t.ro) (hr2 : t.ro < 1000000000) :
  SatP Tryz.prog 292 [agTh t] (.tu [agTh (nameU t), .d (.str (txt (l ++ [n]))), .d (.bool true)]) := by
 have h1 := child324 l n h0 hl hs hn
 rw [← hp, ← hm] at h1
 refine s292 (keep := false) rfl ?_
 repeat' ((conv => whnf); first | exact zf | refine zg ?_ | intro _ | refine And.intro rfl ?_ | refine ⟨_, h1, ?_⟩ | refine (h1).use ?_ | refine (.inl ⟨by unfold inR; omega, ?_⟩) | refine za ?_ | refine zl ?_ | refine zt ?_ | refine zu ?_ | fail)
theorem name292n (t : Th) (hr : t.ro < 1) : SatP Tryz.prog 292 [agTh t] (.tu [agTh t, .d (.str []), .d (.bool false)]) := by
 refine s292 (keep := false) rfl ?_
 repeat' ((conv => whnf); first | exact zf | refine zg ?_ | intro _ | refine And.intro rfl ?_ | refine za ?_ | refine zl ?_ | refine zt ?_ | refine zu ?_ | fail)
theorem clip49 (l : List (List D)) : SatP Tryz.prog 49 [.d (.sl 5 l)] (.cl 5 l) := by
 refine s49 (keep := false) rfl ?_
 repeat' ((conv => whnf); first | exact zf | refine zg ?_ | intro _ | refine And.intro rfl ?_ | refine za ?_ | refine zl ?_ | fail)
 exact outs_eq (congrArg (V.cl 5) (by show List.drop 0 (List.take ((l.length : Int)).toNat l) = l; simp))
def wakeT (t : Th) (l : List Va) : Th := { t with st := 0, on := [], c := ⟨t.c.fr, t.c.st ++ l, t.c.tr⟩ }
theorem wake15 (t : Th) (l : List Va) (hl : l.length < 1000000000) (hs : t.c.st.length < 1000000000) : SatP Tryz.prog 15 [agTh t, .d (.sl 5 (l.map encV))] (agTh (wakeT t l)) := by
 have h1 := clip49 (t.c.st.map encV)
 have e1 : (t.c.st.map encV).length = t.c.st.length := List.length_map _
 have e2 : (l.map encV).length = l.length := List.length_map _
 have e3 : (t.c.st ++ l).map encV = t.c.st.map encV ++ l.map encV := List.map_append
 unfold wakeT agTh cellsTh
 simp only [e3]
 refine s15 (keep := false) rfl ?_
 repeat' ((conv => whnf); first | exact zf | refine zg ?_ | intro _ | refine And.intro rfl ?_ | refine ⟨_, h1, ?_⟩ | refine (h1).use ?_ | refine za ?_ | refine zl ?_ | fail)
section
variable (t : Th) (fn vs : Int) (a : Va) (mk : Int) (l : Lb) (tk ro now : Int)
end
end Go.Proofs.YtjpgfgajkjhonaaGreatDoor
