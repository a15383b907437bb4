/- What is known of the ops: the table's rows. Conditions: none. -/
import Derived.Test.YtjpgfgajkjhonaaGreatDoorQTBA
import Derived.Test.YtjpgfgajkjhonaaGreatDoorQTAW
import Derived.Test.YtjpgfgajkjhonaaGreatDoorQTBB
namespace Go.Proofs.YtjpgfgajkjhonaaGreatDoor
open Go.Vx
set_option maxRecDepth 100000
structure Info where
 nm : List UInt8
 ar : Int
 po : Int
 pu : Int
def infoOf : List D → Option Info
 | [.str s, .int .u8 a, .int .u8 p, .int .u8 q] => some ⟨s, a, p, q⟩
 | _ => none
def fitsI (r : List D) : Bool := match infoOf r with
 | some i => decide (0 ≤ i.ar) && (decide (i.ar ≤ 5) && (decide (0 ≤ i.po) && (decide (i.po ≤ 4) && (decide (0 ≤ i.pu) && decide (i.pu ≤ 2)))))
 | none => false
theorem rows_fit : opRows.all fitsI = true := rfl
theorem infoOf_eq {r : List D} {i : Info} (h : infoOf r = some i) : r = [.str i.nm, .int .u8 i.ar, .int .u8 i.po, .int .u8 i.pu] := by
 unfold infoOf at h
 split at h
 ·cases h; rfl
 ·cases h
def inf (c : Int) : Option Info := bif decide (1 ≤ c) && decide (c ≤ 47) then (opRows[(c - 1).toNat]?).bind infoOf else none
def last (c : Int) : Bool := (c == 15) || ((c == 18) || (c == 19))
def aboutR (c : Int) : V := match inf c with
 | some i => .tu [.ag [.d (.str i.nm), .d (.int .i64 i.ar), .d (.int .i64 i.po), .d (.int .i64 i.pu), .d (.bool (last c))], .d (.bool true)]
 | none => .tu [.ag [.d (.str []), .d (.int .i64 0), .d (.int .i64 0), .d (.int .i64 0), .d (.bool false)], .d (.bool false)]
theorem inf_yes {c : Int} (h1 : 1 ≤ c) (h2 : c ≤ 47) : ∃ i, inf c = some i ∧ (chunk 4 47 (opRows.flatten.drop 0))[(c - 1).toNat]? = some [.str i.nm, .int .u8 i.ar, .int .u8 i.po, .int .u8 i.pu] ∧
  0 ≤ i.ar ∧ i.ar ≤ 5 ∧ 0 ≤ i.po ∧ i.po ≤ 4 ∧ 0 ≤ i.pu ∧ i.pu ≤ 2 := by
 have hlen : opRows.length = 47 := rfl
 have hc : chunk 4 47 (opRows.flatten.drop 0) = opRows := rfl
 obtain ⟨r, hr⟩ : ∃ r, opRows[(c - 1).toNat]? = some r := ⟨_, List.getElem?_eq_getElem (by omega)⟩
 have hf := List.all_eq_true.1 rows_fit r (List.mem_of_getElem? hr)
 unfold fitsI at hf
 cases hi : infoOf r with
 | none => rw [hi] at hf; cases hf
 | some i =>
  rw [hi] at hf
  simp only [Bool.and_eq_true, decide_eq_true_eq] at hf
  refine ⟨i, by unfold inf; rw [show (decide (1 ≤ c) && decide (c ≤ 47)) = true by simp [h1, h2]]; simp only [cond_true, hr, Option.bind_some, hi], ?_, hf.1, hf.2.1, hf.2.2.1, hf.2.2.2.1, hf.2.2.2.2.1, hf.2.2.2.2.2⟩
  rw [hc, hr, infoOf_eq hi]
theorem inf_no {c : Int} (h : c < 1 ∨ 47 < c) : inf c = none := by
 have : (decide (1 ≤ c) && decide (c ≤ 47)) = false := by
  cases hh : (decide (1 ≤ c) && decide (c ≤ 47)) with
  | false => rfl
  | true => simp at hh; omega
 simp [inf, this]
theorem about19 (c : Int) : SatP Tryz.prog 112 [.d (.int .i64 c)] (aboutR c) := by
  by_cases h0 : 1 ≤ c ∧ c ≤ 47
  · obtain ⟨i, h1, h2, h3⟩ := inf_yes h0.1 h0.2
    have hr : aboutR c = .tu [.ag [.d (.str i.nm), .d (.int .i64 i.ar), .d (.int .i64 i.po), .d (.int .i64 i.pu), .d (.bool (last c))], .d (.bool true)] := by simp only [aboutR, h1]
    rw [hr]
    refine s112 (keep := false) rfl ?_
    repeat' ((conv => whnf); first | exact zf | refine zg ?_ | intro _ | refine And.intro rfl ?_ | refine za ?_ | refine zl ?_ | fail)
    refine sp_intro (fun hb => absurd hb (by simp; omega)) (fun hb => ?_)
    repeat' ((conv => whnf); first | exact zf | refine zg ?_ | intro _ | refine And.intro rfl ?_ | refine za ?_ | refine zl ?_ | fail)
    refine sp_intro (fun hb => absurd hb (by simp; omega)) (fun hb => ?_)
    repeat' ((conv => whnf); first | exact zf | refine zg ?_ | intro _ | refine And.intro rfl ?_ | refine za ?_ | refine zl ?_ | fail)
    refine ⟨_, ⟨by omega, h2, by decide +kernel⟩, ?_⟩
    repeat' ((conv => whnf); first | exact zf | refine zg ?_ | intro _ | refine And.intro rfl ?_ | refine za ?_ | refine zl ?_ | refine sp_intro (fun hb => ?_) (fun hb => ?_) | fail)
    all_goals
      refine outs_eq (congrArg (fun b => V.tu [V.ag [V.d (.str i.nm), V.d (.int .i64 i.ar), V.d (.int .i64 i.po), V.d (.int .i64 i.pu), V.d (.bool b)], V.d (.bool true)]) ?_)
      first
        | (simp_all [last]; done)
        | (have a1 : (c == 15) = false := by simp_all
           have a2 : (c == 18) = false := by simp_all
           simp [last, a1, a2])
  · have hr : aboutR c = .tu [.ag [.d (.str []), .d (.int .i64 0), .d (.int .i64 0), .d (.int .i64 0), .d (.bool false)], .d (.bool false)] := by simp only [aboutR, inf_no (c := c) (by omega)]
    rw [hr]
    refine s112 (keep := false) rfl ?_
    repeat' ((conv => whnf); first | exact zf | refine zg ?_ | intro _ | refine And.intro rfl ?_ | refine za ?_ | refine zl ?_ | refine sp_intro (fun hb => ?_) (fun hb => ?_) | fail)
    all_goals
      exfalso
      simp at *
      omega
end Go.Proofs.YtjpgfgajkjhonaaGreatDoor
namespace Go.Proofs.YtjpgfgajkjhonaaGreatDoor
open Go.Vx
structure Op where
 c : Int
 a : Int
def encO (o : Op) : List D := [.int .i64 o.c, .int .i64 o.a]
def agO (o : Op) : V := .ag [.d (.int .i64 o.c), .d (.int .i64 o.a)]
structure Fn where
 args : Int
 vars : Int
 code : List Op
def encFn (f : Fn) : List D := [.int .i64 f.args, .int .i64 f.vars, .sl 2 (f.code.map encO)]
structure Im where
 cs : List Va
 fs : List Fn
def agI (im : Im) : V := .ag [.d (.sl 5 (im.cs.map encV)), .d (.sl 3 (im.fs.map encFn))]
theorem about_yes {c : Int} {i : Info} (h : inf c = some i) : SatP Tryz.prog 112 [.d (.int .i64 c)] (.tu [.ag [.d (.str i.nm), .d (.int .i64 i.ar), .d (.int .i64 i.po), .d (.int .i64 i.pu), .d (.bool (last c))], .d (.bool true)]) := by
 have := about19 c
 simp only [aboutR, h] at this
 exact this
theorem about_no {c : Int} (h : inf c = none) : SatP Tryz.prog 112 [.d (.int .i64 c)] (.tu [.ag [.d (.str []), .d (.int .i64 0), .d (.int .i64 0), .d (.int .i64 0), .d (.bool false)], .d (.bool false)]) := by
 have := about19 c
 simp only [aboutR, h] at this
 exact this
def rightB (o : Op) : Bool := match inf o.c with
 | some i => bif i.ar == 0 then o.a == 0 else decide (0 ≤ o.a) && decide (o.a ≤ 65535)
 | none => false
theorem right44 (o : Op) : SatP Tryz.prog 142 [agO o] (.d (.bool (rightB o))) := by
 refine s142 (keep := false) rfl ?_
 cases hi : inf o.c with
 | none =>
  have h := about_no hi
  repeat' ((conv => whnf); first | exact zf | refine zg ?_ | intro _ | refine And.intro rfl ?_ | refine ⟨_, h, ?_⟩ | refine (h).use ?_ | refine za ?_ | refine zl ?_ | refine sp_intro (fun hb => ?_) (fun hb => ?_) | fail)
  refine outs_eq (congrArg (fun x => V.d (.bool x)) ?_)
  simp [rightB, hi]
 | some i =>
  have h := about_yes hi
  repeat' ((conv => whnf); first | exact zf | refine zg ?_ | intro _ | refine And.intro rfl ?_ | refine ⟨_, h, ?_⟩ | refine (h).use ?_ | refine za ?_ | refine zl ?_ | refine sp_intro (fun hb => ?_) (fun hb => ?_) | fail)
  all_goals
   refine outs_eq (congrArg (fun x => V.d (.bool x)) ?_)
   simp only [rightB, hi]
   rcases Decidable.em (i.ar = 0) with e0 | e0
   ·simp_all
   ·have e1 : (i.ar == 0) = false := by simpa using e0
    rw [e1, cond_false]
    clear e1
    simp_all
    try omega
def within (n m : Int) : Bool := decide (0 ≤ n) && decide (n < m)
theorem within43 (n m : Int) : SatP Tryz.prog 141 [.d (.int .i64 n), .d (.int .i64 m)] (.d (.bool (within n m))) := by
 refine s141 (keep := false) rfl ?_
 repeat' ((conv => whnf); first | exact zf | refine zg ?_ | intro _ | refine And.intro rfl ?_ | refine za ?_ | refine zl ?_ | refine sp_intro (fun hb => ?_) (fun hb => ?_) | fail)
 all_goals
  refine outs_eq (congrArg (fun x => V.d (.bool x)) ?_)
  simp_all [within]
  try omega
def operandB (im : Im) (f : Fr) (fn : Fn) (o : Op) : Bool := match inf o.c with
 | some i => bif i.ar == 1 then within o.a im.cs.length else bif i.ar == 2 then within o.a f.vars.length else bif i.ar == 3 then within o.a fn.code.length else bif i.ar == 4 then within o.a im.fs.length else true
 | none => true
theorem operand45 (im : Im) (f : Fr) (fn : Fn) (o : Op) (h0 : 0 ≤ f.fu) (hf : im.fs[f.fu.toNat]? = some fn) : SatP Tryz.prog 143 [agI im, agF f, agO o] (.d (.bool (operandB im f fn o))) := by
  refine s143 (keep := false) rfl ?_
  have w1 := within43 o.a (im.cs.map encV).length
  have w2 := within43 o.a (f.vars.map encV).length
  have w3 := within43 o.a (fn.code.map encO).length
  have w4 := within43 o.a (im.fs.map encFn).length
  have hrow : (im.fs.map encFn)[f.fu.toNat]? = some (encFn fn) := by simp [hf]
  cases hi : inf o.c with
  | none =>
    have h := about_no hi
    repeat' ((conv => whnf); first | exact zf | refine zg ?_ | intro _ | refine And.intro rfl ?_ | refine ⟨_, h, ?_⟩ | refine (h).use ?_ | refine ⟨_, w1, ?_⟩ | refine (w1).use ?_ | refine ⟨_, w2, ?_⟩ | refine (w2).use ?_ | refine ⟨_, w3, ?_⟩ | refine (w3).use ?_ | refine ⟨_, w4, ?_⟩ | refine (w4).use ?_ | refine za ?_ | refine zl ?_ | refine sp_intro (fun hb => ?_) (fun hb => ?_) | fail)
    all_goals
      first
        | (refine outs_eq (congrArg (fun x => V.d (.bool x)) ?_); simp_all [operandB]; done)
        | (exfalso; simp_all; done)
  | some i =>
    have h := about_yes hi
    repeat' ((conv => whnf); first | exact zf | refine zg ?_ | intro _ | refine And.intro rfl ?_ | refine ⟨_, h, ?_⟩ | refine (h).use ?_ | refine ⟨_, w1, ?_⟩ | refine (w1).use ?_ | refine ⟨_, w2, ?_⟩ | refine (w2).use ?_ | refine ⟨_, w3, ?_⟩ | refine (w3).use ?_ | refine ⟨_, w4, ?_⟩ | refine (w4).use ?_ | refine za ?_ | refine zl ?_ | refine sp_intro (fun hb => ?_) (fun hb => ?_) | fail)
    all_goals try
      (refine outs_eq (congrArg (fun x => V.d (.bool x)) ?_)
       simp_all [operandB]
       done)
    all_goals
      refine ⟨encFn fn, ⟨h0, hrow, rfl⟩, ?_⟩
      repeat' ((conv => whnf); first | exact zf | refine zg ?_ | intro _ | refine And.intro rfl ?_ | refine ⟨_, w3, ?_⟩ | refine (w3).use ?_ | refine za ?_ | refine zl ?_ | refine sp_intro (fun hb => ?_) (fun hb => ?_) | fail)
      refine outs_eq (congrArg (fun x => V.d (.bool x)) ?_)
      simp_all [operandB]
def takes (im : Im) (o : Op) : Int := match inf o.c with
 | some i => bif o.c == 17 then i.po + (match im.fs[o.a.toNat]? with | some g => g.args | none => 0) else i.po
 | none => 0
theorem takes47 (im : Im) (o : Op) (hg : o.c = 17 → ∃ g, 0 ≤ o.a ∧ im.fs[o.a.toNat]? = some g ∧ inR .i64 g.args) : SatP Tryz.prog 144 [agI im, agO o] (.d (.int .i64 (takes im o))) := by
 refine s144 (keep := false) rfl ?_
 cases hi : inf o.c with
 | none =>
  have h := about_no hi
  have hc : o.c ≠ 17 := by
   intro e
   rw [e] at hi
   obtain ⟨i, h1, _⟩ := inf_yes (c := 17) (by omega) (by omega)
   rw [h1] at hi; cases hi
  repeat' ((conv => whnf); first | exact zf | refine zg ?_ | intro _ | refine And.intro rfl ?_ | refine ⟨_, h, ?_⟩ | refine (h).use ?_ | refine za ?_ | refine zl ?_ | fail)
  refine sp_intro (fun hb => absurd hb (by simp [hc])) (fun hb => ?_)
  repeat' ((conv => whnf); first | exact zf | refine zg ?_ | intro _ | refine And.intro rfl ?_ | refine za ?_ | refine zl ?_ | fail)
  refine outs_eq (congrArg (fun x => V.d (.int .i64 x)) ?_)
  simp only [takes, hi]
 | some i =>
  have h := about_yes hi
  by_cases hc : o.c = 17
  ·obtain ⟨g, h0, h1, h2⟩ := hg hc
   have hp : i.po = 0 := by
    rw [hc] at hi
    have : inf 17 = some ⟨[99, 97, 108, 108], 4, 0, 1⟩ := rfl
    rw [this] at hi
    cases hi; rfl
   have hrow : (im.fs.map encFn)[o.a.toNat]? = some (encFn g) := by simp [h1]
   replace h2 : -9223372036854775808 ≤ g.args ∧ g.args ≤ 9223372036854775807 := h2
   repeat' ((conv => whnf); first | exact zf | refine zg ?_ | intro _ | refine And.intro rfl ?_ | refine ⟨_, h, ?_⟩ | refine (h).use ?_ | refine za ?_ | refine zl ?_ | fail)
   refine sp_intro (fun hb => ?_) (fun hb => absurd hc (by simpa using hb))
   repeat' ((conv => whnf); first | exact zf | refine zg ?_ | intro _ | refine And.intro rfl ?_ | refine za ?_ | refine zl ?_ | fail)
   refine ⟨encFn g, ⟨h0, hrow, rfl⟩, ?_⟩
   repeat' ((conv => whnf); first | exact zf | refine zg ?_ | intro _ | refine And.intro rfl ?_ | refine za ?_ | refine zl ?_ | fail)
   refine outs_eq (congrArg (fun x => V.d (.int .i64 x)) ?_)
   simp only [takes, hi, hb, cond_true, h1]
  ·have hcb : (o.c == 17) = false := by simpa using hc
   repeat' ((conv => whnf); first | exact zf | refine zg ?_ | intro _ | refine And.intro rfl ?_ | refine ⟨_, h, ?_⟩ | refine (h).use ?_ | refine za ?_ | refine zl ?_ | fail)
   refine sp_intro (fun hb => absurd hb (by simp [hc])) (fun hb => ?_)
   repeat' ((conv => whnf); first | exact zf | refine zg ?_ | intro _ | refine And.intro rfl ?_ | refine za ?_ | refine zl ?_ | fail)
   refine outs_eq (congrArg (fun x => V.d (.int .i64 x)) ?_)
   simp only [takes, hi, hcb, cond_false]
theorem whole25 (n : Int) : SatP Tryz.prog 106 [.d (.int .i64 n)] (agV (num n)) := by
 refine s106 (keep := false) rfl ?_
 repeat' ((conv => whnf); first | exact zf | refine zg ?_ | intro _ | refine And.intro rfl ?_ | refine za ?_ | refine zl ?_ | fail)
def truthV (b : Bool) : Va := num (bif b then 1 else 0)
structure Ou where
 k : Int
 v : Va
 o : Op
def agOu (u : Ou) : V := .ag [.d (.int .i64 u.k), .d (.int .i64 u.v.k), .d (.int .i64 u.v.n), .d (.str u.v.nm), .d (.str u.v.ls), .d (.str u.v.li), .d (.int .i64 u.o.c), .d (.int .i64 u.o.a)]
def o0 : Op := ⟨0, 0⟩
def went : Ou := ⟨0, zeroV, o0⟩
def failed (n : Int) : Ou := ⟨2, num n, o0⟩
def throwS (c : Co) (code kp : Int) : Option Co :=
 bif decide ((c.tr.length : Int) - 1 < max kp 0) then none else
 match c.tr.getLast? with
 | none => none
 | some t => bif tryOk c t then some (throwC c t code) else none
theorem throwR_some {c c' : Co} {code kp : Int} (h : throwS c code kp = some c') : throwR c code kp = .tu [agC c', .d (.bool true)] := by
 unfold throwS at h
 unfold throwR
 cases h1 : decide ((c.tr.length : Int) - 1 < max kp 0) <;> rw [h1] at h <;> simp only [cond_true, cond_false] at h ⊢
 ·split at h
  ·cases h
  ·rename_i t ht
   rw [ht]
   simp only
   cases h2 : tryOk c t <;> rw [h2] at h <;> simp only [cond_true, cond_false] at h ⊢ <;> cases h
   rfl
 ·cases h
theorem throwR_none {c : Co} {code kp : Int} (h : throwS c code kp = none) : throwR c code kp = .tu [agC c, .d (.bool false)] := by
 unfold throwS at h
 unfold throwR
 cases h1 : decide ((c.tr.length : Int) - 1 < max kp 0) <;> rw [h1] at h <;> simp only [cond_true, cond_false] at h ⊢
 split at h
 ·rename_i ht
  rw [ht]
 ·rename_i t ht
  rw [ht]
  simp only
  cases h2 : tryOk c t <;> rw [h2] at h <;> simp only [cond_true, cond_false] at h ⊢
  cases h
def raise (c : Co) (code kp : Int) : Co × Ou := match throwS c code kp with
 | some c' => (c', went)
 | none => (c, failed code)
theorem raise28 (c : Co) (code kp : Int) (hf : c.fr.length < 1000000000) (hs : c.st.length < 1000000000) : SatP Tryz.prog 109 [agC c, .d (.int .i64 code), .d (.int .i64 kp)] (.tu [agC (raise c code kp).1, agOu (raise c code kp).2]) := by
 have h := throw75 c code kp hf hs
 refine s109 (keep := false) rfl ?_
 cases ht : throwS c code kp with
 | some c' =>
  rw [throwR_some ht] at h
  simp only [raise, ht]
  repeat' ((conv => whnf); first | exact zf | refine zg ?_ | intro _ | refine And.intro rfl ?_ | refine ⟨_, h, ?_⟩ | refine (h).use ?_ | refine za ?_ | refine zl ?_ | fail)
 | none =>
  rw [throwR_none ht] at h
  simp only [raise, ht]
  repeat' ((conv => whnf); first | exact zf | refine zg ?_ | intro _ | refine And.intro rfl ?_ | refine ⟨_, h, ?_⟩ | refine (h).use ?_ | refine ⟨_, whole25 code, ?_⟩ | refine (whole25 code).use ?_ | refine za ?_ | refine zl ?_ | fail)
end Go.Proofs.YtjpgfgajkjhonaaGreatDoor
namespace Go.Proofs.YtjpgfgajkjhonaaGreatDoor
open Go.Vx
structure okI (im : Im) : Prop where
 args : ∀ (i : Nat) (g : Fn), im.fs[i]? = some g → inR .i64 g.args
def fit (im : Im) (c : Co) : Option Op :=
 match c.fr.getLast? with
 | none => none
 | some f => bif within f.fu im.fs.length then (match im.fs[f.fu.toNat]? with
  | none => none
  | some fn => bif within f.pc fn.code.length then (match fn.code[f.pc.toNat]? with
   | none => none
   | some o => bif rightB o && (operandB im f fn o && popOk c (takes im o)) then some o else none) else none) else none
def fitR (im : Im) (c : Co) : V := match fit im c with
 | some o => .tu [agO o, .d (.bool true)]
 | none => .tu [agO o0, .d (.bool false)]
theorem within_iff {n m : Int} : within n m = true ↔ 0 ≤ n ∧ n < m := by simp [within]
theorem operand_call {im : Im} {f : Fr} {fn : Fn} {o : Op} (hc : o.c = 17) (h : operandB im f fn o = true) : within o.a im.fs.length = true := by
 unfold operandB at h
 rw [hc] at h
 have : inf 17 = some ⟨[99, 97, 108, 108], 4, 0, 1⟩ := rfl
 rw [this] at h
 exact h
set_option maxRecDepth 100000 in
set_option maxHeartbeats 4000000 in
theorem fit21 (im : Im) (c : Co) (hI : okI im) (hs : c.st.length < 1000000000) : SatP Tryz.prog 105 [agI im, agC c] (fitR im c) := by
 cases hl : c.fr.getLast? with
 | none =>
  have hz : c.fr = [] := by simpa using hl
  have hr : fitR im c = .tu [agO o0, .d (.bool false)] := by simp only [fitR, fit, hl]
  rw [hr]
  refine s105 (keep := false) rfl ?_
  repeat' ((conv => whnf); first | exact zf | refine zg ?_ | intro _ | refine And.intro rfl ?_ | refine za ?_ | refine zl ?_ | fail)
  refine sp_intro (fun hb => ?_) (fun hb => absurd hb (by simp [hz]))
  repeat' ((conv => whnf); first | exact zf | refine zg ?_ | intro _ | refine And.intro rfl ?_ | refine za ?_ | refine zl ?_ | fail)
 | some f =>
  have hlen : 0 < c.fr.length := by
   cases h : c.fr with
   | nil => rw [h] at hl; cases hl
   | cons => simp
  have hne : c.fr ≠ [] := fun e => by simp [e] at hlen
  have hf1 : c.fr[c.fr.length - 1]? = some f := by rw [List.getLast?_eq_getElem?] at hl; exact hl
  have hrow : (c.fr.map encF)[c.fr.length - 1]? = some (encF f) := by simp [hf1]
  have w1 := within43 f.fu (im.fs.map encFn).length
  have e1 : within f.fu (im.fs.map encFn).length = within f.fu im.fs.length := by rw [List.length_map]
  rw [e1] at w1
  cases h1 : within f.fu im.fs.length with
  | false =>
   have hr : fitR im c = .tu [agO o0, .d (.bool false)] := by simp only [fitR, fit, hl, h1, cond_false]
   rw [hr]
   rw [h1] at w1
   refine s105 (keep := false) rfl ?_
   repeat' ((conv => whnf); first | exact zf | refine zg ?_ | intro _ | refine And.intro rfl ?_ | refine za ?_ | refine zl ?_ | fail)
   refine sp_intro (fun hb => absurd hb (by simp [hne])) (fun hb => ?_)
   repeat' ((conv => whnf); first | exact zf | refine zg ?_ | intro _ | refine And.intro rfl ?_ | refine za ?_ | refine zl ?_ | fail)
   refine ⟨encF f, ⟨by simp; omega, by simp [hf1], rfl⟩, ?_⟩
   repeat' ((conv => whnf); first | exact zf | refine zg ?_ | intro _ | refine And.intro rfl ?_ | refine ⟨_, w1, ?_⟩ | refine (w1).use ?_ | refine za ?_ | refine zl ?_ | fail)
  | true =>
   obtain ⟨g1, g2⟩ := within_iff.1 h1
   obtain ⟨fn, hfn⟩ : ∃ fn, im.fs[f.fu.toNat]? = some fn := ⟨_, List.getElem?_eq_getElem (by omega)⟩
   rw [h1] at w1
   have w2 := within43 f.pc (fn.code.map encO).length
   have e2 : within f.pc (fn.code.map encO).length = within f.pc fn.code.length := by rw [List.length_map]
   rw [e2] at w2
   have hrow2 : (im.fs.map encFn)[f.fu.toNat]? = some (encFn fn) := by simp [hfn]
   cases h2 : within f.pc fn.code.length with
   | false =>
    have hr : fitR im c = .tu [agO o0, .d (.bool false)] := by simp only [fitR, fit, hl, h1, cond_true, hfn, h2, cond_false]
    rw [hr]
    rw [h2] at w2
    refine s105 (keep := false) rfl ?_
    repeat' ((conv => whnf); first | exact zf | refine zg ?_ | intro _ | refine And.intro rfl ?_ | refine za ?_ | refine zl ?_ | fail)
    refine sp_intro (fun hb => absurd hb (by simp [hne])) (fun hb => ?_)
    repeat' ((conv => whnf); first | exact zf | refine zg ?_ | intro _ | refine And.intro rfl ?_ | refine za ?_ | refine zl ?_ | fail)
    refine ⟨encF f, ⟨by simp; omega, by simp [hf1], rfl⟩, ?_⟩
    repeat' ((conv => whnf); first | exact zf | refine zg ?_ | intro _ | refine And.intro rfl ?_ | refine ⟨_, w1, ?_⟩ | refine (w1).use ?_ | refine za ?_ | refine zl ?_ | fail)
    refine ⟨encFn fn, ⟨g1, hrow2, rfl⟩, ?_⟩
    repeat' ((conv => whnf); first | exact zf | refine zg ?_ | intro _ | refine And.intro rfl ?_ | refine ⟨_, w2, ?_⟩ | refine (w2).use ?_ | refine za ?_ | refine zl ?_ | fail)
   | true =>
    obtain ⟨g3, g4⟩ := within_iff.1 h2
    obtain ⟨o, ho⟩ : ∃ o, fn.code[f.pc.toNat]? = some o := ⟨_, List.getElem?_eq_getElem (by omega)⟩
    have hrow3 : (fn.code.map encO)[f.pc.toNat]? = some (encO o) := by simp [ho]
    rw [h2] at w2
    have w3 := right44 o
    have w4 := operand45 im f fn o g1 hfn
    have hfit : fit im c = bif rightB o && (operandB im f fn o && popOk c (takes im o)) then some o else none := by simp only [fit, hl, h1, cond_true, hfn, h2, ho]
    cases h3 : rightB o with
    | false =>
     have hr : fitR im c = .tu [agO o0, .d (.bool false)] := by simp only [fitR, hfit, h3, Bool.false_and, cond_false]
     rw [hr]
     rw [h3] at w3
     refine s105 (keep := false) rfl ?_
     repeat' ((conv => whnf); first | exact zf | refine zg ?_ | intro _ | refine And.intro rfl ?_ | refine za ?_ | refine zl ?_ | fail)
     refine sp_intro (fun hb => absurd hb (by simp [hne])) (fun hb => ?_)
     repeat' ((conv => whnf); first | exact zf | refine zg ?_ | intro _ | refine And.intro rfl ?_ | refine za ?_ | refine zl ?_ | fail)
     refine ⟨encF f, ⟨by simp; omega, by simp [hf1], rfl⟩, ?_⟩
     repeat' ((conv => whnf); first | exact zf | refine zg ?_ | intro _ | refine And.intro rfl ?_ | refine ⟨_, w1, ?_⟩ | refine (w1).use ?_ | refine za ?_ | refine zl ?_ | fail)
     refine ⟨encFn fn, ⟨g1, hrow2, rfl⟩, ?_⟩
     repeat' ((conv => whnf); first | exact zf | refine zg ?_ | intro _ | refine And.intro rfl ?_ | refine ⟨_, w2, ?_⟩ | refine (w2).use ?_ | refine za ?_ | refine zl ?_ | fail)
     refine ⟨encO o, ⟨g3, hrow3, rfl⟩, ?_⟩
     repeat' ((conv => whnf); first | exact zf | refine zg ?_ | intro _ | refine And.intro rfl ?_ | refine ⟨_, w3, ?_⟩ | refine (w3).use ?_ | refine za ?_ | refine zl ?_ | fail)
    | true =>
     rw [h3] at w3
     cases h4 : operandB im f fn o with
     | false =>
      have hr : fitR im c = .tu [agO o0, .d (.bool false)] := by simp only [fitR, hfit, h3, h4, Bool.false_and, Bool.and_false, cond_false]
      rw [hr]
      rw [h4] at w4
      refine s105 (keep := false) rfl ?_
      repeat' ((conv => whnf); first | exact zf | refine zg ?_ | intro _ | refine And.intro rfl ?_ | refine za ?_ | refine zl ?_ | fail)
      refine sp_intro (fun hb => absurd hb (by simp [hne])) (fun hb => ?_)
      repeat' ((conv => whnf); first | exact zf | refine zg ?_ | intro _ | refine And.intro rfl ?_ | refine za ?_ | refine zl ?_ | fail)
      refine ⟨encF f, ⟨by simp; omega, by simp [hf1], rfl⟩, ?_⟩
      repeat' ((conv => whnf); first | exact zf | refine zg ?_ | intro _ | refine And.intro rfl ?_ | refine ⟨_, w1, ?_⟩ | refine (w1).use ?_ | refine za ?_ | refine zl ?_ | fail)
      refine ⟨encFn fn, ⟨g1, hrow2, rfl⟩, ?_⟩
      repeat' ((conv => whnf); first | exact zf | refine zg ?_ | intro _ | refine And.intro rfl ?_ | refine ⟨_, w2, ?_⟩ | refine (w2).use ?_ | refine za ?_ | refine zl ?_ | fail)
      refine ⟨encO o, ⟨g3, hrow3, rfl⟩, ?_⟩
      repeat' ((conv => whnf); first | exact zf | refine zg ?_ | intro _ | refine And.intro rfl ?_ | refine ⟨_, w3, ?_⟩ | refine (w3).use ?_ | refine ⟨_, w4, ?_⟩ | refine (w4).use ?_ | refine za ?_ | refine zl ?_ | fail)
     | true =>
      rw [h4] at w4
      have w5 := takes47 im o (fun hc => by
       obtain ⟨k1, k2⟩ := within_iff.1 (operand_call hc h4)
       obtain ⟨g, hg⟩ : ∃ g, im.fs[o.a.toNat]? = some g := ⟨_, List.getElem?_eq_getElem (by omega)⟩
       exact ⟨g, k1, hg, hI.args _ _ hg⟩)
      have w6 := pop46 c (takes im o) hs
      cases h5 : popOk c (takes im o) with
      | false =>
       have hr : fitR im c = .tu [agO o0, .d (.bool false)] := by simp only [fitR, hfit, h3, h4, h5, Bool.and_false, cond_false]
       rw [hr]
       rw [popR_no h5] at w6
       refine s105 (keep := false) rfl ?_
       repeat' ((conv => whnf); first | exact zf | refine zg ?_ | intro _ | refine And.intro rfl ?_ | refine za ?_ | refine zl ?_ | fail)
       refine sp_intro (fun hb => absurd hb (by simp [hne])) (fun hb => ?_)
       repeat' ((conv => whnf); first | exact zf | refine zg ?_ | intro _ | refine And.intro rfl ?_ | refine za ?_ | refine zl ?_ | fail)
       refine ⟨encF f, ⟨by simp; omega, by simp [hf1], rfl⟩, ?_⟩
       repeat' ((conv => whnf); first | exact zf | refine zg ?_ | intro _ | refine And.intro rfl ?_ | refine ⟨_, w1, ?_⟩ | refine (w1).use ?_ | refine za ?_ | refine zl ?_ | fail)
       refine ⟨encFn fn, ⟨g1, hrow2, rfl⟩, ?_⟩
       repeat' ((conv => whnf); first | exact zf | refine zg ?_ | intro _ | refine And.intro rfl ?_ | refine ⟨_, w2, ?_⟩ | refine (w2).use ?_ | refine za ?_ | refine zl ?_ | fail)
       refine ⟨encO o, ⟨g3, hrow3, rfl⟩, ?_⟩
       repeat' ((conv => whnf); first | exact zf | refine zg ?_ | intro _ | refine And.intro rfl ?_ | refine ⟨_, w3, ?_⟩ | refine (w3).use ?_ | refine ⟨_, w4, ?_⟩ | refine (w4).use ?_ | refine ⟨_, w5, ?_⟩ | refine (w5).use ?_ | refine ⟨_, w6, ?_⟩ | refine (w6).use ?_ | refine za ?_ | refine zl ?_ | fail)
      | true =>
       have hr : fitR im c = .tu [agO o, .d (.bool true)] := by simp only [fitR, hfit, h3, h4, h5, Bool.and_true, cond_true]
       rw [hr]
       rw [popR_yes h5] at w6
       refine s105 (keep := false) rfl ?_
       repeat' ((conv => whnf); first | exact zf | refine zg ?_ | intro _ | refine And.intro rfl ?_ | refine za ?_ | refine zl ?_ | fail)
       refine sp_intro (fun hb => absurd hb (by simp [hne])) (fun hb => ?_)
       repeat' ((conv => whnf); first | exact zf | refine zg ?_ | intro _ | refine And.intro rfl ?_ | refine za ?_ | refine zl ?_ | fail)
       refine ⟨encF f, ⟨by simp; omega, by simp [hf1], rfl⟩, ?_⟩
       repeat' ((conv => whnf); first | exact zf | refine zg ?_ | intro _ | refine And.intro rfl ?_ | refine ⟨_, w1, ?_⟩ | refine (w1).use ?_ | refine za ?_ | refine zl ?_ | fail)
       refine ⟨encFn fn, ⟨g1, hrow2, rfl⟩, ?_⟩
       repeat' ((conv => whnf); first | exact zf | refine zg ?_ | intro _ | refine And.intro rfl ?_ | refine ⟨_, w2, ?_⟩ | refine (w2).use ?_ | refine za ?_ | refine zl ?_ | fail)
       refine ⟨encO o, ⟨g3, hrow3, rfl⟩, ?_⟩
       repeat' ((conv => whnf); first | exact zf | refine zg ?_ | intro _ | refine And.intro rfl ?_ | refine ⟨_, w3, ?_⟩ | refine (w3).use ?_ | refine ⟨_, w4, ?_⟩ | refine (w4).use ?_ | refine ⟨_, w5, ?_⟩ | refine (w5).use ?_ | refine ⟨_, w6, ?_⟩ | refine (w6).use ?_ | refine za ?_ | refine zl ?_ | fail)
end Go.Proofs.YtjpgfgajkjhonaaGreatDoor
namespace Go.Proofs.YtjpgfgajkjhonaaGreatDoor
open Go.Vx
structure Mh where
 im : Im
 was : Co
 o : Op
 fr : Int
 tr : Int
def mcs (m : Mh) (c0 : V) (st : List Va) (ts : List Tr) (tk : V) (u : Ou) (wr : Bool) (cd : Int) : List V :=
  [.d (.sl 5 (m.im.cs.map encV)), .d (.sl 3 (m.im.fs.map encFn)), .d (.sl 5 (m.was.fr.map encF)), .d (.sl 5 (m.was.st.map encV)), .d (.sl 3 (m.was.tr.map encT)),
   c0, .d (.sl 5 (st.map encV)), .d (.sl 3 (ts.map encT)), .d (.int .i64 m.o.c), .d (.int .i64 m.o.a), tk, .d (.int .i64 m.fr), .d (.int .i64 m.tr),
   .d (.int .i64 u.k), .d (.int .i64 u.v.k), .d (.int .i64 u.v.n), .d (.str u.v.nm), .d (.str u.v.ls), .d (.str u.v.li), .d (.int .i64 u.o.c), .d (.int .i64 u.o.a), .d (.bool wr), .d (.int .i64 cd)]
def tkd (l : List Va) : V := .d (.sl 5 (l.map encV))
theorem top74 {K : Out → H → Prop} (m : Mh) (st : List Va) (ts : List Tr) (tk : List Va) (u : Ou) (wr : Bool) (cd : Int) (rows : List (List D)) (hr : 0 < rows.length) (hl : rows.length < 1000000000)
  (hk : K (.ret (.q 1 5 ((rows.length : Int) - 1).toNat 0)) [.cells (mcs m (.os 1) st ts (tkd tk) u wr cd), .rows 5 rows]) :
  Sat Tryz.prog 167 [.p 0 0] [.cells (mcs m (.os 1) st ts (tkd tk) u wr cd), .rows 5 rows] K := by
 refine s167 (keep := false) rfl ?_
 repeat' ((conv => whnf); first | exact zf | refine zg ?_ | intro _ | refine And.intro rfl ?_ | refine za ?_ | refine zl ?_ | fail)
 exact hk
theorem layA93 {K : Out → H → Prop} (m : Mh) (st : List Va) (ts : List Tr) (tk : List Va) (u : Ou) (wr : Bool) (cd : Int) (fs : List Fr) (v : Va) (hs : st.length < 1000000000)
  (hk : K (.ret (.tu [])) [.cells (mcs m (.d (.sl 5 (fs.map encF))) (st ++ [v]) ts (tkd tk) u wr cd), .no]) :
  Sat Tryz.prog 214 [.p 0 0, agV v] [.cells (mcs m (.os 1) st ts (tkd tk) u wr cd), .rows 5 (fs.map encF)] K := by
 refine s214 (keep := false) rfl ?_
 repeat' ((conv => whnf); first | exact zf | refine zg ?_ | intro _ | refine And.intro rfl ?_ | refine fro_use [1] ?_ | refine ⟨_, push48 ⟨fs, st, ts⟩ v hs, ?_⟩ | refine (push48 ⟨fs, st, ts⟩ v hs).use ?_ | refine za ?_ | refine zl ?_ | fail)
 exact hk
theorem layB93 {K : Out → H → Prop} (m : Mh) (st : List Va) (ts : List Tr) (tk : List Va) (u : Ou) (wr : Bool) (cd : Int) (fs : List Fr) (v : Va) (hs : st.length < 1000000000)
  (hk : K (.ret (.tu [])) [.cells (mcs m (.d (.sl 5 (fs.map encF))) (st ++ [v]) ts (tkd tk) u wr cd)]) :
  Sat Tryz.prog 214 [.p 0 0, agV v] [.cells (mcs m (.d (.sl 5 (fs.map encF))) st ts (tkd tk) u wr cd)] K := by
 refine s214 (keep := false) rfl ?_
 repeat' ((conv => whnf); first | exact zf | refine zg ?_ | intro _ | refine And.intro rfl ?_ | refine ⟨_, push48 ⟨fs, st, ts⟩ v hs, ?_⟩ | refine (push48 ⟨fs, st, ts⟩ v hs).use ?_ | refine za ?_ | refine zl ?_ | fail)
 exact hk
end Go.Proofs.YtjpgfgajkjhonaaGreatDoor
namespace Go.Proofs.YtjpgfgajkjhonaaGreatDoor
open Go.Vx
def mcs0 (m : Mh) : List V :=
  [.d (.sl 5 (m.im.cs.map encV)), .d (.sl 3 (m.im.fs.map encFn)), .d (.sl 5 (m.was.fr.map encF)), .d (.sl 5 (m.was.st.map encV)), .d (.sl 3 (m.was.tr.map encT)),
   .nl 5, .nl 5, .nl 3, .d (.int .i64 m.o.c), .d (.int .i64 m.o.a), .nl 5, .d (.int .i64 m.fr), .d (.int .i64 m.tr),
   .d (.int .i64 0), .d (.int .i64 0), .d (.int .i64 0), .d (.str []), .d (.str []), .d (.str []), .d (.int .i64 0), .d (.int .i64 0), .d (.bool false), .d (.int .i64 0)]
structure Rdy (m : Mh) (f : Fr) : Prop where
 hl : m.was.fr.getLast? = some f
 lf : m.was.fr.length < 1000000000
 ls : m.was.st.length < 1000000000
 pc : 0 ≤ f.pc ∧ f.pc < 9223372036854775807
 po : popOk m.was (takes m.im m.o) = true
 ca : m.o.c = 17 → ∃ g, 0 ≤ m.o.a ∧ m.im.fs[m.o.a.toNat]? = some g ∧ inR .i64 g.args
def nxt (l : List Fr) (f : Fr) : List Fr := l.set (l.length - 1) { f with pc := f.pc + 1 }
def tkn (m : Mh) : List Va := popL m.was (takes m.im m.o)
def lft (m : Mh) : List Va := (popC m.was (takes m.im m.o)).st
theorem begin27 {K : Out → H → Prop} (m : Mh) (f : Fr) (hr : Rdy m f) (hk : K (.ret (.tu [])) [.cells (mcs m (.os 1) (lft m) m.was.tr (tkd (tkn m)) went false 0), .rows 5 ((nxt m.was.fr f).map encF)]) :
  Sat Tryz.prog 108 [.p 0 0] [.cells (mcs0 m)] K := by
 have hne : 0 < m.was.fr.length := by
  cases h : m.was.fr with
  | nil => have := hr.hl; rw [h] at this; cases this
  | cons => simp
 have hf1 : m.was.fr[m.was.fr.length - 1]? = some f := by have := hr.hl; rw [List.getLast?_eq_getElem?] at this; exact this
 have htk := takes47 m.im m.o hr.ca
 have hpop := pop46 m.was (takes m.im m.o) hr.ls
 rw [popR_yes hr.po] at hpop
 have hlf := hr.lf
 have hpc := hr.pc
 refine s108 (keep := false) rfl ?_
 repeat' ((conv => whnf); first | exact zf | refine zg ?_ | intro _ | refine And.intro rfl ?_ | refine ⟨_, htk, ?_⟩ | refine (htk).use ?_ | refine ⟨_, hpop, ?_⟩ | refine (hpop).use ?_ | refine clone73 (m.was.fr.map encF) (by simp; omega) ?_ | refine (.inr ?_ : (∃ _, _) ∨ _) | refine top74 m (lft m) m.was.tr (tkn m) went false 0 _ (by simp; omega) (by simp; omega) ?_ | refine za ?_ | refine zl ?_ | fail)
 have hrow : (m.was.fr.map encF)[(((m.was.fr.map encF).length : Int) - 1).toNat]? = some (encF f) := by
  rw [List.getElem?_map, List.length_map]
  have e : ((m.was.fr.length : Int) - 1).toNat = m.was.fr.length - 1 := by omega
  rw [e, hf1]; rfl
 have hset : (m.was.fr.map encF).set (((m.was.fr.map encF).length : Int) - 1).toNat (encF { f with pc := f.pc + 1 }) = (nxt m.was.fr f).map encF := by
  rw [nxt, List.map_set, List.length_map]
  congr 1
  omega
 refine ⟨encF f, hrow, ?_⟩
 repeat' ((conv => whnf); first | exact zf | refine zg ?_ | intro _ | refine And.intro rfl ?_ | refine za ?_ | refine zl ?_ | fail)
 refine ⟨encF f, hrow, ⟨rfl, rfl, rfl⟩, ?_⟩
 repeat' ((conv => whnf); first | exact zf | refine zg ?_ | intro _ | refine And.intro rfl ?_ | refine za ?_ | refine zl ?_ | fail)
 rw [← hset] at hk
 exact hk
end Go.Proofs.YtjpgfgajkjhonaaGreatDoor
namespace Go.Proofs.YtjpgfgajkjhonaaGreatDoor
open Go.Vx
end Go.Proofs.YtjpgfgajkjhonaaGreatDoor
namespace Go.Proofs.YtjpgfgajkjhonaaGreatDoor
open Go.Vx
def w64 (n : Int) : Int := IntKind.i64.wrap n
def b01 (b : Bool) : Int := bif b then 1 else 0
def okR2 (n : Int) : V := .tu [.d (.int .i64 n), .d (.bool true)]
def noR2 : V := .tu [.d (.int .i64 0), .d (.bool false)]
def numR (c a b : Int) : V :=
 bif c == 7 then okR2 (w64 (a + b)) else bif c == 8 then okR2 (w64 (a - b)) else bif c == 9 then okR2 (w64 (a * b)) else bif c == 10 then (bif b == 0 then noR2 else okR2 (w64 (a.tdiv b)))
 else bif c == 11 then (bif b == 0 then noR2 else okR2 (a.tmod b)) else bif c == 12 then okR2 (b01 (a == b)) else okR2 (b01 (decide (a < b)))
end Go.Proofs.YtjpgfgajkjhonaaGreatDoor
namespace Go.Proofs.YtjpgfgajkjhonaaGreatDoor
open Go.Vx
set_option maxRecDepth 100000
structure Ev where
 l : Lb
 v : Va
def encEv (e : Ev) : List D := [.str e.l.s, .str e.l.i, .int .i64 e.v.k, .int .i64 e.v.n, .str e.v.nm, .str e.v.ls, .str e.v.li]
structure En where
 o : Int
 fr : Lb
 to : Lb
 ma : Int
def encEn (e : En) : List D := [.int .i64 e.o, .str e.fr.s, .str e.fr.i, .str e.to.s, .str e.to.i, .int .u8 e.ma]
structure Wo where
 id : List UInt8
 l : List Va
def encWo (w : Wo) : List D := [.str w.id, .sl 5 (w.l.map encV)]
structure Ef where
 fork : List Th
 out : List Ev
 log : List En
 wok : List Wo
 dn : Bool
def cellsEf (e : Ef) : List D := [.sl 20 (e.fork.map cellsTh), .sl 7 (e.out.map encEv), .sl 6 (e.log.map encEn), .sl 2 (e.wok.map encWo), .bool e.dn]
def agEf (e : Ef) : V := .ag ((cellsEf e).map .d)
inductive Fx where
 | no
 | out (x : Ev)
 | log (x : En)
 | wok (x : Wo)
 | fork (x : Th)
def Fx.ef : Fx → Bool → Ef
 | .no, d => ⟨[], [], [], [], d⟩
 | .out x, d => ⟨[], [x], [], [], d⟩
 | .log x, d => ⟨[], [], [x], [], d⟩
 | .wok x, d => ⟨[], [], [], [x], d⟩
 | .fork x, d => ⟨[x], [], [], [], d⟩
def Fx.vs : Fx → Bool → List V
 | .no, d => [.nl 20, .nl 7, .nl 6, .nl 2, .d (.bool d)]
 | .out x, d => [.nl 20, .d (.sl 7 [encEv x]), .nl 6, .nl 2, .d (.bool d)]
 | .log x, d => [.nl 20, .nl 7, .d (.sl 6 [encEn x]), .nl 2, .d (.bool d)]
 | .wok x, d => [.nl 20, .nl 7, .nl 6, .d (.sl 2 [encWo x]), .d (.bool d)]
 | .fork x, d => [.d (.sl 20 [cellsTh x]), .nl 7, .nl 6, .nl 2, .d (.bool d)]
structure Ca where
 im : Im
 now : Int
 t : Th
 tr : Int
 o : Op
 ar : List Va
 ma : Int
def cellsCa (c : Ca) (e : List V) (a : V) (s : Nat) : List V :=
 [.d (.sl 5 (c.im.cs.map encV)), .d (.sl 3 (c.im.fs.map encFn)), .p s 0, .d (.int .i64 c.now)] ++ (cellsTh c.t).map .d ++ [.d (.int .i64 c.tr)] ++ e ++ [.d (.int .i64 c.o.c), .d (.int .i64 c.o.a), a, .d (.int .u8 c.ma)]
def caB (c : Ca) (s : Sto) : H := .cells (cellsCa c [.nl 20, .nl 7, .nl 6, .nl 2, .d (.bool false)] (.d (.sl 5 (c.ar.map encV))) 1) :: [.cells [.mp 2, .mp 3], .dm (thE s.th), .ms 1 (nmE s.nm) none none]
def caD (c : Ca) (d : Bool) (s : Sto) : H := .cells (cellsCa c [.nl 20, .nl 7, .nl 6, .nl 2, .d (.bool d)] (.d (.sl 5 (c.ar.map encV))) 1) :: [.cells [.mp 2, .mp 3], .dm (thE s.th), .ms 1 (nmE s.nm) none none]
def caF (c : Ca) (e : Fx) (d : Bool) (s : Sto) : H := .cells (cellsCa c (e.vs d) (.d (.sl 5 (c.ar.map encV))) 1) :: [.cells [.mp 2, .mp 3], .dm (thE s.th), .ms 1 (nmE s.nm) none none]
def caX (p : Ca × Bool × Sto) : H := caD p.1 p.2.1 p.2.2
def caN (c : Ca) (s : Sto) : H := .cells (cellsCa c [.nl 20, .nl 7, .nl 6, .nl 2, .d (.bool false)] (.nl 5) 1) :: [.cells [.mp 2, .mp 3], .dm (thE s.th), .ms 1 (nmE s.nm) none none]
def caY (p : Ca × Bool × Sto) : H := .cells (cellsCa p.1 [.nl 20, .nl 7, .nl 6, .nl 2, .d (.bool p.2.1)] (.nl 5) 1) :: [.cells [.mp 2, .mp 3], .dm (thE p.2.2.th), .ms 1 (nmE p.2.2.nm) none none]
theorem push241 {K : Out → H → Prop} (c : Ca) (s : Sto) (v : Va) (hl : c.t.c.st.length < 1000000000) (hk : K (.ret (.tu [])) (caB { c with t := { c.t with c := pushC c.t.c v } } s)) : Sat Tryz.prog 241 [.p 0 0, agV v] (caB c s) K := by
 have h1 := push48 c.t.c v hl
 refine s241 (keep := false) rfl ?_
 repeat' ((conv => whnf); first | exact zf | refine zg ?_ | intro _ | refine And.intro rfl ?_ | refine ⟨_, h1, ?_⟩ | refine (h1).use ?_ | refine za ?_ | refine zl ?_ | fail)
 exact hk
def finS (c : Ca) (s : Sto) (v : Va) (ex : Bool) : Ca × Bool × Sto :=
 let t := finishT c.t v ex
 if t.st ≠ 3 ∧ t.st ≠ 4 then ({ c with t := t }, false, s) else
 match lookT t.id s.th with
 | some (i, o) => if o.k = 6 then ({ c with t := t }, true, setS s i t.id { o with v := v, ex := ex, dn := true }) else ({ c with t := t }, true, s)
 | none => ({ c with t := t }, true, s)
theorem finish72 {K : Out → H → Prop} (c : Ca) (s : Sto) (v : Va) (ex : Bool) (hqa : ∀ i o, lookT c.t.id s.th = some (i, o) → o.va.q.length < 100000000) (hk : K (.ret (.tu [])) (caX (finS c s v ex))) : Sat Tryz.prog 72 [.p 0 0, agV v, .d (.bool ex)] (caB c s) K := by
 have h1 := finish110 c.t v ex
 have hid : (finishT c.t v ex).id = c.t.id := rfl
 unfold finS at hk
 generalize finishT c.t v ex = t at h1 hid hk
 rw [← hid] at hqa
 have hq : (getO s t.id).va.q.length < 100000000 := by
  unfold getO
  cases hlk : lookT t.id s.th with
  | none => simp [noOb, noVr]
  | some p => exact hqa p.1 p.2 hlk
 by_cases h30 : t.st = 3
 ·have hnot : ¬ (t.st ≠ 3 ∧ t.st ≠ 4) := fun h => h.1 h30
  simp only [hnot, if_false] at hk
  have hg := get16 (K := fun out h => out = .ret (.tu [agOb (getO s t.id), .d (.bool (hasO s t.id))]) ∧ h = stB s) s t.id hq ⟨rfl, rfl⟩
  unfold getO hasO at hg
  cases hlk : lookT t.id s.th with
  | none =>
   rw [hlk] at hg hk
   refine s72 (keep := false) rfl ?_
   repeat' ((conv => whnf); first | exact zf | refine zg ?_ | intro _ | refine And.intro rfl ?_ | refine ⟨_, h1, ?_⟩ | refine (h1).use ?_ | refine (cfo_new (cfo_old ?_) : cfo _ (cfo (rqc _ _ _ _ 16 _ _ _ _ _ _ _) _)) | refine ⟨_, _, hg, ?_⟩ | refine za ?_ | refine zl ?_ | refine zt ?_ | refine zu ?_ | fail)
   exact hk
  | some p =>
   obtain ⟨i, o⟩ := p
   rw [hlk] at hg hk
   by_cases h6 : o.k = 6
   ·have hset := fun {K : Out → H → Prop} => set111 (K := K) s t.id i { o with v := v, ex := ex, dn := true } o hlk rfl rfl (hqa i o hlk)
    dsimp only at hk
    rw [if_pos h6] at hk
    refine s72 (keep := false) rfl ?_
    repeat' ((conv => whnf); first | exact zf | refine zg ?_ | intro _ | refine And.intro rfl ?_ | refine ⟨_, h1, ?_⟩ | refine (h1).use ?_ | refine (cfo_new (cfo_old ?_) : cfo _ (cfo (rqc _ _ _ _ 16 _ _ _ _ _ _ _) _)) | refine ⟨_, _, hg, ?_⟩ | refine (.inr ?_ : (∃ _, _) ∨ _) | refine (hset ?_) | refine za ?_ | refine zl ?_ | refine zt ?_ | refine zu ?_ | fail)
    exact hk
   ·simp only [h6, if_false] at hk
    refine s72 (keep := false) rfl ?_
    repeat' ((conv => whnf); first | exact zf | refine zg ?_ | intro _ | refine And.intro rfl ?_ | refine ⟨_, h1, ?_⟩ | refine (h1).use ?_ | refine (cfo_new (cfo_old ?_) : cfo _ (cfo (rqc _ _ _ _ 16 _ _ _ _ _ _ _) _)) | refine ⟨_, _, hg, ?_⟩ | refine za ?_ | refine zl ?_ | refine zt ?_ | refine zu ?_ | fail)
    exact hk
 ·by_cases h3 : t.st = 4
  ·have hnot : ¬ (t.st ≠ 3 ∧ t.st ≠ 4) := fun h => h.2 h3
   simp only [hnot, if_false] at hk
   have hg := get16 (K := fun out h => out = .ret (.tu [agOb (getO s t.id), .d (.bool (hasO s t.id))]) ∧ h = stB s) s t.id hq ⟨rfl, rfl⟩
   unfold getO hasO at hg
   cases hlk : lookT t.id s.th with
   | none =>
    rw [hlk] at hg hk
    refine s72 (keep := false) rfl ?_
    repeat' ((conv => whnf); first | exact zf | refine zg ?_ | intro _ | refine And.intro rfl ?_ | refine ⟨_, h1, ?_⟩ | refine (h1).use ?_ | refine (cfo_new (cfo_old ?_) : cfo _ (cfo (rqc _ _ _ _ 16 _ _ _ _ _ _ _) _)) | refine ⟨_, _, hg, ?_⟩ | refine za ?_ | refine zl ?_ | refine zt ?_ | refine zu ?_ | fail)
    exact hk
   | some p =>
    obtain ⟨i, o⟩ := p
    rw [hlk] at hg hk
    by_cases h6 : o.k = 6
    ·have hset := fun {K : Out → H → Prop} => set111 (K := K) s t.id i { o with v := v, ex := ex, dn := true } o hlk rfl rfl (hqa i o hlk)
     dsimp only at hk
     rw [if_pos h6] at hk
     refine s72 (keep := false) rfl ?_
     repeat' ((conv => whnf); first | exact zf | refine zg ?_ | intro _ | refine And.intro rfl ?_ | refine ⟨_, h1, ?_⟩ | refine (h1).use ?_ | refine (cfo_new (cfo_old ?_) : cfo _ (cfo (rqc _ _ _ _ 16 _ _ _ _ _ _ _) _)) | refine ⟨_, _, hg, ?_⟩ | refine (.inr ?_ : (∃ _, _) ∨ _) | refine (hset ?_) | refine za ?_ | refine zl ?_ | refine zt ?_ | refine zu ?_ | fail)
     exact hk
    ·simp only [h6, if_false] at hk
     refine s72 (keep := false) rfl ?_
     repeat' ((conv => whnf); first | exact zf | refine zg ?_ | intro _ | refine And.intro rfl ?_ | refine ⟨_, h1, ?_⟩ | refine (h1).use ?_ | refine (cfo_new (cfo_old ?_) : cfo _ (cfo (rqc _ _ _ _ 16 _ _ _ _ _ _ _) _)) | refine ⟨_, _, hg, ?_⟩ | refine za ?_ | refine zl ?_ | refine zt ?_ | refine zu ?_ | fail)
     exact hk
  ·have hyes : t.st ≠ 3 ∧ t.st ≠ 4 := ⟨h30, h3⟩
   rw [if_pos hyes] at hk
   refine s72 (keep := false) rfl ?_
   repeat' ((conv => whnf); first | exact zf | refine zg ?_ | intro _ | refine And.intro rfl ?_ | refine ⟨_, h1, ?_⟩ | refine (h1).use ?_ | refine za ?_ | refine zl ?_ | refine zt ?_ | refine zu ?_ | fail)
   exact hk
theorem finish72N {K : Out → H → Prop} (c : Ca) (s : Sto) (v : Va) (ex : Bool) (hqa : ∀ i o, lookT c.t.id s.th = some (i, o) → o.va.q.length < 100000000) (hk : K (.ret (.tu [])) (caY (finS c s v ex))) : Sat Tryz.prog 72 [.p 0 0, agV v, .d (.bool ex)] (caN c s) K := by
 have h1 := finish110 c.t v ex
 have hid : (finishT c.t v ex).id = c.t.id := rfl
 unfold finS at hk
 generalize finishT c.t v ex = t at h1 hid hk
 rw [← hid] at hqa
 have hq : (getO s t.id).va.q.length < 100000000 := by
  unfold getO
  cases hlk : lookT t.id s.th with
  | none => simp [noOb, noVr]
  | some p => exact hqa p.1 p.2 hlk
 by_cases h30 : t.st = 3
 ·have hnot : ¬ (t.st ≠ 3 ∧ t.st ≠ 4) := fun h => h.1 h30
  simp only [hnot, if_false] at hk
  have hg := get16 (K := fun out h => out = .ret (.tu [agOb (getO s t.id), .d (.bool (hasO s t.id))]) ∧ h = stB s) s t.id hq ⟨rfl, rfl⟩
  unfold getO hasO at hg
  cases hlk : lookT t.id s.th with
  | none =>
   rw [hlk] at hg hk
   refine s72 (keep := false) rfl ?_
   repeat' ((conv => whnf); first | exact zf | refine zg ?_ | intro _ | refine And.intro rfl ?_ | refine ⟨_, h1, ?_⟩ | refine (h1).use ?_ | refine (cfo_new (cfo_old ?_) : cfo _ (cfo (rqc _ _ _ _ 16 _ _ _ _ _ _ _) _)) | refine ⟨_, _, hg, ?_⟩ | refine za ?_ | refine zl ?_ | refine zt ?_ | refine zu ?_ | fail)
   exact hk
  | some p =>
   obtain ⟨i, o⟩ := p
   rw [hlk] at hg hk
   by_cases h6 : o.k = 6
   ·have hset := fun {K : Out → H → Prop} => set111 (K := K) s t.id i { o with v := v, ex := ex, dn := true } o hlk rfl rfl (hqa i o hlk)
    dsimp only at hk
    rw [if_pos h6] at hk
    refine s72 (keep := false) rfl ?_
    repeat' ((conv => whnf); first | exact zf | refine zg ?_ | intro _ | refine And.intro rfl ?_ | refine ⟨_, h1, ?_⟩ | refine (h1).use ?_ | refine (cfo_new (cfo_old ?_) : cfo _ (cfo (rqc _ _ _ _ 16 _ _ _ _ _ _ _) _)) | refine ⟨_, _, hg, ?_⟩ | refine (.inr ?_ : (∃ _, _) ∨ _) | refine (hset ?_) | refine za ?_ | refine zl ?_ | refine zt ?_ | refine zu ?_ | fail)
    exact hk
   ·simp only [h6, if_false] at hk
    refine s72 (keep := false) rfl ?_
    repeat' ((conv => whnf); first | exact zf | refine zg ?_ | intro _ | refine And.intro rfl ?_ | refine ⟨_, h1, ?_⟩ | refine (h1).use ?_ | refine (cfo_new (cfo_old ?_) : cfo _ (cfo (rqc _ _ _ _ 16 _ _ _ _ _ _ _) _)) | refine ⟨_, _, hg, ?_⟩ | refine za ?_ | refine zl ?_ | refine zt ?_ | refine zu ?_ | fail)
    exact hk
 ·by_cases h3 : t.st = 4
  ·have hnot : ¬ (t.st ≠ 3 ∧ t.st ≠ 4) := fun h => h.2 h3
   simp only [hnot, if_false] at hk
   have hg := get16 (K := fun out h => out = .ret (.tu [agOb (getO s t.id), .d (.bool (hasO s t.id))]) ∧ h = stB s) s t.id hq ⟨rfl, rfl⟩
   unfold getO hasO at hg
   cases hlk : lookT t.id s.th with
   | none =>
    rw [hlk] at hg hk
    refine s72 (keep := false) rfl ?_
    repeat' ((conv => whnf); first | exact zf | refine zg ?_ | intro _ | refine And.intro rfl ?_ | refine ⟨_, h1, ?_⟩ | refine (h1).use ?_ | refine (cfo_new (cfo_old ?_) : cfo _ (cfo (rqc _ _ _ _ 16 _ _ _ _ _ _ _) _)) | refine ⟨_, _, hg, ?_⟩ | refine za ?_ | refine zl ?_ | refine zt ?_ | refine zu ?_ | fail)
    exact hk
   | some p =>
    obtain ⟨i, o⟩ := p
    rw [hlk] at hg hk
    by_cases h6 : o.k = 6
    ·have hset := fun {K : Out → H → Prop} => set111 (K := K) s t.id i { o with v := v, ex := ex, dn := true } o hlk rfl rfl (hqa i o hlk)
     dsimp only at hk
     rw [if_pos h6] at hk
     refine s72 (keep := false) rfl ?_
     repeat' ((conv => whnf); first | exact zf | refine zg ?_ | intro _ | refine And.intro rfl ?_ | refine ⟨_, h1, ?_⟩ | refine (h1).use ?_ | refine (cfo_new (cfo_old ?_) : cfo _ (cfo (rqc _ _ _ _ 16 _ _ _ _ _ _ _) _)) | refine ⟨_, _, hg, ?_⟩ | refine (.inr ?_ : (∃ _, _) ∨ _) | refine (hset ?_) | refine za ?_ | refine zl ?_ | refine zt ?_ | refine zu ?_ | fail)
     exact hk
    ·simp only [h6, if_false] at hk
     refine s72 (keep := false) rfl ?_
     repeat' ((conv => whnf); first | exact zf | refine zg ?_ | intro _ | refine And.intro rfl ?_ | refine ⟨_, h1, ?_⟩ | refine (h1).use ?_ | refine (cfo_new (cfo_old ?_) : cfo _ (cfo (rqc _ _ _ _ 16 _ _ _ _ _ _ _) _)) | refine ⟨_, _, hg, ?_⟩ | refine za ?_ | refine zl ?_ | refine zt ?_ | refine zu ?_ | fail)
     exact hk
  ·have hyes : t.st ≠ 3 ∧ t.st ≠ 4 := ⟨h30, h3⟩
   rw [if_pos hyes] at hk
   refine s72 (keep := false) rfl ?_
   repeat' ((conv => whnf); first | exact zf | refine zg ?_ | intro _ | refine And.intro rfl ?_ | refine ⟨_, h1, ?_⟩ | refine (h1).use ?_ | refine za ?_ | refine zl ?_ | refine zt ?_ | refine zu ?_ | fail)
   exact hk
def raiseS (c : Ca) (s : Sto) (k : Co) (code : Int) : Ca × Bool × Sto :=
 let r := raise k code c.tr
 let c' : Ca := { c with t := { c.t with c := r.1 } }
 bif r.2.k == 2 then finS c' s r.2.v true else (c', false, s)
theorem raise75 {K : Out → H → Prop} (c : Ca) (s : Sto) (k : Co) (code : Int) (hf : k.fr.length < 1000000000) (hst : k.st.length < 1000000000) (hqa : ∀ i o, lookT c.t.id s.th = some (i, o) → o.va.q.length < 100000000) (hk : K (.ret (.tu [])) (caX (raiseS c s k code))) :
  Sat Tryz.prog 75 [.p 0 0, agC k, .d (.int .i64 code)] (caB c s) K := by
 have h1 := raise28 k code c.tr hf hst
 unfold raiseS at hk
 generalize raise k code c.tr = r at h1 hk
 have h2 := fun {K : Out → H → Prop} => finish72 (K := K) { c with t := { c.t with c := r.1 } } s r.2.v true hqa
 cases hb : r.2.k == 2 with
 | true =>
  simp only [hb, cond_true] at hk
  refine s75 (keep := false) rfl ?_
  repeat' ((conv => whnf); first | exact zf | refine zg ?_ | intro _ | refine And.intro rfl ?_ | refine ⟨_, h1, ?_⟩ | refine (h1).use ?_ | refine (.inr ?_ : (∃ _, _) ∨ _) | refine (h2 ?_) | refine za ?_ | refine zl ?_ | refine zt ?_ | refine zu ?_ | fail)
  exact hk
 | false =>
  simp only [hb, cond_false] at hk
  refine s75 (keep := false) rfl ?_
  repeat' ((conv => whnf); first | exact zf | refine zg ?_ | intro _ | refine And.intro rfl ?_ | refine ⟨_, h1, ?_⟩ | refine (h1).use ?_ | refine za ?_ | refine zl ?_ | refine zt ?_ | refine zu ?_ | fail)
  exact hk
def exV (n : Int) : V := .fc 2000239 [.d (.int .i64 n)]
theorem except249 {K : Out → H → Prop} (n : Int) (hk : K (.pan (exV n)) []) : Sat Tryz.prog 249 [.d (.int .i64 n)] [] K := by
 refine s249 (keep := false) rfl ?_
 repeat' ((conv => whnf); first | exact zf | refine zg ?_ | intro _ | refine And.intro rfl ?_ | refine za ?_ | refine zl ?_ | fail)
 exact hk
theorem may_ok {K : Out → H → Prop} (hk : K (.ret (.tu [])) []) : Sat Tryz.prog 236 [.d (.int .i64 0)] [] K := by
 refine s236 (keep := false) rfl ?_
 repeat' ((conv => whnf); first | exact zf | refine zg ?_ | intro _ | refine And.intro rfl ?_ | refine za ?_ | refine zl ?_ | refine zt ?_ | refine zu ?_ | fail)
 exact hk
theorem may_no {K : Out → H → Prop} (n : Int) (hn : n ≠ 0) (hk : K (.pan (exV n)) []) : Sat Tryz.prog 236 [.d (.int .i64 n)] [] K := by
 refine s236 (keep := false) rfl ?_
 repeat' ((conv => whnf); first | exact zf | refine zg ?_ | intro _ | refine And.intro rfl ?_ | refine (except249 n ?_) | refine za ?_ | refine zl ?_ | refine zt ?_ | refine zu ?_ | fail)
 exact hk
theorem taint_ok {K : Out → H → Prop} (c : Ca) (s : Sto) (l : Lb) (hs : smG c.t.g) (hl : smL l) (hj : smL (joinL c.t.g.cur l)) (he : taintE c.t.g l = 0) (hk : K (.ret (.tu [])) (caB { c with t := { c.t with g := taintG c.t.g l } } s)) : Sat Tryz.prog 234 [.p 0 0, agL l] (caB c s) K := by
 have h1 := taint282 c.t.g l hs hl hj
 rw [he] at h1
 refine s234 (keep := false) rfl ?_
 repeat' ((conv => whnf); first | exact zf | refine zg ?_ | intro _ | refine And.intro rfl ?_ | refine ⟨_, h1, ?_⟩ | refine (h1).use ?_ | refine (may_ok ?_) | refine za ?_ | refine zl ?_ | fail)
 exact hk
theorem taint_no {K : Out → H → Prop} (c : Ca) (s : Sto) (l : Lb) (hs : smG c.t.g) (hl : smL l) (hj : smL (joinL c.t.g.cur l)) (he : taintE c.t.g l ≠ 0) (hk : K (.pan (exV (taintE c.t.g l))) (caB c s)) : Sat Tryz.prog 234 [.p 0 0, agL l] (caB c s) K := by
 have h1 := taint282 c.t.g l hs hl hj
 refine s234 (keep := false) rfl ?_
 repeat' ((conv => whnf); first | exact zf | refine zg ?_ | intro _ | refine And.intro rfl ?_ | refine ⟨_, h1, ?_⟩ | refine (h1).use ?_ | refine (may_no _ he ?_) | refine za ?_ | refine zl ?_ | fail)
 exact hk
theorem name_ok {K : Out → H → Prop} (c : Ca) (s : Sto) (p : List Nat) (n : Nat) (hp : c.t.pa = txt p) (hm : c.t.ma = n) (h0 : p ≠ []) (hl : p.length < 24) (hs : ∀ n ∈ p, n < 100) (hn : n < 100) (hr : 1 ≤ c.t.ro) (hr2 : c.t.ro < 1000000000) (hk : K (.ret (.d (.str (txt (p ++ [n]))))) (caB { c with t := nameU c.t } s)) :
  Sat Tryz.prog 250 [.p 0 0] (caB c s) K := by
 have h1 := name292 c.t p n hp hm h0 hl hs hn hr hr2
 refine s250 (keep := false) rfl ?_
 repeat' ((conv => whnf); first | exact zf | refine zg ?_ | intro _ | refine And.intro rfl ?_ | refine ⟨_, h1, ?_⟩ | refine (h1).use ?_ | refine za ?_ | refine zl ?_ | refine zt ?_ | refine zu ?_ | fail)
 exact hk
theorem name_no {K : Out → H → Prop} (c : Ca) (s : Sto) (hr : c.t.ro < 1) (hk : K (.pan (exV (-5))) (caB c s)) : Sat Tryz.prog 250 [.p 0 0] (caB c s) K := by
 have h1 := name292n c.t hr
 refine s250 (keep := false) rfl ?_
 repeat' ((conv => whnf); first | exact zf | refine zg ?_ | intro _ | refine And.intro rfl ?_ | refine ⟨_, h1, ?_⟩ | refine (h1).use ?_ | refine (except249 _ ?_) | refine za ?_ | refine zl ?_ | refine zt ?_ | refine zu ?_ | fail)
 exact hk
def addC (c : Ca) (nm : List UInt8) (o : Ob) : Ca := { c with t := { c.t with c := pushC c.t.c ⟨o.k, 0, nm, o.l.s, o.l.i⟩ } }
theorem add252 {K : Out → H → Prop} (c : Ca) (s : Sto) (kp : List Nat) (o : Ob) (hkp : goodN kp) (hs : goodS s) (hl : smL o.l) (h3 : 3 ≤ o.k) (h7 : o.k ≤ 7) (hr : okL o.l = true) (hq : o.va.q.length < 100000000) (hf : lookT (txt kp) s.th = none) (hst : c.t.c.st.length < 1000000000)
  (hk : ∀ b, K (.ret (.tu [])) (caB (addC c (txt kp) o) (addS s kp o b))) : Sat Tryz.prog 252 [.p 0 0, .d (.str (txt kp)), agOb o] (caB c s) K := by
 have h1 := fun {K : Out → H → Prop} => add_ok (K := K) s kp o hkp hs hl h3 h7 hr hq hf
 have h2 := fun {K : Out → H → Prop} (b : Option Nat) => push241 (K := K) c (addS s kp o b) ⟨o.k, 0, txt kp, o.l.s, o.l.i⟩ hst
 refine s252 (keep := false) rfl ?_
 repeat' ((conv => whnf); first | exact zf | refine zg ?_ | intro _ | refine And.intro rfl ?_ | refine (.inr ?_ : (∃ _, _) ∨ _) | refine (h1 (fun b => ?_)) | refine (h2 _ ?_) | refine za ?_ | refine zl ?_ | fail)
 exact hk _
theorem make_ok {K : Out → H → Prop} (c : Ca) (s : Sto) (p : List Nat) (n : Nat) (o : Ob) (hg : smG c.t.g) (hw : writeG c.t.g o.l = 0) (hp : c.t.pa = txt p) (hm : c.t.ma = n) (h0 : p ≠ []) (hl : p.length < 24) (hps : ∀ n ∈ p, n < 100) (hn : n < 100) (hr : 1 ≤ c.t.ro) (hr2 : c.t.ro < 1000000000)
  (hkp : goodN (p ++ [n])) (hs : goodS s) (hol : smL o.l) (h3 : 3 ≤ o.k) (h7 : o.k ≤ 7) (hro : okL o.l = true) (hq : o.va.q.length < 100000000) (hf : lookT (txt (p ++ [n])) s.th = none) (hst : c.t.c.st.length < 1000000000)
  (hk : ∀ b, K (.ret (.tu [])) (caB (addC { c with t := nameU c.t } (txt (p ++ [n])) o) (addS s (p ++ [n]) o b))) : Sat Tryz.prog 237 [.p 0 0, agOb o] (caB c s) K := by
 have h1 := write242 c.t.g o.l hg hol
 rw [hw] at h1
 have h2 := fun {K : Out → H → Prop} => name_ok (K := K) c s p n hp hm h0 hl hps hn hr hr2
 have h4 := fun {K : Out → H → Prop} => add252 (K := K) { c with t := nameU c.t } s (p ++ [n]) o hkp hs hol h3 h7 hro hq hf hst
 refine s237 (keep := false) rfl ?_
 repeat' ((conv => whnf); first | exact zf | refine zg ?_ | intro _ | refine And.intro rfl ?_ | refine ⟨_, h1, ?_⟩ | refine (h1).use ?_ | refine za ?_ | refine zl ?_ | fail)
 conv => whnf
 refine may_ok ?_
 repeat' ((conv => whnf); first | exact zf | refine zg ?_ | intro _ | refine And.intro rfl ?_ | refine (cuo_new ?_) | refine (.inr ?_ : (∃ _, _) ∨ _) | refine (h2 ?_) | refine (h4 (fun b => ?_)) | refine za ?_ | refine zl ?_ | refine And.intro ?_ ?_ | fail)
 all_goals exact hk _
end Go.Proofs.YtjpgfgajkjhonaaGreatDoor
