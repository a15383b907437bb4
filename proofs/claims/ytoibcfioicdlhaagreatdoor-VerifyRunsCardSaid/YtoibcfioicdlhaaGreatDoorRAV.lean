/- What is known of the ops: the table's rows. Conditions: none. -/
import Derived.Test.YtoibcfioicdlhaaGreatDoorRAU
namespace Go.Proofs.YtoibcfioicdlhaaGreatDoor
open Go.Vx
set_option maxRecDepth 100000

structure Info where
  nm : List UInt8
  ar : Int
  po : Int
  pu : Int
def infoOf : List D → Option Info
  | [.str s, .int .u8 a, .int .u8 p, .int .u8 q] => some ⟨s, a, p, q⟩
  | _ => none
def fitsI (r : List D) : Bool := match infoOf r with
  | some i => decide (0 ≤ i.ar) && (decide (i.ar ≤ 5) && (decide (0 ≤ i.po) && (decide (i.po ≤ 4) && (decide (0 ≤ i.pu) && decide (i.pu ≤ 2)))))
  | none => false
theorem rows_fit : opRows.all fitsI = true := rfl
theorem infoOf_eq {r : List D} {i : Info} (h : infoOf r = some i) : r = [.str i.nm, .int .u8 i.ar, .int .u8 i.po, .int .u8 i.pu] := by
  unfold infoOf at h
  split at h
  · cases h; rfl
  · cases h
/-- What is known of a code. -/
def inf (c : Int) : Option Info := bif decide (1 ≤ c) && decide (c ≤ 47) then (opRows[(c - 1).toNat]?).bind infoOf else none
def last (c : Int) : Bool := (c == 15) || ((c == 18) || (c == 19))
def aboutR (c : Int) : V := match inf c with
  | some i => .tu [.ag [.d (.str i.nm), .d (.int .i64 i.ar), .d (.int .i64 i.po), .d (.int .i64 i.pu), .d (.bool (last c))], .d (.bool true)]
  | none => .tu [.ag [.d (.str []), .d (.int .i64 0), .d (.int .i64 0), .d (.int .i64 0), .d (.bool false)], .d (.bool false)]

theorem inf_yes {c : Int} (h1 : 1 ≤ c) (h2 : c ≤ 47) : ∃ i, inf c = some i ∧ (chunk 4 47 (opRows.flatten.drop 0))[(c - 1).toNat]? = some [.str i.nm, .int .u8 i.ar, .int .u8 i.po, .int .u8 i.pu] ∧
    0 ≤ i.ar ∧ i.ar ≤ 5 ∧ 0 ≤ i.po ∧ i.po ≤ 4 ∧ 0 ≤ i.pu ∧ i.pu ≤ 2 := by
  have hlen : opRows.length = 47 := rfl
  have hc : chunk 4 47 (opRows.flatten.drop 0) = opRows := rfl
  obtain ⟨r, hr⟩ : ∃ r, opRows[(c - 1).toNat]? = some r := ⟨_, List.getElem?_eq_getElem (by omega)⟩
  have hf := List.all_eq_true.1 rows_fit r (List.mem_of_getElem? hr)
  unfold fitsI at hf
  cases hi : infoOf r with
  | none => rw [hi] at hf; cases hf
  | some i =>
    rw [hi] at hf
    simp only [Bool.and_eq_true, decide_eq_true_eq] at hf
    refine ⟨i, by unfold inf; rw [show (decide (1 ≤ c) && decide (c ≤ 47)) = true by simp [h1, h2]]; simp only [cond_true, hr, Option.bind_some, hi], ?_, hf.1, hf.2.1, hf.2.2.1, hf.2.2.2.1, hf.2.2.2.2.1, hf.2.2.2.2.2⟩
    rw [hc, hr, infoOf_eq hi]
theorem inf_no {c : Int} (h : c < 1 ∨ 47 < c) : inf c = none := by
  have : (decide (1 ≤ c) && decide (c ≤ 47)) = false := by
    cases hh : (decide (1 ≤ c) && decide (c ≤ 47)) with
    | false => rfl
    | true => simp at hh; omega
  simp [inf, this]
theorem inf_some {c : Int} {i : Info} (h : inf c = some i) : 1 ≤ c ∧ c ≤ 47 ∧ 0 ≤ i.ar ∧ i.ar ≤ 5 ∧ 0 ≤ i.po ∧ i.po ≤ 4 ∧ 0 ≤ i.pu ∧ i.pu ≤ 2 := by
  by_cases h0 : 1 ≤ c ∧ c ≤ 47
  · obtain ⟨i', h1, _, h2⟩ := inf_yes h0.1 h0.2
    rw [h] at h1; cases h1
    exact ⟨h0.1, h0.2, h2⟩
  · rw [inf_no (by omega)] at h; cases h

theorem about19 (c : Int) : SatP Tryz.prog 19 [.d (.int .i64 c)] (aboutR c) := by
  by_cases h0 : 1 ≤ c ∧ c ≤ 47
  · obtain ⟨i, h1, h2, h3⟩ := inf_yes h0.1 h0.2
    have hr : aboutR c = .tu [.ag [.d (.str i.nm), .d (.int .i64 i.ar), .d (.int .i64 i.po), .d (.int .i64 i.pu), .d (.bool (last c))], .d (.bool true)] := by simp only [aboutR, h1]
    rw [hr]
    refine s19 (keep := false) rfl ?_
    repeat' ((conv => whnf); first | ((with_reducible refine And.intro (?_ : @Eq Out _ _) (?_ : @Eq H _ _)) <;> exact rfl) | ((with_reducible refine And.intro (?_ : @Eq Out _ _) (?_ : @Eq H _ _)); rotate_left; exact rfl) | intro _ | refine And.intro rfl ?_ | refine apn_own ?_ | refine bsn_data ?_ | refine fro_nil ?_ | refine cfo_old ?_ | ((first | refine .inl (And.intro ?_ ?_) | refine And.intro ?_ ?_); focus ((repeat' apply And.intro) <;> first | rfl | omega | (unfold inR; omega) | (simp; done) | (unfold inR; simp at *; omega) | (simp at *; omega) | (intros; contradiction))) | fail)
    refine sp_intro (fun hb => absurd hb (by simp; omega)) (fun hb => ?_)
    repeat' ((conv => whnf); first | ((with_reducible refine And.intro (?_ : @Eq Out _ _) (?_ : @Eq H _ _)) <;> exact rfl) | ((with_reducible refine And.intro (?_ : @Eq Out _ _) (?_ : @Eq H _ _)); rotate_left; exact rfl) | intro _ | refine And.intro rfl ?_ | refine apn_own ?_ | refine bsn_data ?_ | refine fro_nil ?_ | refine cfo_old ?_ | ((first | refine .inl (And.intro ?_ ?_) | refine And.intro ?_ ?_); focus ((repeat' apply And.intro) <;> first | rfl | omega | (unfold inR; omega) | (simp; done) | (unfold inR; simp at *; omega) | (simp at *; omega) | (intros; contradiction))) | fail)
    refine sp_intro (fun hb => absurd hb (by simp; omega)) (fun hb => ?_)
    repeat' ((conv => whnf); first | ((with_reducible refine And.intro (?_ : @Eq Out _ _) (?_ : @Eq H _ _)) <;> exact rfl) | ((with_reducible refine And.intro (?_ : @Eq Out _ _) (?_ : @Eq H _ _)); rotate_left; exact rfl) | intro _ | refine And.intro rfl ?_ | refine apn_own ?_ | refine bsn_data ?_ | refine fro_nil ?_ | refine cfo_old ?_ | ((first | refine .inl (And.intro ?_ ?_) | refine And.intro ?_ ?_); focus ((repeat' apply And.intro) <;> first | rfl | omega | (unfold inR; omega) | (simp; done) | (unfold inR; simp at *; omega) | (simp at *; omega) | (intros; contradiction))) | fail)
    refine ⟨_, ⟨by omega, h2, by decide +kernel⟩, ?_⟩
    repeat' ((conv => whnf); first | ((with_reducible refine And.intro (?_ : @Eq Out _ _) (?_ : @Eq H _ _)) <;> exact rfl) | ((with_reducible refine And.intro (?_ : @Eq Out _ _) (?_ : @Eq H _ _)); rotate_left; exact rfl) | intro _ | refine And.intro rfl ?_ | refine apn_own ?_ | refine bsn_data ?_ | refine fro_nil ?_ | refine cfo_old ?_ | ((first | refine .inl (And.intro ?_ ?_) | refine And.intro ?_ ?_); focus ((repeat' apply And.intro) <;> first | rfl | omega | (unfold inR; omega) | (simp; done) | (unfold inR; simp at *; omega) | (simp at *; omega) | (intros; contradiction))) | refine sp_intro (fun hb => ?_) (fun hb => ?_) | fail)
    all_goals
      refine outs_eq (congrArg (fun b => V.tu [V.ag [V.d (.str i.nm), V.d (.int .i64 i.ar), V.d (.int .i64 i.po), V.d (.int .i64 i.pu), V.d (.bool b)], V.d (.bool true)]) ?_)
      first
        | (simp_all [last]; done)
        | (have a1 : (c == 15) = false := by simp_all
           have a2 : (c == 18) = false := by simp_all
           simp [last, a1, a2])
  · have hr : aboutR c = .tu [.ag [.d (.str []), .d (.int .i64 0), .d (.int .i64 0), .d (.int .i64 0), .d (.bool false)], .d (.bool false)] := by simp only [aboutR, inf_no (c := c) (by omega)]
    rw [hr]
    refine s19 (keep := false) rfl ?_
    repeat' ((conv => whnf); first | ((with_reducible refine And.intro (?_ : @Eq Out _ _) (?_ : @Eq H _ _)) <;> exact rfl) | ((with_reducible refine And.intro (?_ : @Eq Out _ _) (?_ : @Eq H _ _)); rotate_left; exact rfl) | intro _ | refine And.intro rfl ?_ | refine apn_own ?_ | refine bsn_data ?_ | refine fro_nil ?_ | refine cfo_old ?_ | ((first | refine .inl (And.intro ?_ ?_) | refine And.intro ?_ ?_); focus ((repeat' apply And.intro) <;> first | rfl | omega | (unfold inR; omega) | (simp; done) | (unfold inR; simp at *; omega) | (simp at *; omega) | (intros; contradiction))) | refine sp_intro (fun hb => ?_) (fun hb => ?_) | fail)
    all_goals
      exfalso
      simp at *
      omega
end Go.Proofs.YtoibcfioicdlhaaGreatDoor
namespace Go.Proofs.YtoibcfioicdlhaaGreatDoor
open Go.Vx

structure Op where
  c : Int
  a : Int
def encO (o : Op) : List D := [.int .i64 o.c, .int .i64 o.a]
def agO (o : Op) : V := .ag [.d (.int .i64 o.c), .d (.int .i64 o.a)]
structure Fn where
  args : Int
  vars : Int
  code : List Op
def encFn (f : Fn) : List D := [.int .i64 f.args, .int .i64 f.vars, .sl 2 (f.code.map encO)]
structure Im where
  cs : List Va
  fs : List Fn
def agI (im : Im) : V := .ag [.d (.sl 5 (im.cs.map encV)), .d (.sl 3 (im.fs.map encFn))]

theorem about_yes {c : Int} {i : Info} (h : inf c = some i) : SatP Tryz.prog 19 [.d (.int .i64 c)] (.tu [.ag [.d (.str i.nm), .d (.int .i64 i.ar), .d (.int .i64 i.po), .d (.int .i64 i.pu), .d (.bool (last c))], .d (.bool true)]) := by
  have := about19 c
  simp only [aboutR, h] at this
  exact this
theorem about_no {c : Int} (h : inf c = none) : SatP Tryz.prog 19 [.d (.int .i64 c)] (.tu [.ag [.d (.str []), .d (.int .i64 0), .d (.int .i64 0), .d (.int .i64 0), .d (.bool false)], .d (.bool false)]) := by
  have := about19 c
  simp only [aboutR, h] at this
  exact this

def rightB (o : Op) : Bool := match inf o.c with
  | some i => bif i.ar == 0 then o.a == 0 else decide (0 ≤ o.a) && decide (o.a ≤ 65535)
  | none => false
theorem right44 (o : Op) : SatP Tryz.prog 44 [agO o] (.d (.bool (rightB o))) := by
  refine s44 (keep := false) rfl ?_
  cases hi : inf o.c with
  | none =>
    have h := about_no hi
    repeat' ((conv => whnf); first | ((with_reducible refine And.intro (?_ : @Eq Out _ _) (?_ : @Eq H _ _)) <;> exact rfl) | ((with_reducible refine And.intro (?_ : @Eq Out _ _) (?_ : @Eq H _ _)); rotate_left; exact rfl) | intro _ | refine And.intro rfl ?_ | refine ⟨_, h, ?_⟩ | refine (h).use ?_ | refine apn_own ?_ | refine bsn_data ?_ | refine fro_nil ?_ | refine cfo_old ?_ | ((first | refine .inl (And.intro ?_ ?_) | refine And.intro ?_ ?_); focus ((repeat' apply And.intro) <;> first | rfl | omega | (unfold inR; omega) | (simp; done) | (unfold inR; simp at *; omega) | (simp at *; omega) | (intros; contradiction))) | refine sp_intro (fun hb => ?_) (fun hb => ?_) | fail)
    refine outs_eq (congrArg (fun x => V.d (.bool x)) ?_)
    simp [rightB, hi]
  | some i =>
    have h := about_yes hi
    repeat' ((conv => whnf); first | ((with_reducible refine And.intro (?_ : @Eq Out _ _) (?_ : @Eq H _ _)) <;> exact rfl) | ((with_reducible refine And.intro (?_ : @Eq Out _ _) (?_ : @Eq H _ _)); rotate_left; exact rfl) | intro _ | refine And.intro rfl ?_ | refine ⟨_, h, ?_⟩ | refine (h).use ?_ | refine apn_own ?_ | refine bsn_data ?_ | refine fro_nil ?_ | refine cfo_old ?_ | ((first | refine .inl (And.intro ?_ ?_) | refine And.intro ?_ ?_); focus ((repeat' apply And.intro) <;> first | rfl | omega | (unfold inR; omega) | (simp; done) | (unfold inR; simp at *; omega) | (simp at *; omega) | (intros; contradiction))) | refine sp_intro (fun hb => ?_) (fun hb => ?_) | fail)
    all_goals
      refine outs_eq (congrArg (fun x => V.d (.bool x)) ?_)
      simp only [rightB, hi]
      rcases Decidable.em (i.ar = 0) with e0 | e0
      · simp_all
      · have e1 : (i.ar == 0) = false := by simpa using e0
        rw [e1, cond_false]
        clear e1
        simp_all
        try omega
/-- How many values an op takes. -/
def takes (im : Im) (o : Op) : Int := match inf o.c with
  | some i => bif o.c == 17 then i.po + (match im.fs[o.a.toNat]? with | some g => g.args | none => 0) else i.po
  | none => 0
structure Ou where
  k : Int
  v : Va
  o : Op
def o0 : Op := ⟨0, 0⟩
end Go.Proofs.YtoibcfioicdlhaaGreatDoor
namespace Go.Proofs.YtoibcfioicdlhaaGreatDoor
open Go.Vx

/-- What a program must be like to be walked. -/
structure okI (im : Im) : Prop where
  args : ∀ (i : Nat) (g : Fn), im.fs[i]? = some g → inR .i64 g.args

end Go.Proofs.YtoibcfioicdlhaaGreatDoor
namespace Go.Proofs.YtoibcfioicdlhaaGreatDoor
open Go.Vx

/-- What a machine is made with. -/
structure Mh where
  im : Im
  was : Co
  o : Op
  fr : Int
  tr : Int
end Go.Proofs.YtoibcfioicdlhaaGreatDoor
namespace Go.Proofs.YtoibcfioicdlhaaGreatDoor
open Go.Vx

structure Rdy (m : Mh) (f : Fr) : Prop where
  hl : m.was.fr.getLast? = some f
  lf : m.was.fr.length < 1000000000
  ls : m.was.st.length < 1000000000
  pc : 0 ≤ f.pc ∧ f.pc < 9223372036854775807
  po : popOk m.was (takes m.im m.o) = true
  ca : m.o.c = 17 → ∃ g, 0 ≤ m.o.a ∧ m.im.fs[m.o.a.toNat]? = some g ∧ inR .i64 g.args

/-- The last frame goes on by one place. -/
def nxt (l : List Fr) (f : Fr) : List Fr := l.set (l.length - 1) { f with pc := f.pc + 1 }
end Go.Proofs.YtoibcfioicdlhaaGreatDoor
namespace Go.Proofs.YtoibcfioicdlhaaGreatDoor
open Go.Vx

end Go.Proofs.YtoibcfioicdlhaaGreatDoor
namespace Go.Proofs.YtoibcfioicdlhaaGreatDoor
open Go.Vx

end Go.Proofs.YtoibcfioicdlhaaGreatDoor
