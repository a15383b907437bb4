/- The chapter's examples. Conditions: none. -/
import Derived.Test.YtjpgfgajkjhonaaGreatDoorQTBE
import Derived.Test.YtjpgfgajkjhonaaGreatDoorQTAW
import Derived.Test.YtjpgfgajkjhonaaGreatDoorQTAU
namespace Go.Proofs.YtjpgfgajkjhonaaGreatDoor
open Go.Vx
set_option maxRecDepth 100000
def a1 : Lb := ⟨[1], []⟩
def hi0 : Lb := ⟨[0], []⟩
def cd9 : List Op := [⟨2, 0⟩, ⟨1, 0⟩, ⟨29, 0⟩, ⟨30, 0⟩, ⟨1, 1⟩, ⟨41, 0⟩, ⟨2, 0⟩, ⟨18, 0⟩]
def im9 : Im := ⟨[mkL a1, mkL noL], [⟨1, 0, cd9⟩]⟩
def co9 (pc : Int) (st : List Va) : Co := ⟨[⟨0, pc, 0, 0, [num 5]⟩], st, []⟩
def th9 : Th := newTh [48] ⟨noL, hi0⟩ (co9 0 []) 1
def st9 (b : Option Nat) : Sto := addS eS [0, 0] (obM 3 a1 (num 5)) b
def hd9 : Va := ⟨3, 0, txt [0, 0], [1], []⟩
def S9 : Nat → SS
 | 0 => fun _ => (th9, eS)
 | 1 => fun _ => ({ th9 with c := co9 1 [num 5] }, eS)
 | 2 => fun _ => ({ th9 with c := co9 2 [num 5, mkL a1] }, eS)
 | 3 => fun b => ({ th9 with c := co9 3 [hd9], ma := 1, ro := 0 }, st9 b)
 | 4 => fun b => ({ th9 with c := co9 4 [num 5], ma := 1, ro := 0, g := ⟨a1, hi0⟩ }, st9 b)
 | _ => fun b => ({ th9 with c := co9 5 [num 5, mkL noL], ma := 1, ro := 0, g := ⟨a1, hi0⟩ }, st9 b)
def u9 (b : Option Nat) : Th × Sto := ({ th9 with c := co9 5 [num 5, mkL noL], ma := 1, ro := 0, g := ⟨a1, hi0⟩, st := 4, v := num (-3), ex := true }, st9 b)
theorem do9_0 (now : Int) (b b' : Option Nat) : doS im9 (S9 0 b).1 (S9 0 b).2 now b' = ⟨(S9 1 b).1, .no, false, (S9 1 b).2⟩ := by rfl
theorem do9_1 (now : Int) (b b' : Option Nat) : doS im9 (S9 1 b).1 (S9 1 b).2 now b' = ⟨(S9 2 b).1, .no, false, (S9 2 b).2⟩ := by rfl
theorem do9_2 (now : Int) (b b' : Option Nat) : doS im9 (S9 2 b).1 (S9 2 b).2 now b' = ⟨(S9 3 b').1, .no, false, (S9 3 b').2⟩ := by kernel_rfl
theorem do9_3 (now : Int) (b b' : Option Nat) : doS im9 (S9 3 b).1 (S9 3 b).2 now b' = ⟨(S9 4 b).1, .no, false, (S9 4 b).2⟩ := by kernel_rfl
theorem do9_4 (now : Int) (b b' : Option Nat) : doS im9 (S9 4 b).1 (S9 4 b).2 now b' = ⟨(S9 5 b).1, .no, false, (S9 5 b).2⟩ := by kernel_rfl
theorem do9_5 (now : Int) (b b' : Option Nat) : doS im9 (S9 5 b).1 (S9 5 b).2 now b' = ⟨(u9 b).1, .no, true, (u9 b).2⟩ := by kernel_rfl
theorem do9_6 (now : Int) (b b' : Option Nat) : doS im9 (u9 b).1 (u9 b).2 now b' = ⟨(u9 b).1, .no, false, (u9 b).2⟩ := by rfl
theorem res9 (b : Option Nat) : resS ⟨[49], [], noG, c00, [], 0, 0, 1, [48], noV, false⟩ (st9 b) 3 = ⟨⟨[49], [], noG, c00, [], 0, 0, 4, [], num 3, true⟩, .no, true, st9 b⟩ := by kernel_rfl
theorem do9 (i : Nat) (hi : i < 5) (now : Int) (b b' : Option Nat) : ∃ b'', doS im9 (S9 i b).1 (S9 i b).2 now b' = ⟨(S9 (i + 1) b'').1, .no, false, (S9 (i + 1) b'').2⟩ := by
 match i, hi with
 | 0, _ => exact ⟨b, do9_0 now b b'⟩
 | 1, _ => exact ⟨b, do9_1 now b b'⟩
 | 2, _ => exact ⟨b', do9_2 now b b'⟩
 | 3, _ => exact ⟨b, do9_3 now b b'⟩
 | 4, _ => exact ⟨b, do9_4 now b b'⟩
theorem okX9 (pc : Int) (st : List Va) (hst : st.length ≤ 3) (hsm : ∀ v ∈ st, smL (lbV v)) (o : Op) (hfit : fit im9 (co9 pc st) = some o) (ho : o.c ≠ 24 ∧ o.c ≠ 31) : okX im9 (co9 pc st) where
 hI := ⟨fun i g hg => by
  match i, hg with
  | 0, hg => cases hg; exact (show inR .i64 1 from ⟨by decide, by decide⟩)⟩
 cd := fun i g hg => by
  match i, hg with
  | 0, hg =>
   cases hg
   exact (show cd9.length < 1000000000 by decide)
 lf := show 1 < _ by decide
 ls := by show st.length < _; omega
 lt := show 0 < _ by decide
 ma := fun f hf => by cases hf; exact (show ((0 : Int) ≤ 0 ∧ (0 : Int) ≤ 255) ∧ [num 5].length < 1000000000 from ⟨⟨by decide, by decide⟩, by decide⟩)
 sm := hsm
 dm := fun o' h' => by rw [hfit] at h'; cases h'; exact ho
theorem ok9R (pc : Int) (st : List Va) (o : Op) {t : Th} {s : Sto} {now : Int} (ht : t.c = co9 pc st) (hsc : t.sc = []) (hst : st.length ≤ 3) (hsm : ∀ v ∈ st, smL (lbV v)) (hfit : fit im9 (co9 pc st) = some o) (ho : o.c ≠ 24 ∧ o.c ≠ 31) (hfw : fewO o.c = true)
  (hr : (stepX im9 (co9 pc st) 0 0).2.k ≠ 3) (hq : ∀ p ∈ s.th, p.2.va.q.length < 100000000) : okDo im9 t s now := by
 have e : innerT t = noSc := by unfold innerT; rw [hsc]; rfl
 refine ⟨by rw [ht]; exact step13s (okX9 pc st hst hsm o hfit ho) hfit hfw, by rw [ht]; exact (show 1 < _ by decide), by rw [ht]; show st.length < _; omega, smQ_of hq, fun h => ?_⟩
 rw [ht, e] at h
 exact absurd h hr
theorem ok9A (pc : Int) (st : List Va) (o : Op) {t : Th} {s : Sto} {now : Int} (ht : t.c = co9 pc st) (hst : st.length ≤ 3) (hsm : ∀ v ∈ st, smL (lbV v)) (hfit : fit im9 (co9 pc st) = some o) (ho : o.c ≠ 24 ∧ o.c ≠ 31) (hfw : fewO o.c = true)
  (hq : ∀ p ∈ s.th, p.2.va.q.length < 100000000) (h : (stepX im9 t.c (innerT t).fr (innerT t).tr).2.k = 3 → ∃ o f i F, stepX im9 t.c (innerT t).fr (innerT t).tr = (t.c, ⟨3, zeroV, o⟩) ∧ t.c.fr.getLast? = some f ∧ inf o.c = some i ∧ popOk t.c i.po = true ∧ (0 ≤ f.pc ∧ f.pc < 1000000000) ∧ askAt o.c F ∧ Nat.blt F 5000000 = true ∧
  (∀ {K : Out → H → Prop}, (opS (askC (ca0 im9 t now) o f i.po) s).K K → Sat Tryz.prog F [.p 0 0] (caB (askC (ca0 im9 t now) o f i.po) s) K) ∧ ∀ n c' s', opS (askC (ca0 im9 t now) o f i.po) s = .ex n c' s' → smQ s' c'.t.id) : okDo im9 t s now :=
 ⟨by rw [ht]; exact step13s (okX9 pc st hst hsm o hfit ho) hfit hfw, by rw [ht]; exact (show 1 < _ by decide), by rw [ht]; show st.length < _; omega, smQ_of hq, h⟩
theorem sm5 : smL (lbV (num 5)) := ⟨show 0 ≤ _ by decide, show 0 ≤ _ by decide⟩
theorem sma : smL a1 := ⟨show 1 ≤ _ by decide, show 0 ≤ _ by decide⟩
theorem smn : smL noL := ⟨show 0 ≤ _ by decide, show 0 ≤ _ by decide⟩
theorem smh : smL hi0 := ⟨show 1 ≤ _ by decide, show 0 ≤ _ by decide⟩
theorem one9 {b : Option Nat} : ∀ p ∈ (st9 b).th, p.2.va.q.length < 100000000 := fun p hp => by
 rw [List.mem_singleton.1 hp]
 exact (show (0 : Nat) < 100000000 by decide)
theorem txt0 : txt [0] = [48] := by kernel_rfl
theorem mk9 (q : Ca) (h1 : q.t.pa = [48]) (h2 : q.t.ma = 0) (h3 : q.t.ro = 1) (h4 : q.t.g = ⟨noL, hi0⟩) (h5 : q.t.c.st.length < 1000000000) : okMk q eS (obM 3 a1 (num 5)) := by
 have hu : untx q.t.pa 0 = [0] := by rw [h1]; rfl
 refine ⟨⟨?_, ?_, ?_, ?_, ?_, ?_, ?_⟩, ?_, sma, ⟨by decide, fun _ h => nomatch h⟩, by decide, by decide, by kernel_rfl, show (0 : Nat) < _ by decide, rfl, h5⟩
 ·rw [hu, h1, txt0]
 ·rw [hu]; decide
 ·rw [hu]; decide
 ·rw [hu]; decide
 ·rw [h2]; decide
 ·rw [h2]; decide
 ·rw [h3]; decide
 ·rw [h4]; exact ⟨smn, smh⟩
theorem m1 {v : Va} (h : smL (lbV v)) : ∀ x ∈ [v], smL (lbV x) := fun x hx => by rw [List.mem_singleton.1 hx]; exact h
theorem m2 {v w : Va} (h : smL (lbV v)) (h' : smL (lbV w)) : ∀ x ∈ [v, w], smL (lbV x) := fun x hx => by
 simp only [List.mem_cons, List.not_mem_nil, or_false] at hx
 rcases hx with rfl | rfl
 ·exact h
 ·exact h'
theorem ok9 (i : Nat) (hi : i < 6) (now : Int) (b : Option Nat) : okDo im9 (S9 i b).1 (S9 i b).2 now := by
 match i, hi with
 | 0, _ => exact ok9R 0 [] ⟨2, 0⟩ rfl rfl (by decide) (fun _ h => nomatch h) rfl ⟨by decide, by decide⟩ rfl (show (0 : Int) ≠ 3 by decide) fun _ h => no_th h
 | 1, _ => exact ok9R 1 [num 5] ⟨1, 0⟩ rfl rfl (show 1 ≤ 3 by decide) (m1 sm5) rfl ⟨by decide, by decide⟩ rfl (show (0 : Int) ≠ 3 by decide) fun _ h => no_th h
 | 2, _ => exact ok9A 2 [num 5, mkL a1] ⟨29, 0⟩ rfl (show 2 ≤ 3 by decide) (m2 sm5 sma) rfl ⟨by decide, by decide⟩ rfl (fun _ h => no_th h) fun _ => ⟨⟨29, 0⟩, ⟨0, 2, 0, 0, [num 5]⟩, _, 174, rfl, rfl, rfl, rfl, ⟨by decide, by decide⟩, ⟨_, rfl⟩, rfl,
   fun h => newBox174 _ _ (num 5) (mkL a1) rfl (mk9 _ rfl rfl rfl rfl (show 0 < _ by decide)) h, fun n c' s' h => by rw [opS_ex h]; exact smQ_of fun _ h => no_th h⟩
 | 3, _ => exact ok9A 3 [hd9] ⟨30, 0⟩ rfl (show 1 ≤ 3 by decide) (m1 sma) rfl ⟨by decide, by decide⟩ rfl one9 fun _ => ⟨⟨30, 0⟩, ⟨0, 3, 0, 0, [num 5]⟩, _, 175, rfl, rfl, rfl, rfl, ⟨by decide, by decide⟩, ⟨_, rfl⟩, rfl,
   fun h => open175 _ _ hd9 rfl (show 0 < _ by decide) ⟨smn, smh⟩ sma (smJ _ _) (smQ_of one9) h, fun n c' s' h => by rw [opS_ex h]; exact smQ_of one9⟩
 | 4, _ => exact ok9R 4 [num 5] ⟨1, 1⟩ rfl rfl (show 1 ≤ 3 by decide) (m1 sm5) rfl ⟨by decide, by decide⟩ rfl (show (0 : Int) ≠ 3 by decide) one9
 | 5, _ => exact ok9A 5 [num 5, mkL noL] ⟨41, 0⟩ rfl (show 2 ≤ 3 by decide) (m2 sm5 smn) rfl ⟨by decide, by decide⟩ rfl one9 fun _ => ⟨⟨41, 0⟩, ⟨0, 5, 0, 0, [num 5]⟩, _, 185, rfl, rfl, rfl, rfl, ⟨by decide, by decide⟩, ⟨_, rfl⟩, rfl,
   fun h => out185 _ _ (num 5) (mkL noL) rfl ⟨sma, smh⟩ smn h, fun n c' s' h => by rw [opS_ex h]; exact smQ_of one9⟩
end Go.Proofs.YtjpgfgajkjhonaaGreatDoor
namespace Go.Proofs.YtjpgfgajkjhonaaGreatDoor
open Go.Vx
set_option maxRecDepth 100000
def exB (p : Th × Sto) : H :=
  [.cells [.d (.str [1]), .d (.str [])], .cells [.d (.sl 5 (im9.cs.map encV)), .d (.sl 3 (im9.fs.map encFn))], .cells [.d (.sl 5 ((co9 0 []).fr.map encF)), .d (.sl 5 ((co9 0 []).st.map encV)), .d (.sl 3 ((co9 0 []).tr.map encT))],
   .cells ((cellsTh p.1).map .d), .cells [.mp 5, .mp 6], .dm (thE p.2.th), .ms 1 (nmE p.2.nm) none none]
theorem do34_9 {K : Out → H → Prop} (i : Nat) (hi : i < 5) (b : Option Nat) (hk : ∀ b'', K (.ret (.tu [agTh (S9 (i + 1) b'').1, agEf (Fx.ef .no false)])) (stB (S9 (i + 1) b'').2)) : Sat Tryz.prog 34 [agI im9, agTh (S9 i b).1, .p 0 0, .d (.int .i64 i)] (stB (S9 i b).2) K := by
 refine do34 im9 _ _ i (fun _ => ok9 i (by omega) i b) fun b' => ?_
 obtain ⟨b'', e⟩ := do9 i hi i b b'
 rw [e]
 exact hk b''
theorem do34_5 {K : Out → H → Prop} (b : Option Nat) (hk : K (.ret (.tu [agTh (u9 b).1, agEf (Fx.ef .no true)])) (stB (st9 b))) : Sat Tryz.prog 34 [agI im9, agTh (S9 5 b).1, .p 0 0, .d (.int .i64 9)] (stB (st9 b)) K := by
 refine do34 im9 (S9 5 b).1 (S9 5 b).2 9 (fun _ => ok9 5 (by omega) 9 b) fun b' => ?_
 rw [do9_5]
 exact hk
theorem do34_6 {K : Out → H → Prop} (b : Option Nat) (hk : K (.ret (.tu [agTh (u9 b).1, agEf (Fx.ef .no false)])) (stB (st9 b))) : Sat Tryz.prog 34 [agI im9, agTh (u9 b).1, .p 0 0, .d (.int .i64 9)] (stB (st9 b)) K := by
 refine do34 im9 (u9 b).1 (u9 b).2 9 (fun h => absurd h (show ¬ (4 : Int) = 0 by decide)) fun b' => ?_
 rw [do9_6]
 exact hk
def thR : Th := ⟨[49], [], noG, c00, [], 0, 0, 1, [48], noV, false⟩
theorem res36 {K : Out → H → Prop} (b : Option Nat) (hk : K (.ret (.tu [agTh ⟨[49], [], noG, c00, [], 0, 0, 4, [], num 3, true⟩, agEf (Fx.ef .no true)])) (stB (st9 b))) : Sat Tryz.prog 36 [agTh thR, .p 0 0, agV (num 3), .d (.bool true)] (stB (st9 b)) K := by
 refine resume36 thR (st9 b) (num 3) (by decide) (by decide) (smQ_of one9) ?_
 rw [show resS thR (st9 b) (num 3).n = _ from res9 b]
 exact hk
theorem look9 (b : Option Nat) : lookT [48, 46, 48] (st9 b).th = some (0, obM 3 a1 (num 5)) := by kernel_rfl
theorem get9 {K : Out → H → Prop} (b : Option Nat) (hk : K (.ret (.tu [agOb (obM 3 a1 (num 5)), .d (.bool true)])) (stB (st9 b))) : Sat Tryz.prog 16 [.p 0 0, .d (.str [48, 46, 48])] (stB (st9 b)) K := by
 have e : getO (st9 b) [48, 46, 48] = obM 3 a1 (num 5) := by unfold getO; rw [look9]; rfl
 have e2 : hasO (st9 b) [48, 46, 48] = true := by unfold hasO; rw [look9]; rfl
 refine get16 (st9 b) [48, 46, 48] (by rw [e]; decide) ?_
 rw [e, e2]
 exact hk
set_option maxHeartbeats 4000000 in
theorem examples9 : SatP Tryz.prog 9 [] (.d (.bool true)) := by
 have e20 : SatP Tryz.prog 20 [agC c00, .d (.int .i64 0), .d (.int .i64 0), .d (.sl 5 ([num 5].map encV)), .d (.int .u8 0)] (.tu [agC (co9 0 []), .d (.bool true)]) := enter24 c00 0 0 [num 5] 0 (by decide) (by decide)
 refine s9 (keep := false) rfl ?_
 repeat' ((conv => whnf); first | exact zf | refine zg ?_ | intro _ | refine And.intro rfl ?_ | refine ⟨_, number21 5, ?_⟩ | refine (number21 5).use ?_ | refine ⟨_, e20, ?_⟩ | refine (e20).use ?_ | refine ⟨_, high30, ?_⟩ | refine (high30).use ?_ | refine ⟨_, new22 [48] ⟨noL, hi0⟩ (co9 0 []) 1, ?_⟩ | refine (new22 [48] ⟨noL, hi0⟩ (co9 0 []) 1).use ?_ | refine (new18 ?_) | refine za ?_ | refine zl ?_ | fail)
 conv => whnf
 refine loop_use2 [(1, .p 0 0), (2, .p 1 0), (5, .p 3 0), (6, .p 4 0)] (fun q : Nat × Option Nat => q.1 ≤ 5) (fun q => [(7, .d (.int .i64 0)), (8, .d (.int .i64 q.1))]) (fun q => exB (S9 q.1 q.2)) (fun q => 5 - q.1) (0, none) (Nat.zero_le _) ?_ ?_ ?_ (fun q hq => ?_)
 ·exact (by repeat' (first | exact trivial | exact rfl | exact Or.inl rfl | refine And.intro ?_ ?_ | refine Or.inr ?_))
 ·exact (by repeat' (first | exact trivial | exact rfl | exact Or.inl rfl | refine And.intro ?_ ?_ | refine Or.inr ?_))
 ·exact (by kernel_rfl)
 obtain ⟨i, b⟩ := q
 have hq : i ≤ 5 := hq
 by_cases hi : i < 5
 ·skip
  repeat' ((conv => whnf); first | exact zf | refine zg ?_ | intro _ | refine And.intro rfl ?_ | refine (.inr ?_ : (∃ _, _) ∨ _) | refine (do34_9 i hi b (fun b'' => ?_)) | refine za ?_ | refine zl ?_ | refine zt ?_ | refine zu ?_ | fail)
  exact ⟨(i + 1, b''), hi, (by show 5 - (i + 1) < 5 - i; omega), (by repeat' (first | exact trivial | exact rfl | exact Or.inl rfl | refine And.intro ?_ ?_ | refine Or.inr ?_)), (by repeat' (first | exact trivial | exact rfl | exact Or.inl rfl | refine And.intro ?_ ?_ | refine Or.inr ?_)), rfl⟩
 ·have hi5 : i = 5 := by omega
  subst hi5
  repeat' ((conv => whnf); first | exact zf | refine zg ?_ | intro _ | refine And.intro rfl ?_ | refine ⟨encV (num 5), ⟨by omega, rfl, rfl⟩, ?_⟩ | refine (.inr ?_ : (∃ _, _) ∨ _) | refine (get9 b ?_) | refine (do34_5 b ?_) | refine (do34_6 b ?_) | refine (res36 b ?_) | refine ⟨_, number21 3, ?_⟩ | refine (number21 3).use ?_ | refine ⟨_, number21 5, ?_⟩ | refine (number21 5).use ?_ | refine ⟨_, number21 (-3), ?_⟩ | refine (number21 (-3)).use ?_ | refine za ?_ | refine zl ?_ | refine zt ?_ | refine zu ?_ | fail)
end Go.Proofs.YtjpgfgajkjhonaaGreatDoor
namespace Go.Proofs.YtjpgfgajkjhonaaGreatDoor
open Go.Vx
set_option maxRecDepth 100000
variable {keep : Bool} {vs : List V} {h : H} {K : Out → H → Prop}
def c5 : C := .seq (.reg [iS 8 (.mv (.k (.d (.bool false))))]) (.seq (.reg [iS 21 (.cf 9 []), iM 9 21]) (.seq (.seq (.reg [iM 22 9, iS 23 (.un .not (.s 22))]) (.cond (.s 23) (.seq (.reg [iS 8 (.mv (.k (.d (.bool false))))]) (.ret)) (.skip))) (.seq (.reg [iS 24 (.cf 17 []), iM 25 1, iS 26 (.bin .rem (.s 25) (.k (.d (.int .u8 8)))), iS 27 (.ia (.s 24) (.s 26) 2), iD 28 27 2, iS 10 (.al [sz, sz]), iN (.st (.s 10) (.s 28) 2)]) (.seq (.reg [iS 29 (.cf 17 []), iM 30 2, iS 31 (.bin .rem (.s 30) (.k (.d (.int .u8 8)))), iS 32 (.ia (.s 29) (.s 31) 2), iD 33 32 2, iS 11 (.al [sz, sz]), iN (.st (.s 11) (.s 33) 2)]) (.seq (.reg [iS 34 (.cf 18 []), iS 35 (.bd [.nl 5, .nl 3, .d (.np), sz, sz, sz, sz, sz, sz, .nl 5, .nl 5, .nl 3, .nl 14, iz, iz, iz, sz, iz, iz, sz, sz, sz, .d (.bool false)] [(2, 1, .s 34)]), iS 12 (.al [.nl 5, .nl 3, .d (.np), sz, sz, sz, sz, sz, sz, .nl 5, .nl 5, .nl 3, .nl 14, iz, iz, iz, sz, iz, iz, sz, sz, sz, .d (.bool false)]), iN (.st (.s 12) (.s 35) 23)]) (.seq (.reg [iM 36 0, iD 37 10 2, iS 38 (.cf 19 [.s 36, .s 37]), iF 39 12 0, iN (.st (.s 39) (.s 38) 2)]) (.seq (.reg [iS 41 (.bd [.nl 5, .nl 5, .nl 3] []), iS 42 (.cf 21 [.k (.d (.int .i64 7))]), iS 43 (.bs 5 [iz, iz, sz, sz, sz] 1 [(0, .s 42)]), iS 44 (.cf 20 [.s 41, .k iz, .k iz, .s 43, .k (.d (.int .u8 0))]), iM 40 44, iS 45 (.ex (.s 40) 0), iS 46 (.ex (.s 40) 1), iS 13 (.al [.nl 5, .nl 5, .nl 3]), iN (.st (.s 13) (.s 45) 3), iM 14 46]) (.seq (.reg [iS 47 (.cf 17 []), iS 48 (.ia (.s 47) (.k (.d (.int .i64 4))) 2), iD 49 48 2, iS 15 (.al [sz, sz]), iN (.st (.s 15) (.s 49) 2)]) (.seq (.rgd [(iD 50 15 2, []), (iD 51 15 2, []), (iD 52 11 2, []), (iS 53 (.cf 24 [.s 51, .s 52]), [1, 2]), (iS 54 (.cf 23 [.s 50, .s 53]), [0, 3, 1, 2]), (iD 55 13 3, []), (iM 56 3, []), (iS 57 (.bin .rem (.s 56) (.k (.d (.int .u8 2)))), [6]), (iS 58 (.cv .i64 (.s 57)), [7, 6])] [iS 59 (.cf 22 [.k (.d (.str [51])), .s 54, .s 55, .s 58]), iF 60 12 3, iN (.st (.s 60) (.s 59) 20)]) (.seq (.reg [iF 61 12 3, iF 62 61 2, iF 63 62 2, iD 64 63 2, iS 16 (.al [sz, sz]), iN (.st (.s 16) (.s 64) 2)]) (.seq (.reg [iS 17 (.mv (.k iz))]) (.seq (.seq (.reg [iS 18 (.mv (.k iz))]) (.block 0 (.loop (.seq (.seq (.reg [iM 65 18, iS 66 (.bin .lss (.s 65) (.k (.d (.int .i64 8)))), iM 67 66, iG 68 (.fa (.s 12) 3) 67 true, iG 69 (.fa (.s 68) 12) 67 true, iG 70 (.ld (.s 69) none) 67 true, iG 71 (.bin .eql (.s 70) (.k iz)) 67 true, iS 72 (.pk (.s 67) (.s 71) (.k (.d (.bool false))))]) (.cond (.s 72) (.skip) (.exit 0))) (.seq (.block 1 (.seq (.reg [iS 75 (.cf 12 [.s 12, .k (.d (.int .i64 1))])]) (.reg [iF 76 12 3, iF 77 76 12, iL 78 77, iM 17 78]))) (.reg [iM 73 18, iS 74 (.bin .add (.s 73) (.k (.d (.int .i64 1)))), iM 18 74])))))) (.seq (.reg [iS 19 (.mv (.k iz))]) (.seq (.reg [iM 79 0, iS 80 (.bin .rem (.s 79) (.k (.d (.int .u8 6)))), iS 81 (.bin .lss (.s 80) (.k (.d (.int .u8 4)))), iM 20 81]) (.seq (.block 2 (.seq (.reg [iM 83 0, iS 84 (.bin .rem (.s 83) (.k (.d (.int .u8 6)))), iS 85 (.bin .eql (.s 84) (.k (.d (.int .u8 5)))), iM 82 85]) (.cond (.s 82) (.reg [iS 19 (.mv (.k (.d (.int .i64 (-1)))))]) (.seq (.reg [iM 87 20, iM 88 87, iG 89 (.ld (.s 15) (some 2)) 88 true, iG 90 (.ld (.s 10) (some 2)) 88 true, iG 91 (.cf 13 [.s 89, .s 90]) 88 true, iG 92 (.un .not (.s 91)) 88 true, iS 93 (.pk (.s 88) (.s 92) (.k (.d (.bool false)))), iM 86 93]) (.cond (.s 86) (.reg [iS 19 (.mv (.k (.d (.int .i64 (-3)))))]) (.seq (.rgd [(iD 95 15 2, []), (iD 96 10 2, []), (iS 97 (.cf 24 [.s 95, .s 96]), [0, 1]), (iD 98 16 2, [])] [iS 99 (.cf 13 [.s 97, .s 98]), iS 100 (.un .not (.s 99)), iM 94 100]) (.cond (.s 94) (.reg [iS 19 (.mv (.k (.d (.int .i64 (-4)))))]) (.seq (.reg [iM 102 0, iS 103 (.bin .rem (.s 102) (.k (.d (.int .u8 6)))), iS 104 (.bin .lss (.s 103) (.k (.d (.int .u8 3)))), iM 105 104, iG 106 (.mv (.s 3)) 105 true, iG 107 (.bin .rem (.s 106) (.k (.d (.int .u8 2)))) 105 true, iG 108 (.bin .eql (.s 107) (.k (.d (.int .u8 0)))) 105 true, iS 109 (.pk (.s 105) (.s 108) (.k (.d (.bool false)))), iM 101 109]) (.cond (.s 101) (.reg [iS 19 (.mv (.k (.d (.int .i64 (-5)))))]) (.skip)))))))))) (.seq (.seq (.reg [iM 110 19, iS 111 (.bin .eql (.s 110) (.k iz))]) (.cond (.s 111) (.seq (.reg [iM 112 9, iM 113 112, iG 114 (.mv (.s 17)) 113 true, iG 115 (.bin .eql (.s 114) (.k (.d (.int .i64 3)))) 113 true, iS 116 (.pk (.s 113) (.s 115) (.k (.d (.bool false)))), iM 8 116]) (.ret)) (.skip))) (.seq (.rgd [(iM 117 9, []), (iM 118 117, [0]), (iG 119 (.mv (.s 17)) 118 true, [1, 0]), (iG 120 (.bin .eql (.s 119) (.k (.d (.int .i64 4)))) 118 true, [2, 1, 0]), (iS 121 (.pk (.s 118) (.s 120) (.k (.d (.bool false)))), [3, 2, 1, 0]), (iM 122 121, [4, 3, 2, 1, 0]), (iG 123 (.fa (.s 12) 3) 122 true, [5, 4, 3, 2, 1, 0]), (iG 124 (.fa (.s 123) 14) 122 true, [6, 5, 4, 3, 2, 1, 0]), (iG 125 (.ld (.s 124) (some 5)) 122 true, [7, 6, 5, 4, 3, 2, 1, 0]), (iG 126 (.mv (.s 19)) 122 true, [5, 4, 3, 2, 1, 0]), (iG 127 (.cf 21 [.s 126]) 122 true, [9, 5, 4, 3, 2, 1, 0])] [iG 128 (.eq false true [0, 0, 2, 2, 2] (.s 125) (.s 127)) 122 true, iS 129 (.pk (.s 122) (.s 128) (.k (.d (.bool false)))), iM 130 129, iG 131 (.fa (.s 12) 3) 130 true, iG 132 (.fa (.s 131) 19) 130 true, iG 133 (.ld (.s 132) none) 130 true, iS 134 (.pk (.s 130) (.s 133) (.k (.d (.bool false)))), iM 135 134, iG 136 (.fa (.s 12) 2) 135 true, iG 137 (.ld (.s 136) none) 135 true, iG 138 (.cf 25 [.s 137]) 135 true, iG 139 (.bin .eql (.s 138) (.k iz)) 135 true, iS 140 (.pk (.s 135) (.s 139) (.k (.d (.bool false)))), iM 8 140]) (.ret))))))))))))))))))
theorem s5 : SF 5 c5 [.s 8] 141 := sf Tryz.f5
end Go.Proofs.YtjpgfgajkjhonaaGreatDoor
namespace Go.Proofs.YtjpgfgajkjhonaaGreatDoor
open Go.Vx
set_option maxRecDepth 100000
def stA (c : Lb) (ro : Int) (T : Nat → SS) : Nat → SS
 | 0 => fun _ => sq0 c ro
 | i + 1 => T i
structure Chain (im : Im) (c : Lb) (ro code : Int) (T : Nat → SS) (n : Nat) : Prop where
 len : n ≤ 7
 run : ∀ i, i < n → ∀ b, (stA c ro T i b).1.st = 0 ∧ (stA c ro T i b).1.sc = []
 ok : ∀ i, i < n → ∀ b, okDo im (stA c ro T i b).1 (stA c ro T i b).2 1
 goes : ∀ i, i < n → ∀ b b', ∃ b'', nxS im 1 b' (stA c ro T i b) = T i b''
 good : ∀ b, GoodS code (stA c ro T n b)
theorem GoodS.st {n : Int} {p : Th × Sto} (h : GoodS n p) : p.1.st ≠ 0 := by
 rcases h with h | h
 ·rw [h.2]; decide
 ·rw [h.2.1]; decide
theorem chain_of {im : Im} {code : Int} : ∀ (l : List SS) (S : SS), Goes im (S :: l) → OkS im (S :: l) → (∀ b, GoodS code (lastS (S :: l) b)) →
  (∀ i, i < l.length → ∀ b, ((fun i => ((S :: l)[i]?).getD S) i b).1.st = 0 ∧ ((fun i => ((S :: l)[i]?).getD S) i b).1.sc = []) ∧
  (∀ i, i < l.length → ∀ b, okDo im ((fun i => ((S :: l)[i]?).getD S) i b).1 ((fun i => ((S :: l)[i]?).getD S) i b).2 1) ∧
  (∀ i, i < l.length → ∀ b b', ∃ b'', nxS im 1 b' ((fun i => ((S :: l)[i]?).getD S) i b) = (fun i => ((S :: l)[i]?).getD S) (i + 1) b'') ∧
  ∀ b, GoodS code ((fun i => ((S :: l)[i]?).getD S) l.length b)
 | [], S, _, _, hl => ⟨fun _ h => absurd h (Nat.not_lt_zero _), fun _ h => absurd h (Nat.not_lt_zero _), fun _ h => absurd h (Nat.not_lt_zero _), hl⟩
 | S' :: r, S, hg, ho, hl => by
  obtain ⟨g1, g2⟩ := hg
  obtain ⟨o1, o2⟩ := ho
  obtain ⟨a1, a2, a3, a4⟩ := chain_of r S' g2 o2 hl
  have e : ∀ i, i < (S' :: r).length → ((S :: S' :: r)[i + 1]?).getD S = ((S' :: r)[i]?).getD S' := fun i hi => by
   rw [List.getElem?_cons_succ, List.getElem?_eq_getElem hi]; rfl
  refine ⟨fun i hi b => ?_, fun i hi b => ?_, fun i hi b b' => ?_, fun b => ?_⟩
  ·match i, hi with
   | 0, _ => exact (g1 b).1
   | i + 1, hi =>
    have hi : i < r.length := by simpa using hi
    show (((S :: S' :: r)[i + 1]?).getD S b).1.st = 0 ∧ (((S :: S' :: r)[i + 1]?).getD S b).1.sc = []
    rw [e i (by simp; omega)]
    exact a1 i hi b
  ·match i, hi with
   | 0, _ => exact o1 b
   | i + 1, hi =>
    have hi : i < r.length := by simpa using hi
    show okDo im (((S :: S' :: r)[i + 1]?).getD S b).1 (((S :: S' :: r)[i + 1]?).getD S b).2 1
    rw [e i (by simp; omega)]
    exact a2 i hi b
  ·match i, hi with
   | 0, _ => exact (g1 b).2 b'
   | i + 1, hi =>
    have hi : i < r.length := by simpa using hi
    show ∃ b'', nxS im 1 b' (((S :: S' :: r)[i + 1]?).getD S b) = ((S :: S' :: r)[i + 1 + 1]?).getD S b''
    rw [e i (by simp; omega), e (i + 1) (by simp; omega)]
    exact a3 i hi b b'
  ·show GoodS code (((S :: S' :: r)[r.length + 1]?).getD S b)
   rw [e r.length (by simp)]
   exact a4 b
theorem stS_head (k : Nat) (hk : k ≤ 5) (m c : Lb) (ro w : Int) : ∃ l, stS k m c ro w = (fun _ => sq0 c ro) :: l ∧ l.length ≤ 7 := by
 match k, hk with
 | 0, _ => exact ⟨_, rfl, by cases w == 0 <;> cases decide (ro < 1) <;> simp⟩
 | 1, _ => exact ⟨_, rfl, by cases w == 0 <;> cases decide (ro < 1) <;> simp⟩
 | 2, _ => exact ⟨_, rfl, by cases w == 0 <;> cases decide (ro < 1) <;> simp⟩
 | 3, _ => exact ⟨_, rfl, by cases w == 0 <;> simp⟩
 | 4, _ => exact ⟨_, rfl, by cases w == 0 <;> simp⟩
 | 5, _ => exact ⟨_, rfl, by simp⟩
theorem chain (k : Nat) (hk : k ≤ 5) (m c : Lb) (ro : Int) (hro : ro = 0 ∨ ro = 1) (hm : m ∈ lb8) (hc : c ∈ lb8) : ∃ T n, Chain (askI k m) c ro (codeS k m c ro) T n := by
 have h1 := goes k hk m c ro hro (wS_of k m c)
 have h2 := okAll m c ro hro hm k hk
 have h3 := lasts k hk m c ro hro hm hc
 obtain ⟨l, e, hl⟩ := stS_head k hk m c ro (wS k m c)
 rw [e] at h1 h2 h3
 obtain ⟨a1, a2, a3, a4⟩ := chain_of l _ h1 h2 h3
 have es : ∀ i, stA c ro (fun i => (((fun _ => sq0 c ro) :: l)[i + 1]?).getD fun _ => sq0 c ro) i = (((fun _ => sq0 c ro) :: l)[i]?).getD fun _ => sq0 c ro := fun i => by
  cases i <;> rfl
 refine ⟨fun i => (((fun _ => sq0 c ro) :: l)[i + 1]?).getD fun _ => sq0 c ro, l.length, hl, fun i hi b => ?_, fun i hi b => ?_, fun i hi b b' => ?_, fun b => ?_⟩
 ·rw [es]; exact a1 i hi b
 ·rw [es]; exact a2 i hi b
 ·rw [es]; exact a3 i hi b b'
 ·rw [es]; exact a4 b
theorem step12C {K : Out → H → Prop} {im : Im} {c : Lb} {ro code : Int} {T : Nat → SS} {n : Nat} (hC : Chain im c ro code T n) (i : Nat) (hi : i < n) (b : Option Nat) (hk : ∀ e b'', K (.ret (agEf e)) (woB im (T i b'').1 (T i b'').2)) :
  Sat Tryz.prog 12 [.p 0 0, .d (.int .i64 1)] (woB im (stA c ro T i b).1 (stA c ro T i b).2) K := by
 refine step12 im _ _ 1 (hC.run i hi b).2 (fun _ => hC.ok i hi b) fun b' => ?_
 obtain ⟨b'', he⟩ := hC.goes i hi b b'
 have h1 : (doS im (stA c ro T i b).1 (stA c ro T i b).2 1 b').t = (T i b'').1 := congrArg Prod.fst he
 have h2 : (doS im (stA c ro T i b).1 (stA c ro T i b).2 1 b').s = (T i b'').2 := congrArg Prod.snd he
 rw [h1, h2]
 exact hk _ _
def thB (m c : Lb) (im : Im) (cl : Lb) (p : Th × Sto) : H :=
  [.cells [.d (.str m.s), .d (.str m.i)], .cells [.d (.str c.s), .d (.str c.i)], .cells [.mp 3, .mp 4], .dm (thE p.2.th), .ms 1 (nmE p.2.nm) none none,
   .cells ([.d (.sl 5 (im.cs.map encV)), .d (.sl 3 (im.fs.map encFn)), .p 2 0] ++ (cellsTh p.1).map .d),
   .cells [.d (.sl 5 (thC.fr.map encF)), .d (.sl 5 (thC.st.map encV)), .d (.sl 3 (thC.tr.map encT))], .cells [.d (.str cur4.s), .d (.str cur4.i)], .cells [.d (.str cl.s), .d (.str cl.i)]]
set_option maxHeartbeats 4000000 in
theorem throws5 (hex : SatP Tryz.prog 9 [] (.d (.bool true))) (how at' clr room : Int) (h1 : 0 ≤ how ∧ how ≤ 255) (h2 : 0 ≤ at' ∧ at' ≤ 255) (h3 : 0 ≤ clr ∧ clr ≤ 255) (h4 : 0 ≤ room ∧ room ≤ 255) :
  SatP Tryz.prog 5 [.d (.int .u8 how), .d (.int .u8 at'), .d (.int .u8 clr), .d (.int .u8 room)] (.d (.bool true)) := by
 obtain ⟨k, hk, hk5⟩ : ∃ k : Nat, how.tmod 6 = k ∧ k ≤ 5 := by
  refine ⟨(how % 6).toNat, ?_, ?_⟩
  ·rw [Int.tmod_eq_emod_of_nonneg h1.1]; omega
  ·omega
 obtain ⟨i, hi, hi8⟩ : ∃ i : Nat, at'.tmod 8 = i ∧ i < 8 := by
  refine ⟨(at' % 8).toNat, ?_, ?_⟩
  ·rw [Int.tmod_eq_emod_of_nonneg h2.1]; omega
  ·omega
 obtain ⟨j, hj, hj8⟩ : ∃ j : Nat, clr.tmod 8 = j ∧ j < 8 := by
  refine ⟨(clr % 8).toNat, ?_, ?_⟩
  ·rw [Int.tmod_eq_emod_of_nonneg h3.1]; omega
  ·omega
 have hro : room.tmod 2 = 0 ∨ room.tmod 2 = 1 := by rw [Int.tmod_eq_emod_of_nonneg h4.1]; omega
 obtain ⟨m, hm⟩ : ∃ m, lb8[i]? = some m := ⟨_, List.getElem?_eq_getElem (show i < lb8.length from hi8)⟩
 obtain ⟨c, hc⟩ : ∃ c, lb8[j]? = some c := ⟨_, List.getElem?_eq_getElem (show j < lb8.length from hj8)⟩
 have hmm := List.mem_of_getElem? hm
 have hcm := List.mem_of_getElem? hc
 have e19 := asking19 how k hk5 hk m
 have e20 : SatP Tryz.prog 20 [agC c00, .d (.int .i64 0), .d (.int .i64 0), .d (.sl 5 ([num 7].map encV)), .d (.int .u8 0)] (.tu [agC thC, .d (.bool true)]) := enter24 c00 0 0 [num 7] 0 (by decide) (by decide)
 have e24 := joinL107 cur4 c (lb8_sm cur4 (by decide +revert)) (lb8_sm c hcm)
 have r1 : (lb8.map rowL)[at'.tmod 8 |>.toNat]? = some (rowL m) := by rw [hi, List.getElem?_map]; simp [hm]
 have r2 : (lb8.map rowL)[clr.tmod 8 |>.toNat]? = some (rowL c) := by rw [hj, List.getElem?_map]; simp [hc]
 refine s5 (keep := false) rfl ?_
 repeat' ((conv => whnf); first | exact zf | refine zg ?_ | intro _ | refine And.intro rfl ?_ | refine ⟨_, hex, ?_⟩ | refine (hex).use ?_ | refine ⟨_, labels17, ?_⟩ | refine (labels17).use ?_ | refine ⟨_, ⟨by omega, r1, rfl⟩, ?_⟩ | refine ⟨_, ⟨by omega, r2, rfl⟩, ?_⟩ | refine ⟨rowL cur4, ⟨by omega, rfl, rfl⟩, ?_⟩ | refine (new18 ?_) | refine ⟨_, e19, ?_⟩ | refine (e19).use ?_ | refine ⟨_, number21 7, ?_⟩ | refine (number21 7).use ?_ | refine ⟨_, e20, ?_⟩ | refine (e20).use ?_ | refine ⟨_, e24, ?_⟩ | refine (e24).use ?_ | refine ⟨_, start23 cur4 (joinL cur4 c), ?_⟩ | refine (start23 cur4 (joinL cur4 c)).use ?_ | refine ⟨_, new22 [51] ⟨cur4, joinL cur4 c⟩ thC (room.tmod 2), ?_⟩ | refine (new22 [51] ⟨cur4, joinL cur4 c⟩ thC (room.tmod 2)).use ?_ | refine za ?_ | refine zl ?_ | fail)
 obtain ⟨T, n, hC⟩ := chain k hk5 m c (room.tmod 2) hro hmm hcm
 conv => whnf
 refine loop_use2 [(0, .d (.int .u8 how)), (3, .d (.int .u8 room)), (9, .d (.bool true)), (10, .p 0 0), (12, .p 5 0), (15, .p 7 0), (16, .p 8 0)] (fun q : Nat × Option Nat => q.1 ≤ n) (fun q => [(17, .d (.int .i64 (stA c (room.tmod 2) T q.1 q.2).1.st)), (18, .d (.int .i64 q.1))]) (fun q => thB m c (askI k m) (joinL cur4 c) (stA c (room.tmod 2) T q.1 q.2)) (fun q => 8 - q.1) (0, none) (Nat.zero_le _) ?_ ?_ ?_ (fun q hq => ?_)
 ·exact (by repeat' (first | exact trivial | exact rfl | exact Or.inl rfl | refine And.intro ?_ ?_ | refine Or.inr ?_))
 ·exact (by repeat' (first | exact trivial | exact rfl | exact Or.inl rfl | refine And.intro ?_ ?_ | refine Or.inr ?_))
 ·exact (by kernel_rfl)
 obtain ⟨i, b⟩ := q
 have hq : i ≤ n := hq
 have hn := hC.len
 by_cases hin : i < n
 ·have hst := (hC.run i hin b).1
  repeat' ((conv => whnf); first | exact zf | refine zg ?_ | intro _ | refine And.intro rfl ?_ | refine (.inr ?_ : (∃ _, _) ∨ _) | refine (step12C hC i hin b (fun e b'' => ?_)) | refine za ?_ | refine zl ?_ | refine zt ?_ | refine zu ?_ | fail)
  exact ⟨(i + 1, b''), hin, (by show 8 - (i + 1) < 8 - i; omega), (by repeat' (first | exact trivial | exact rfl | exact Or.inl rfl | refine And.intro ?_ ?_ | refine Or.inr ?_)), (by repeat' (first | exact trivial | exact rfl | exact Or.inl rfl | refine And.intro ?_ ?_ | refine Or.inr ?_)), rfl⟩
 ·have hie : i = n := by omega
  have hg : GoodS (codeS k m c (room.tmod 2)) (stA c (room.tmod 2) T i b) := by rw [hie]; exact hC.good b
  have hns := hg.st
  have hi7 : i ≤ 7 := by omega
  have f1 := flowsL111 cur4 m (lb8_sm cur4 (by decide +revert)) (lb8_sm m hmm)
  have f2 := flowsL111 (joinL cur4 m) (joinL cur4 c) (smJ _ _) (smJ _ _)
  have f3 := joinL107 cur4 m (lb8_sm cur4 (by decide +revert)) (lb8_sm m hmm)
  clear hC e19 e20 r1 r2
  generalize stA c (room.tmod 2) T i b = p at hg hns ⊢
  obtain ⟨⟨id, pa, g, co, sc, ma, ro2, st, on, v, ex⟩, s⟩ := p
  have hns : st ≠ 0 := hns
  unfold codeS at hg
  by_cases k5 : k = 5
  ·rw [show (k == 5) = true by simp [k5], cond_true] at hg
   obtain ⟨h0, _⟩ | ⟨_, hst, hv, hex2, hse⟩ := hg
   ·exact absurd h0 (show ¬ (-1 : Int) = 0 by decide)
   ·replace hst : st = 4 := hst
    replace hv : v = num (-1) := hv
    replace hex2 : ex = true := hex2
    replace hse : s = eS := hse
    subst hst hv hex2 hse
    repeat' ((conv => whnf); first | exact zf | refine zg ?_ | intro _ | refine And.intro rfl ?_ | refine (cuo_new (cuo_new ?_)) | refine ⟨_, f1, ?_⟩ | refine (f1).use ?_ | refine ⟨_, f3, ?_⟩ | refine (f3).use ?_ | refine ⟨_, f2, ?_⟩ | refine (f2).use ?_ | refine ⟨_, number21 (-1), ?_⟩ | refine (number21 (-1)).use ?_ | refine (.inr ?_ : (∃ _, _) ∨ _) | refine (len25 eS ?_) | refine za ?_ | refine zl ?_ | refine zt ?_ | refine zu ?_ | refine And.intro ?_ ?_ | fail)
  rw [show (k == 5) = false by simp [k5], cond_false] at hg
  by_cases k4 : k < 4
  ·rw [decide_eq_true k4, Bool.true_and] at hg
   cases hf1 : flowsL cur4 m with
   | false =>
    rw [hf1] at f1 hg
    obtain ⟨h0, _⟩ | ⟨_, hst, hv, hex2, hse⟩ := hg
    ·exact absurd h0 (show ¬ (-3 : Int) = 0 by decide)
    ·replace hst : st = 4 := hst
     replace hv : v = num (-3) := hv
     replace hex2 : ex = true := hex2
     replace hse : s = eS := hse
     subst hst hv hex2 hse
     repeat' ((conv => whnf); first | exact zf | refine zg ?_ | intro _ | refine And.intro rfl ?_ | refine (cuo_new (cuo_new ?_)) | refine ⟨_, f1, ?_⟩ | refine (f1).use ?_ | refine ⟨_, f3, ?_⟩ | refine (f3).use ?_ | refine ⟨_, f2, ?_⟩ | refine (f2).use ?_ | refine ⟨_, number21 (-3), ?_⟩ | refine (number21 (-3)).use ?_ | refine (.inr ?_ : (∃ _, _) ∨ _) | refine (len25 eS ?_) | refine za ?_ | refine zl ?_ | refine zt ?_ | refine zu ?_ | refine And.intro ?_ ?_ | fail)
   | true =>
    rw [hf1] at f1 hg
    cases hf2 : flowsL (joinL cur4 m) (joinL cur4 c) with
    | false =>
     rw [hf2] at f2 hg
     obtain ⟨h0, _⟩ | ⟨_, hst, hv, hex2, hse⟩ := hg
     ·exact absurd h0 (show ¬ (-4 : Int) = 0 by decide)
     ·replace hst : st = 4 := hst
      replace hv : v = num (-4) := hv
      replace hex2 : ex = true := hex2
      replace hse : s = eS := hse
      subst hst hv hex2 hse
      repeat' ((conv => whnf); first | exact zf | refine zg ?_ | intro _ | refine And.intro rfl ?_ | refine (cuo_new (cuo_new ?_)) | refine ⟨_, f1, ?_⟩ | refine (f1).use ?_ | refine ⟨_, f3, ?_⟩ | refine (f3).use ?_ | refine ⟨_, f2, ?_⟩ | refine (f2).use ?_ | refine ⟨_, number21 (-4), ?_⟩ | refine (number21 (-4)).use ?_ | refine (.inr ?_ : (∃ _, _) ∨ _) | refine (len25 eS ?_) | refine za ?_ | refine zl ?_ | refine zt ?_ | refine zu ?_ | refine And.intro ?_ ?_ | fail)
    | true =>
     rw [hf2] at f2 hg
     by_cases k3 : k < 3
     ·rcases hro with hr0 | hr1
      ·rw [decide_eq_true k3, hr0] at hg
       obtain ⟨h0, _⟩ | ⟨_, hst, hv, hex2, hse⟩ := hg
       ·exact absurd h0 (show ¬ (-5 : Int) = 0 by decide)
       ·replace hst : st = 4 := hst
        replace hv : v = num (-5) := hv
        replace hex2 : ex = true := hex2
        replace hse : s = eS := hse
        subst hst hv hex2 hse
        repeat' ((conv => whnf); first | exact zf | refine zg ?_ | intro _ | refine And.intro rfl ?_ | refine (cuo_new (cuo_new ?_)) | refine ⟨_, f1, ?_⟩ | refine (f1).use ?_ | refine ⟨_, f3, ?_⟩ | refine (f3).use ?_ | refine ⟨_, f2, ?_⟩ | refine (f2).use ?_ | refine ⟨_, number21 (-5), ?_⟩ | refine (number21 (-5)).use ?_ | refine (.inr ?_ : (∃ _, _) ∨ _) | refine (len25 eS ?_) | refine za ?_ | refine zl ?_ | refine zt ?_ | refine zu ?_ | refine And.intro ?_ ?_ | fail)
      ·rw [decide_eq_true k3, hr1] at hg
       obtain ⟨_, hst⟩ | ⟨h0, _⟩ := hg
       ·replace hst : st = 3 := hst
        subst hst
        repeat' ((conv => whnf); first | exact zf | refine zg ?_ | intro _ | refine And.intro rfl ?_ | refine ⟨_, f1, ?_⟩ | refine (f1).use ?_ | refine ⟨_, f3, ?_⟩ | refine (f3).use ?_ | refine ⟨_, f2, ?_⟩ | refine (f2).use ?_ | refine za ?_ | refine zl ?_ | refine zt ?_ | refine zu ?_ | fail)
       ·exact absurd rfl h0
     ·rw [decide_eq_false k3] at hg
      obtain ⟨_, hst⟩ | ⟨h0, _⟩ := hg
      ·replace hst : st = 3 := hst
       subst hst
       repeat' ((conv => whnf); first | exact zf | refine zg ?_ | intro _ | refine And.intro rfl ?_ | refine ⟨_, f1, ?_⟩ | refine (f1).use ?_ | refine ⟨_, f3, ?_⟩ | refine (f3).use ?_ | refine ⟨_, f2, ?_⟩ | refine (f2).use ?_ | refine za ?_ | refine zl ?_ | refine zt ?_ | refine zu ?_ | fail)
      ·exact absurd rfl h0
  ·rw [decide_eq_false k4] at hg
   have k4' : k = 4 := by omega
   cases hf2 : flowsL (joinL cur4 m) (joinL cur4 c) with
   | false =>
    rw [hf2] at f2 hg
    obtain ⟨h0, _⟩ | ⟨_, hst, hv, hex2, hse⟩ := hg
    ·exact absurd h0 (show ¬ (-4 : Int) = 0 by decide)
    ·replace hst : st = 4 := hst
     replace hv : v = num (-4) := hv
     replace hex2 : ex = true := hex2
     replace hse : s = eS := hse
     subst hst hv hex2 hse
     repeat' ((conv => whnf); first | exact zf | refine zg ?_ | intro _ | refine And.intro rfl ?_ | refine (cuo_new (cuo_new ?_)) | refine ⟨_, f1, ?_⟩ | refine (f1).use ?_ | refine ⟨_, f3, ?_⟩ | refine (f3).use ?_ | refine ⟨_, f2, ?_⟩ | refine (f2).use ?_ | refine ⟨_, number21 (-4), ?_⟩ | refine (number21 (-4)).use ?_ | refine (.inr ?_ : (∃ _, _) ∨ _) | refine (len25 eS ?_) | refine za ?_ | refine zl ?_ | refine zt ?_ | refine zu ?_ | refine And.intro ?_ ?_ | fail)
   | true =>
    rw [hf2] at f2 hg
    rw [show decide (k < 3) = false by simp [k4']] at hg
    obtain ⟨_, hst⟩ | ⟨h0, _⟩ := hg
    ·replace hst : st = 3 := hst
     subst hst
     repeat' ((conv => whnf); first | exact zf | refine zg ?_ | intro _ | refine And.intro rfl ?_ | refine ⟨_, f1, ?_⟩ | refine (f1).use ?_ | refine ⟨_, f3, ?_⟩ | refine (f3).use ?_ | refine ⟨_, f2, ?_⟩ | refine (f2).use ?_ | refine za ?_ | refine zl ?_ | refine zt ?_ | refine zu ?_ | fail)
    ·exact absurd rfl h0
theorem throwsAll (how at' clr room : Int) (h1 : 0 ≤ how ∧ how ≤ 255) (h2 : 0 ≤ at' ∧ at' ≤ 255) (h3 : 0 ≤ clr ∧ clr ≤ 255) (h4 : 0 ≤ room ∧ room ≤ 255) :
  SatP Tryz.prog 5 [.d (.int .u8 how), .d (.int .u8 at'), .d (.int .u8 clr), .d (.int .u8 room)] (.d (.bool true)) := throws5 examples9 how at' clr room h1 h2 h3 h4
end Go.Proofs.YtjpgfgajkjhonaaGreatDoor
