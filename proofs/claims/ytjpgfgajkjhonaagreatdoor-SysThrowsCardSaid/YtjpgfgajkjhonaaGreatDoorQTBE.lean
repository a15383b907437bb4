/- An instruction that asks, and Do. Conditions: as told. -/
import Derived.Test.YtjpgfgajkjhonaaGreatDoorQTBD
namespace Go.Proofs.YtjpgfgajkjhonaaGreatDoor
open Go.Vx
set_option maxRecDepth 100000
theorem rec169m {K : H → Prop} (a b : D) (hk : K [.cells [.d a], .cells [.d b]]) : SatD Tryz.prog 169 [.p 0 0, .p 1 0] [.cells [.d a], .cells [.d b]] none K := by
 refine s169 rfl ?_
 repeat' ((conv => whnf); first | exact zf | refine zg ?_ | intro _ | refine And.intro rfl ?_ | refine za ?_ | refine zl ?_ | fail)
 exact hk
theorem rec169s {K : H → Prop} (a b : D) (n : Int) (hk : K [.cells [.d (.int .i64 n)], .cells [.d (.bool true)]]) : SatD Tryz.prog 169 [.p 0 0, .p 1 0] [.cells [.d a], .cells [.d b]] (some (exV n)) K := by
 refine s169 rfl ?_
 repeat' ((conv => whnf); first | exact zf | refine zg ?_ | intro _ | refine And.intro rfl ?_ | refine za ?_ | refine zl ?_ | fail)
 exact hk
def OR.L (r : OR) (K : Out → H → Prop) : Prop := match r with
 | .ok e f => ∀ b, K (.ret (.tu [.ag [.d (.int .i64 0)], .d (.bool false)])) (caF (f b).1 e false (f b).2)
 | .ex n c s => K (.ret (.tu [.ag [.d (.int .i64 n)], .d (.bool true)])) (caB c s)
theorem left115 {K : Out → H → Prop} (F : Nat) (hlt : Nat.blt F 5000000 = true) (R : OR) (c : Ca) (s : Sto) (hF : ∀ {K : Out → H → Prop}, R.K K → Sat Tryz.prog F [.p 0 0] (caB c s) K) (hk : R.L K) : Sat Tryz.prog 115 [.p 0 0, .d (.fn F)] (caB c s) K := by
 cases R with
 | ok e f =>
  cases e
  all_goals
   refine s115 (keep := false) rfl ?_
   unfold fdx
   repeat' ((conv => whnf); first | exact zf | refine zg ?_ | intro _ | refine And.intro rfl ?_ | refine za ?_ | refine zl ?_ | fail)
   conv => whnf
   rw [hlt]
   repeat' ((conv => whnf); first | exact zf | refine zg ?_ | intro _ | refine And.intro rfl ?_ | refine (.inr ?_ : (∃ _, _) ∨ _) | refine (hF (fun b => ?_)) | refine (rec169m _ _ ?_) | refine za ?_ | refine zl ?_ | fail)
   exact hk _
 | ex n c' s' =>
  have hF' := fun {K : Out → H → Prop} (h : K (.pan (exV n)) (caB c' s')) => hF (K := K) h
  refine s115 (keep := false) rfl ?_
  unfold fdx
  repeat' ((conv => whnf); first | exact zf | refine zg ?_ | intro _ | refine And.intro rfl ?_ | refine za ?_ | refine zl ?_ | fail)
  conv => whnf
  rw [hlt]
  repeat' ((conv => whnf); first | exact zf | refine zg ?_ | intro _ | refine And.intro rfl ?_ | refine (.inr ?_ : (∃ _, _) ∨ _) | refine (hF' ?_) | refine (rec169s _ _ _ ?_) | refine za ?_ | refine zl ?_ | fail)
  exact hk
def askL : List (Int × Nat) := [(25, 170), (26, 171), (27, 172), (28, 173), (29, 174), (30, 175), (32, 176), (33, 177), (34, 178), (35, 179), (36, 180), (37, 181), (38, 182), (39, 183), (40, 184), (41, 185), (42, 186), (43, 187), (45, 188), (46, 189)]
def askM : List (V × V) := askL.map fun p => (.d (.int .i64 p.1), .d (.fn p.2))
def askAt (c : Int) (F : Nat) : Prop := ∃ j, fnd [0, 3] [.d (.int .i64 c)] askM 0 = some (some (j, .d (.fn F)))
theorem asked116 {K : Out → H → Prop} (hk : K (.ret (.mp 0)) [.mp askM]) : Sat Tryz.prog 116 [] [] K := by
 refine s116 (keep := true) rfl ?_
 repeat' ((conv => whnf); first | exact zf | refine zg ?_ | intro _ | refine And.intro rfl ?_ | refine ⟨_, rfl, ?_⟩ | refine za ?_ | refine zl ?_ | fail)
 exact hk
def ca0 (im : Im) (t : Th) (now : Int) : Ca := ⟨im, now, t, (innerT t).tr, o0, [], 0⟩
def withC (c : Ca) (k : Co) : Ca := { c with t := { c.t with c := k } }
def askC (c : Ca) (o : Op) (f : Fr) (po : Int) : Ca := { c with o := o, ma := f.ma, ar := popL c.t.c po, t := { c.t with c := { popC c.t.c po with fr := nxt c.t.c.fr f } } }
structure Rs where
 t : Th
 e : Fx
 d : Bool
 s : Sto
def rsX (p : Ca × Bool × Sto) : Rs := ⟨p.1.t, .no, p.2.1, p.2.2⟩
def OR.A (r : OR) (was : Co) (K : Out → H → Prop) : Prop := match r with
 | .ok e f => ∀ b, K (.ret (.tu [])) (caF (f b).1 e false (f b).2)
 | .ex n c s => K (.ret (.tu [])) (caX (raiseS c s was n))
def OR.fin (r : OR) (was : Co) (b : Option Nat) : Rs := match r with
 | .ok e f => ⟨(f b).1.t, e, false, (f b).2⟩
 | .ex n c s => rsX (raiseS c s was n)
def opS (c : Ca) (s : Sto) : OR :=
 bif c.o.c == 27 then raiseR c s else
 bif c.o.c == 29 then newR 3 c s else
 bif c.o.c == 30 then openR c s else
 bif c.o.c == 32 then newR 4 c s else
 bif c.o.c == 35 then newVR c s else
 bif c.o.c == 41 then outR c s else .ex 0 c s
def askS (c : Ca) (s : Sto) (o : Op) (b : Option Nat) : Rs :=
 match c.t.c.fr.getLast?, inf o.c with
 | some f, some i => (opS (askC c o f i.po) s).fin c.t.c b
 | _, _ => ⟨c.t, .no, false, s⟩
def doS (im : Im) (t : Th) (s : Sto) (now : Int) (b : Option Nat) : Rs :=
 bif t.st != 0 then ⟨t, .no, false, s⟩ else
 bif (stepX im t.c (innerT t).fr (innerT t).tr).2.k == 1 then rsX (finS (withC (ca0 im t now) (stepX im t.c (innerT t).fr (innerT t).tr).1) s (stepX im t.c (innerT t).fr (innerT t).tr).2.v false) else
 bif (stepX im t.c (innerT t).fr (innerT t).tr).2.k == 2 then rsX (finS (withC (ca0 im t now) (stepX im t.c (innerT t).fr (innerT t).tr).1) s (stepX im t.c (innerT t).fr (innerT t).tr).2.v true) else
 bif (stepX im t.c (innerT t).fr (innerT t).tr).2.k == 3 then askS (ca0 im t now) s (stepX im t.c (innerT t).fr (innerT t).tr).2.o b else
 ⟨{ t with c := (stepX im t.c (innerT t).fr (innerT t).tr).1 }, .no, false, s⟩
def nxS (im : Im) (now : Int) (b : Option Nat) (p : Th × Sto) : Th × Sto := ((doS im p.1 p.2 now b).t, (doS im p.1 p.2 now b).s)
set_option maxHeartbeats 4000000 in
theorem ask73 {K : Out → H → Prop} (c : Ca) (s : Sto) (o : Op) (f : Fr) (i : Info) (F : Nat) (R : OR) (hi : inf o.c = some i) (hf : c.t.c.fr.getLast? = some f) (hlf : c.t.c.fr.length < 900000000) (hls : c.t.c.st.length < 800000000) (hp : popOk c.t.c i.po = true) (hpc : 0 ≤ f.pc ∧ f.pc < 1000000000) (hF : askAt o.c F) (hlt : Nat.blt F 5000000 = true)
  (hR : ∀ {K : Out → H → Prop}, R.K K → Sat Tryz.prog F [.p 0 0] (caB (askC c o f i.po) s) K) (hx : ∀ n c' s', R = .ex n c' s' → smQ s' c'.t.id)
  (hk : R.A c.t.c K) : Sat Tryz.prog 73 [.p 0 0, agO o] (caN c s) K := by
 have h1 := about_yes hi
 have h2 := pop46 c.t.c i.po (by omega)
 rw [popR_yes hp] at h2
 have hpos : 0 < c.t.c.fr.length := by
  cases h : c.t.c.fr with
  | nil => rw [h] at hf; cases hf
  | cons => simp
 have hfl : c.t.c.fr[c.t.c.fr.length - 1]? = some f := by rw [← List.getLast?_eq_getElem?]; exact hf
 have hrow := last_row hpos hfl
 have hml : (c.t.c.fr.map encF).length = c.t.c.fr.length := List.length_map _
 obtain ⟨ai, hA⟩ := hF
 have er : (nxt c.t.c.fr f).map encF = (c.t.c.fr.map encF).set (((c.t.c.fr.map encF).length : Int) - 1).toNat [.int .i64 f.fu, .int .i64 (f.pc + 1), .int .i64 f.ba, .int .u8 f.ma, .sl 5 (f.vars.map encV)] := by
  unfold nxt
  rw [List.map_set, List.length_map]
  congr 1
  omega
 have h4 := fun {K : Out → H → Prop} => left115 (K := K) F hlt R (askC c o f i.po) s hR
 dsimp only [caB, cellsCa, cellsTh, askC] at h4
 rw [er] at h4
 refine s73 (keep := false) rfl ?_
 repeat' ((conv => whnf); first | exact zf | refine zg ?_ | intro _ | refine And.intro rfl ?_ | refine ⟨_, h1, ?_⟩ | refine (h1).use ?_ | refine ⟨encF f, ⟨by omega, hrow, rfl⟩, ?_⟩ | refine ⟨_, h2, ?_⟩ | refine (h2).use ?_ | refine (clone73 (c.t.c.fr.map encF) (by omega) ?_) | refine za ?_ | refine zl ?_ | fail)
 conv => whnf
 refine ⟨encF f, hrow, ?_⟩
 repeat' ((conv => whnf); first | exact zf | refine zg ?_ | intro _ | refine And.intro rfl ?_ | refine za ?_ | refine zl ?_ | fail)
 conv => whnf
 refine ⟨encF f, hrow, ⟨rfl, rfl, rfl⟩, ?_⟩
 repeat' ((conv => whnf); first | exact zf | refine zg ?_ | intro _ | refine And.intro rfl ?_ | refine (cuo_new (cuo_new (fro_use [7] ?_))) | refine (.inr ?_ : (∃ _, _) ∨ _) | refine (asked116 ?_) | refine ⟨_, hA, ?_⟩ | refine (h4 ?_) | refine za ?_ | refine zl ?_ | refine And.intro ?_ ?_ | fail)
 all_goals
  clear h4 er h1 h2 hR
  cases R with
  | ok e g =>
   cases e
   all_goals
    refine fun b => ?_
    repeat' ((conv => whnf); first | exact zf | refine zg ?_ | intro _ | refine And.intro rfl ?_ | refine (sp_f rfl ?_) | refine za ?_ | refine zl ?_ | fail)
    exact hk _
  | ex n c' s' =>
   have h5 := fun {K : Out → H → Prop} => raise75 (K := K) c' s' c.t.c n (by omega) (by omega) (hx n c' s' rfl)
   conv => whnf
   repeat' ((conv => whnf); first | exact zf | refine zg ?_ | intro _ | refine And.intro rfl ?_ | refine (sp_t rfl ?_) | refine (.inr ?_ : (∃ _, _) ∨ _) | refine (h5 ?_) | refine za ?_ | refine zl ?_ | fail)
   exact hk
end Go.Proofs.YtjpgfgajkjhonaaGreatDoor
namespace Go.Proofs.YtjpgfgajkjhonaaGreatDoor
open Go.Vx
set_option maxRecDepth 100000
structure okDo (im : Im) (t : Th) (s : Sto) (now : Int) : Prop where
 st : St im t.c (innerT t).fr (innerT t).tr (stepX im t.c (innerT t).fr (innerT t).tr)
 lf : t.c.fr.length < 900000000
 ls : t.c.st.length < 800000000
 q : smQ s t.id
 ask : (stepX im t.c (innerT t).fr (innerT t).tr).2.k = 3 → ∃ o f i F, stepX im t.c (innerT t).fr (innerT t).tr = (t.c, ⟨3, zeroV, o⟩) ∧ t.c.fr.getLast? = some f ∧ inf o.c = some i ∧ popOk t.c i.po = true ∧ (0 ≤ f.pc ∧ f.pc < 1000000000) ∧ askAt o.c F ∧ Nat.blt F 5000000 = true ∧
  (∀ {K : Out → H → Prop}, (opS (askC (ca0 im t now) o f i.po) s).K K → Sat Tryz.prog F [.p 0 0] (caB (askC (ca0 im t now) o f i.po) s) K) ∧ ∀ n c' s', opS (askC (ca0 im t now) o f i.po) s = .ex n c' s' → smQ s' c'.t.id
set_option maxHeartbeats 4000000 in
theorem do34 {K : Out → H → Prop} (im : Im) (t : Th) (s : Sto) (now : Int) (h : t.st = 0 → okDo im t s now) (hk : ∀ b, K (.ret (.tu [agTh (doS im t s now b).t, agEf ((doS im t s now b).e.ef (doS im t s now b).d)])) (stB (doS im t s now b).s)) :
  Sat Tryz.prog 34 [agI im, agTh t, .p 0 0, .d (.int .i64 now)] (stB s) K := by
 unfold doS at hk
 by_cases h0 : t.st = 0
 ·have hz : (t.st != 0) = false := by simp [h0]
  rw [hz] at hk
  have hd := h h0
  have h1 := floor70 t
  have h2 := hd.st
  have hq := hd.q
  have hask := hd.ask
  unfold St at h2
  generalize hr : stepX im t.c (innerT t).fr (innerT t).tr = r at h2 hk hask
  obtain ⟨k, u⟩ := r
  by_cases k1 : u.k = 1
  ·rw [show (u.k == 1) = true by simp [k1]] at hk
   have h3 := fun {K : Out → H → Prop} => finish72N (K := K) (withC (ca0 im t now) k) s u.v false hq
   refine s34 (keep := false) rfl ?_
   repeat' ((conv => whnf); first | exact zf | refine zg ?_ | intro _ | refine And.intro rfl ?_ | refine ⟨_, h1, ?_⟩ | refine (h1).use ?_ | refine ⟨_, h2, ?_⟩ | refine (h2).use ?_ | refine (.inr ?_ : (∃ _, _) ∨ _) | refine (h3 ?_) | refine za ?_ | refine zl ?_ | refine zt ?_ | refine zu ?_ | fail)
   exact hk none
  ·by_cases k2 : u.k = 2
   ·rw [show (u.k == 1) = false by simp [k1], show (u.k == 2) = true by simp [k2]] at hk
    have h3 := fun {K : Out → H → Prop} => finish72N (K := K) (withC (ca0 im t now) k) s u.v true hq
    refine s34 (keep := false) rfl ?_
    repeat' ((conv => whnf); first | exact zf | refine zg ?_ | intro _ | refine And.intro rfl ?_ | refine ⟨_, h1, ?_⟩ | refine (h1).use ?_ | refine ⟨_, h2, ?_⟩ | refine (h2).use ?_ | refine (.inr ?_ : (∃ _, _) ∨ _) | refine (h3 ?_) | refine za ?_ | refine zl ?_ | refine zt ?_ | refine zu ?_ | fail)
    exact hk none
   ·by_cases k3 : u.k = 3
    ·rw [show (u.k == 1) = false by simp [k1], show (u.k == 2) = false by simp [k2], show (u.k == 3) = true by simp [k3]] at hk
     obtain ⟨o, f, i, F, e, hf, hi, hp, hpc, hF, hlt, hR, hx⟩ := hask k3
     cases e
     have h3 := fun {K : Out → H → Prop} => ask73 (K := K) (ca0 im t now) s o f i F _ hi hf hd.lf hd.ls hp hpc hF hlt hR hx
     replace hk : ∀ b, K (.ret (.tu [agTh ((opS (askC (ca0 im t now) o f i.po) s).fin t.c b).t, agEf (((opS (askC (ca0 im t now) o f i.po) s).fin t.c b).e.ef ((opS (askC (ca0 im t now) o f i.po) s).fin t.c b).d)])) (stB ((opS (askC (ca0 im t now) o f i.po) s).fin t.c b).s) := fun b => by
      have := hk b
      unfold askS at this
      rw [show (ca0 im t now).t.c.fr.getLast? = some f from hf, hi] at this
      exact this
     generalize opS (askC (ca0 im t now) o f i.po) s = R at h3 hk
     cases R with
     | ok e g =>
      cases e
      all_goals
       refine s34 (keep := false) rfl ?_
       repeat' ((conv => whnf); first | exact zf | refine zg ?_ | intro _ | refine And.intro rfl ?_ | refine ⟨_, h1, ?_⟩ | refine (h1).use ?_ | refine ⟨_, h2, ?_⟩ | refine (h2).use ?_ | refine (.inr ?_ : (∃ _, _) ∨ _) | refine (h3 (fun b => ?_)) | refine za ?_ | refine zl ?_ | refine zt ?_ | refine zu ?_ | fail)
       exact hk _
     | ex n c' s' =>
      have h4 := fun {K : Out → H → Prop} (g : K (.ret (.tu [])) (caX (raiseS c' s' t.c n))) => h3 (K := K) g
      refine s34 (keep := false) rfl ?_
      repeat' ((conv => whnf); first | exact zf | refine zg ?_ | intro _ | refine And.intro rfl ?_ | refine ⟨_, h1, ?_⟩ | refine (h1).use ?_ | refine ⟨_, h2, ?_⟩ | refine (h2).use ?_ | refine (.inr ?_ : (∃ _, _) ∨ _) | refine (h4 ?_) | refine za ?_ | refine zl ?_ | refine zt ?_ | refine zu ?_ | fail)
      exact hk none
    ·rw [show (u.k == 1) = false by simp [k1], show (u.k == 2) = false by simp [k2], show (u.k == 3) = false by simp [k3]] at hk
     refine s34 (keep := false) rfl ?_
     repeat' ((conv => whnf); first | exact zf | refine zg ?_ | intro _ | refine And.intro rfl ?_ | refine ⟨_, h1, ?_⟩ | refine (h1).use ?_ | refine ⟨_, h2, ?_⟩ | refine (h2).use ?_ | refine za ?_ | refine zl ?_ | refine zt ?_ | refine zu ?_ | fail)
     exact hk none
 ·have hz : (t.st != 0) = true := by simp [h0]
  rw [hz] at hk
  refine s34 (keep := false) rfl ?_
  repeat' ((conv => whnf); first | exact zf | refine zg ?_ | intro _ | refine And.intro rfl ?_ | refine za ?_ | refine zl ?_ | refine zt ?_ | refine zu ?_ | fail)
  exact hk none
section
variable {im : Im} {c : Co} {fr tr : Int}
def fewO (k : Int) : Bool := (k == 1) || ((k == 2) || ((k == 18) || ((k == 27) || ((k == 29) || ((k == 30) || ((k == 32) || ((k == 35) || (k == 41))))))))
theorem step13s (h : okX im c) {o : Op} (hf : fit im c = some o) (hs : fewO o.c = true) : St im c fr tr (stepX im c fr tr) := by
 unfold stepX
 rw [hf]
 obtain ⟨f, fn, hl, w1, hfn, w2, ho, hr, hop, hpo⟩ := fit_some hf
 simp only [hl]
 obtain ⟨a1, a2⟩ := within_iff.1 w2
 have := h.cd _ _ hfn
 have x : Cx im c fr tr o f fn := ⟨h.hI, hf, hl, ⟨a1, by omega⟩, hop, hpo, h.lf, h.ls, h.lt⟩
 obtain ⟨k, oa⟩ := o
 simp only [fewO, Bool.or_eq_true, beq_iff_eq] at hs
 rcases hs with rfl | rfl | rfl | rfl | rfl | rfl | rfl | rfl | rfl
 ·exact op1 x
 ·exact op2 x
 ·exact op18 x
 all_goals exact opA x (fun _ => rfl)
end
end Go.Proofs.YtjpgfgajkjhonaaGreatDoor
namespace Go.Proofs.YtjpgfgajkjhonaaGreatDoor
open Go.Vx
set_option maxRecDepth 100000
def askP (k : Nat) : List Op := match k with
 | 0 => [⟨2, 0⟩, ⟨1, 0⟩, ⟨29, 0⟩, ⟨18, 0⟩]
 | 1 => [⟨2, 0⟩, ⟨1, 0⟩, ⟨32, 0⟩, ⟨18, 0⟩]
 | 2 => [⟨1, 0⟩, ⟨35, 0⟩, ⟨18, 0⟩]
 | 3 => [⟨2, 0⟩, ⟨1, 0⟩, ⟨41, 0⟩, ⟨2, 0⟩, ⟨18, 0⟩]
 | 4 => [⟨1, 0⟩, ⟨27, 0⟩, ⟨2, 0⟩, ⟨18, 0⟩]
 | _ => [⟨2, 0⟩, ⟨30, 0⟩, ⟨18, 0⟩]
def askI (k : Nat) (m : Lb) : Im := ⟨[mkL m], [⟨1, 0, askP k⟩]⟩
def cur4 : Lb := ⟨[3], []⟩
def thC : Co := enterC c00 0 0 [num 7] 0
def th0 (c : Lb) (ro : Int) : Th := newTh [51] ⟨cur4, joinL cur4 c⟩ thC ro
def sq0 (c : Lb) (ro : Int) : Th × Sto := (th0 c ro, ⟨[], []⟩)
def makeW (w : Int) (c : Ca) (s : Sto) (o : Ob) : OR :=
 bif w == 0 then (bif decide (c.t.ro < 1) then .ex (-5) c s else .ok .no fun b => (addC { c with t := nameU c.t } (txt (kpT c.t)) o, addS s (kpT c.t) o b)) else .ex w c s
def coA (pc : Int) (st : List Va) : Co := ⟨[⟨0, pc, 0, 0, [num 7]⟩], st, []⟩
def thA (c : Lb) (ro pc : Int) (st : List Va) : Th := { th0 c ro with c := coA pc st }
def g0 (c : Lb) : Gs := ⟨cur4, joinL cur4 c⟩
def eS : Sto := ⟨[], []⟩
abbrev SS := Option Nat → Th × Sto
def badS (c : Lb) (ro pc : Int) (st : List Va) (n : Int) : SS := fun _ => ({ thA c ro pc st with st := 4, v := num n, ex := true }, eS)
def ranS (c : Lb) (ro pc : Int) (st : List Va) : SS := fun _ => (thA c ro pc st, eS)
def obM (k : Int) (m : Lb) (v : Va) : Ob := { noOb with k := k, l := m, v := v }
def hdM (k : Int) (m : Lb) : Va := ⟨k, 0, txt [3, 0], m.s, m.i⟩
def madS (k : Int) (m c : Lb) (ro pc : Int) (v : Va) : SS := fun b => ({ thA c ro pc [hdM k m] with ma := 1, ro := ro - 1 }, addS eS [3, 0] (obM k m v) b)
def endS (k : Int) (m c : Lb) (ro pc : Int) (v : Va) : SS := fun b => ({ thA c ro pc [] with c := ⟨[], [], []⟩, ma := 1, ro := ro - 1, st := 3, v := hdM k m }, addS eS [3, 0] (obM k m v) b)
def thT (m c : Lb) (ro pc : Int) (st : List Va) : Th := { thA c ro pc st with g := taintG (g0 c) m }
def ranT (m c : Lb) (ro pc : Int) (st : List Va) : SS := fun _ => (thT m c ro pc st, eS)
def endT7 (m c : Lb) (ro pc : Int) : SS := fun _ => ({ thT m c ro pc [] with c := ⟨[], [], []⟩, st := 3, v := num 7 }, eS)
def end7 (c : Lb) (ro pc : Int) : SS := fun _ => ({ thA c ro pc [] with c := ⟨[], [], []⟩, st := 3, v := num 7 }, eS)
def stS (k : Nat) (m c : Lb) (ro w : Int) : List SS := match k with
 | 0 => [ranS c ro 0 [], ranS c ro 1 [num 7], ranS c ro 2 [num 7, mkL m]] ++ (bif w == 0 then (bif decide (ro < 1) then [badS c ro 2 [num 7, mkL m] (-5)] else [madS 3 m c ro 3 (num 7), endS 3 m c ro 3 (num 7)]) else [badS c ro 2 [num 7, mkL m] w])
 | 1 => [ranS c ro 0 [], ranS c ro 1 [num 7], ranS c ro 2 [num 7, mkL m]] ++ (bif w == 0 then (bif decide (ro < 1) then [badS c ro 2 [num 7, mkL m] (-5)] else [madS 4 m c ro 3 (num 7), endS 4 m c ro 3 (num 7)]) else [badS c ro 2 [num 7, mkL m] w])
 | 2 => [ranS c ro 0 [], ranS c ro 1 [mkL m]] ++ (bif w == 0 then (bif decide (ro < 1) then [badS c ro 1 [mkL m] (-5)] else [madS 5 m c ro 2 noV, endS 5 m c ro 2 noV]) else [badS c ro 1 [mkL m] w])
 | 3 => [ranS c ro 0 [], ranS c ro 1 [num 7], ranS c ro 2 [num 7, mkL m]] ++ (bif w == 0 then [ranS c ro 3 [], ranS c ro 4 [num 7], end7 c ro 4] else [badS c ro 2 [num 7, mkL m] w])
 | 4 => [ranS c ro 0 [], ranS c ro 1 [mkL m]] ++ (bif w == 0 then [ranT m c ro 2 [], ranT m c ro 3 [num 7], endT7 m c ro 3] else [badS c ro 1 [mkL m] w])
 | _ => [ranS c ro 0 [], ranS c ro 1 [num 7], badS c ro 1 [num 7] (-1)]
def wS (k : Nat) (m c : Lb) : Int := match k with
 | 4 => taintE (g0 c) m
 | _ => writeG (g0 c) m
def Goes (im : Im) : List SS → Prop
 | [] => False
 | [S] => ∀ b, (S b).1.st ≠ 0
 | S :: S' :: r => (∀ b, ((S b).1.st = 0 ∧ (S b).1.sc = []) ∧ ∀ b', ∃ b'', nxS im 1 b' (S b) = S' b'') ∧ Goes im (S' :: r)
def res3 (w : Int) (c : Lb) (ro : Int) (m : Lb) : OR :=
 bif w == 0 then .ok (.out ⟨m, num 7⟩) fun _ => (askC (ca0 (askI 3 m) (thA c ro 2 [num 7, mkL m]) 1) ⟨41, 0⟩ ⟨0, 2, 0, 0, [num 7]⟩ 2, eS) else .ex w (askC (ca0 (askI 3 m) (thA c ro 2 [num 7, mkL m]) 1) ⟨41, 0⟩ ⟨0, 2, 0, 0, [num 7]⟩ 2) eS
def res4 (w : Int) (c : Lb) (ro : Int) (m : Lb) : OR :=
 bif w == 0 then .ok .no fun _ => (let q := askC (ca0 (askI 4 m) (thA c ro 1 [mkL m]) 1) ⟨27, 0⟩ ⟨0, 1, 0, 0, [num 7]⟩ 1; { q with t := { q.t with g := taintG (g0 c) m } }, eS) else .ex w (askC (ca0 (askI 4 m) (thA c ro 1 [mkL m]) 1) ⟨27, 0⟩ ⟨0, 1, 0, 0, [num 7]⟩ 1) eS
def opQ (k : Nat) (w : Int) (m c : Lb) (ro : Int) : OR := match k with
 | 0 => makeW w (askC (ca0 (askI 0 m) (thA c ro 2 [num 7, mkL m]) 1) ⟨29, 0⟩ ⟨0, 2, 0, 0, [num 7]⟩ 2) eS (obM 3 m (num 7))
 | 1 => makeW w (askC (ca0 (askI 1 m) (thA c ro 2 [num 7, mkL m]) 1) ⟨32, 0⟩ ⟨0, 2, 0, 0, [num 7]⟩ 2) eS (obM 4 m (num 7))
 | 2 => makeW w (askC (ca0 (askI 2 m) (thA c ro 1 [mkL m]) 1) ⟨35, 0⟩ ⟨0, 1, 0, 0, [num 7]⟩ 1) eS (obM 5 m noV)
 | 3 => res3 w c ro m
 | 4 => res4 w c ro m
 | _ => .ex (-1) (askC (ca0 (askI 5 m) (thA c ro 1 [num 7]) 1) ⟨30, 0⟩ ⟨0, 1, 0, 0, [num 7]⟩ 1) eS
theorem opq0 (m c : Lb) (ro : Int) (b : Option Nat) : doS (askI 0 m) (thA c ro 2 [num 7, mkL m]) eS 1 b = (opQ 0 (wS 0 m c) m c ro).fin (coA 2 [num 7, mkL m]) b := by rfl
theorem opq1 (m c : Lb) (ro : Int) (b : Option Nat) : doS (askI 1 m) (thA c ro 2 [num 7, mkL m]) eS 1 b = (opQ 1 (wS 1 m c) m c ro).fin (coA 2 [num 7, mkL m]) b := by rfl
theorem opq2 (m c : Lb) (ro : Int) (b : Option Nat) : doS (askI 2 m) (thA c ro 1 [mkL m]) eS 1 b = (opQ 2 (wS 2 m c) m c ro).fin (coA 1 [mkL m]) b := by rfl
theorem opq3 (m c : Lb) (ro : Int) (b : Option Nat) : doS (askI 3 m) (thA c ro 2 [num 7, mkL m]) eS 1 b = (opQ 3 (wS 3 m c) m c ro).fin (coA 2 [num 7, mkL m]) b := by rfl
theorem opq4 (m c : Lb) (ro : Int) (b : Option Nat) : doS (askI 4 m) (thA c ro 1 [mkL m]) eS 1 b = (opQ 4 (wS 4 m c) m c ro).fin (coA 1 [mkL m]) b := by rfl
theorem opq5 (m c : Lb) (ro : Int) (b : Option Nat) : doS (askI 5 m) (thA c ro 1 [num 7]) eS 1 b = (opQ 5 (wS 5 m c) m c ro).fin (coA 1 [num 7]) b := by rfl
theorem end0 (c m : Lb) (b b' : Option Nat) : nxS (askI 0 m) 1 b' (madS 3 m c 1 3 (num 7) b) = endS 3 m c 1 3 (num 7) b := by kernel_rfl
theorem end1 (c m : Lb) (b b' : Option Nat) : nxS (askI 1 m) 1 b' (madS 4 m c 1 3 (num 7) b) = endS 4 m c 1 3 (num 7) b := by kernel_rfl
theorem end2 (c m : Lb) (b b' : Option Nat) : nxS (askI 2 m) 1 b' (madS 5 m c 1 2 noV b) = endS 5 m c 1 2 noV b := by kernel_rfl
theorem goes (k : Nat) (hk : k ≤ 5) (m c : Lb) (ro : Int) (hro : ro = 0 ∨ ro = 1) (hw : wS k m c = 0 ∨ wS k m c = -3 ∨ wS k m c = -4) : Goes (askI k m) (stS k m c ro (wS k m c)) := by
 have hc := hk
 match k, hk with
 | 0, _ =>
  have h := opq0 m c ro
  generalize wS 0 m c = w at h hw ⊢
  rcases hro with rfl | rfl <;> rcases hw with rfl | rfl | rfl <;>
   exact ⟨fun b => ⟨⟨rfl, rfl⟩, fun b' => ⟨b', rfl⟩⟩, ⟨fun b => ⟨⟨rfl, rfl⟩, fun b' => ⟨b', rfl⟩⟩, fun b => ⟨⟨rfl, rfl⟩, fun b' => ⟨b', congrArg (fun p : Rs => (p.t, p.s)) (h b')⟩⟩, by first | exact fun b h => nomatch h | exact ⟨fun b => ⟨⟨rfl, rfl⟩, fun b' => ⟨b, end0 c m b b'⟩⟩, fun b h => nomatch h⟩⟩⟩
 | 1, _ =>
  have h := opq1 m c ro
  generalize wS 1 m c = w at h hw ⊢
  rcases hro with rfl | rfl <;> rcases hw with rfl | rfl | rfl <;>
   exact ⟨fun b => ⟨⟨rfl, rfl⟩, fun b' => ⟨b', rfl⟩⟩, ⟨fun b => ⟨⟨rfl, rfl⟩, fun b' => ⟨b', rfl⟩⟩, fun b => ⟨⟨rfl, rfl⟩, fun b' => ⟨b', congrArg (fun p : Rs => (p.t, p.s)) (h b')⟩⟩, by first | exact fun b h => nomatch h | exact ⟨fun b => ⟨⟨rfl, rfl⟩, fun b' => ⟨b, end1 c m b b'⟩⟩, fun b h => nomatch h⟩⟩⟩
 | 2, _ =>
  have h := opq2 m c ro
  generalize wS 2 m c = w at h hw ⊢
  rcases hro with rfl | rfl <;> rcases hw with rfl | rfl | rfl <;>
   exact ⟨fun b => ⟨⟨rfl, rfl⟩, fun b' => ⟨b', rfl⟩⟩, fun b => ⟨⟨rfl, rfl⟩, fun b' => ⟨b', congrArg (fun p : Rs => (p.t, p.s)) (h b')⟩⟩, by first | exact fun b h => nomatch h | exact ⟨fun b => ⟨⟨rfl, rfl⟩, fun b' => ⟨b, end2 c m b b'⟩⟩, fun b h => nomatch h⟩⟩
 | 3, _ =>
  have h := opq3 m c ro
  generalize wS 3 m c = w at h hw ⊢
  rcases hw with rfl | rfl | rfl <;>
   exact ⟨fun b => ⟨⟨rfl, rfl⟩, fun b' => ⟨b', rfl⟩⟩, ⟨fun b => ⟨⟨rfl, rfl⟩, fun b' => ⟨b', rfl⟩⟩, fun b => ⟨⟨rfl, rfl⟩, fun b' => ⟨b', congrArg (fun p : Rs => (p.t, p.s)) (h b')⟩⟩, by first | exact fun b h => nomatch h | exact ⟨fun b => ⟨⟨rfl, rfl⟩, fun b' => ⟨b, rfl⟩⟩, fun b => ⟨⟨rfl, rfl⟩, fun b' => ⟨b, rfl⟩⟩, fun b h => nomatch h⟩⟩⟩
 | 4, _ =>
  have h := opq4 m c ro
  generalize wS 4 m c = w at h hw ⊢
  rcases hw with rfl | rfl | rfl <;>
   exact ⟨fun b => ⟨⟨rfl, rfl⟩, fun b' => ⟨b', rfl⟩⟩, fun b => ⟨⟨rfl, rfl⟩, fun b' => ⟨b', congrArg (fun p : Rs => (p.t, p.s)) (h b')⟩⟩, by first | exact fun b h => nomatch h | exact ⟨fun b => ⟨⟨rfl, rfl⟩, fun b' => ⟨b, rfl⟩⟩, fun b => ⟨⟨rfl, rfl⟩, fun b' => ⟨b, rfl⟩⟩, fun b h => nomatch h⟩⟩
 | 5, _ =>
  have h := opq5 m c ro
  exact ⟨fun b => ⟨⟨rfl, rfl⟩, fun b' => ⟨b', rfl⟩⟩, fun b => ⟨⟨rfl, rfl⟩, fun b' => ⟨b', congrArg (fun p : Rs => (p.t, p.s)) (h b')⟩⟩, fun b h => nomatch h⟩
def lb8 : List Lb := [⟨[], []⟩, ⟨[1], []⟩, ⟨[2], []⟩, ⟨[1, 2], []⟩, ⟨[3], []⟩, ⟨[], [1]⟩, ⟨[1], [1]⟩, ⟨[0], []⟩]
theorem tab8 : (lb8.all fun m => lb8.all fun c => !(flowsL cur4 m) || (flowsL (joinL cur4 m) (joinL cur4 c) == flowsL m (joinL cur4 c))) = true := by kernel_rfl
def codeS (k : Nat) (m c : Lb) (ro : Int) : Int :=
 bif k == 5 then -1 else bif decide (k < 4) && !flowsL cur4 m then -3 else bif !flowsL (joinL cur4 m) (joinL cur4 c) then -4 else bif decide (k < 3) && (ro == 0) then -5 else 0
def GoodS (n : Int) (p : Th × Sto) : Prop := (n = 0 ∧ p.1.st = 3) ∨ (n ≠ 0 ∧ p.1.st = 4 ∧ p.1.v = num n ∧ p.1.ex = true ∧ p.2 = eS)
def lastS (l : List SS) : SS := l.getLast?.getD fun _ => ({ th0 noL 0 with st := 0 }, eS)
theorem wS_of (k : Nat) (m c : Lb) : wS k m c = 0 ∨ wS k m c = -3 ∨ wS k m c = -4 := by
 have hw : writeG (g0 c) m = bif flowsL cur4 m then (bif flowsL m (joinL cur4 c) then 0 else -4) else -3 := rfl
 have ht : taintE (g0 c) m = bif flowsL (joinL cur4 m) (joinL cur4 c) then 0 else -4 := rfl
 unfold wS
 split
 ·rw [ht]; cases flowsL (joinL cur4 m) (joinL cur4 c) <;> simp
 ·rw [hw]; cases flowsL cur4 m <;> cases flowsL m (joinL cur4 c) <;> simp
theorem lasts (k : Nat) (hk : k ≤ 5) (m c : Lb) (ro : Int) (hro : ro = 0 ∨ ro = 1) (hm : m ∈ lb8) (hc : c ∈ lb8) : ∀ b, GoodS (codeS k m c ro) (lastS (stS k m c ro (wS k m c)) b) := by
 have htab := List.all_eq_true.1 (List.all_eq_true.1 tab8 m hm) c hc
 have hw : writeG (g0 c) m = bif flowsL cur4 m then (bif flowsL m (joinL cur4 c) then 0 else -4) else -3 := rfl
 have ht : taintE (g0 c) m = bif flowsL (joinL cur4 m) (joinL cur4 c) then 0 else -4 := rfl
 have hw4 : wS 4 m c = taintE (g0 c) m := rfl
 unfold codeS
 match k, hk with
 | 0, _ =>
  rw [show wS 0 m c = writeG (g0 c) m from rfl, hw]
  revert htab
  cases flowsL cur4 m <;> cases flowsL m (joinL cur4 c) <;> cases flowsL (joinL cur4 m) (joinL cur4 c) <;> intro htab <;> rcases hro with rfl | rfl <;> first | (exact absurd htab (by decide)) | (refine (fun b => .inl ⟨rfl, rfl⟩)) | (refine (fun b => .inr ⟨by decide, rfl, rfl, rfl, rfl⟩))
 | 1, _ =>
  rw [show wS 1 m c = writeG (g0 c) m from rfl, hw]
  revert htab
  cases flowsL cur4 m <;> cases flowsL m (joinL cur4 c) <;> cases flowsL (joinL cur4 m) (joinL cur4 c) <;> intro htab <;> rcases hro with rfl | rfl <;> first | (exact absurd htab (by decide)) | (refine (fun b => .inl ⟨rfl, rfl⟩)) | (refine (fun b => .inr ⟨by decide, rfl, rfl, rfl, rfl⟩))
 | 2, _ =>
  rw [show wS 2 m c = writeG (g0 c) m from rfl, hw]
  revert htab
  cases flowsL cur4 m <;> cases flowsL m (joinL cur4 c) <;> cases flowsL (joinL cur4 m) (joinL cur4 c) <;> intro htab <;> rcases hro with rfl | rfl <;> first | (exact absurd htab (by decide)) | (refine (fun b => .inl ⟨rfl, rfl⟩)) | (refine (fun b => .inr ⟨by decide, rfl, rfl, rfl, rfl⟩))
 | 3, _ =>
  rw [show wS 3 m c = writeG (g0 c) m from rfl, hw]
  revert htab
  cases flowsL cur4 m <;> cases flowsL m (joinL cur4 c) <;> cases flowsL (joinL cur4 m) (joinL cur4 c) <;> intro htab <;> rcases hro with rfl | rfl <;> first | (exact absurd htab (by decide)) | (refine (fun b => .inl ⟨rfl, rfl⟩)) | (refine (fun b => .inr ⟨by decide, rfl, rfl, rfl, rfl⟩))
 | 4, _ =>
  rw [hw4, ht]
  cases flowsL cur4 m <;> cases flowsL (joinL cur4 m) (joinL cur4 c) <;> rcases hro with rfl | rfl <;> first | (refine (fun b => .inl ⟨rfl, rfl⟩)) | (refine (fun b => .inr ⟨by decide, rfl, rfl, rfl, rfl⟩))
 | 5, _ => exact (fun b => .inr ⟨show (-1 : Int) ≠ 0 by decide, rfl, rfl, rfl, rfl⟩)
theorem lookT_mem {key : List UInt8} : ∀ {l : List (List UInt8 × Ob)} {i : Nat} {o : Ob}, lookT key l = some (i, o) → ∃ p ∈ l, p.2 = o
 | [], _, _, h => nomatch h
 | p :: r, i, o, h => by
  unfold lookT at h
  by_cases hb : key = p.1
  ·rw [if_pos hb] at h; cases h; exact ⟨p, List.mem_cons_self .., rfl⟩
  ·rw [if_neg hb] at h
   cases hr : lookT key r with
   | none => rw [hr] at h; cases h
   | some q =>
    rw [hr] at h
    obtain ⟨p', hp, he⟩ := lookT_mem (i := q.1) (o := q.2) (by rw [hr])
    cases h
    exact ⟨p', List.mem_cons_of_mem _ hp, he⟩
theorem smQ_of {s : Sto} {nm : List UInt8} (h : ∀ p ∈ s.th, p.2.va.q.length < 100000000) : smQ s nm := fun i o ho => by
 obtain ⟨p, hp, he⟩ := lookT_mem ho
 rw [← he]
 exact h p hp
theorem lb8_ok : ∀ m ∈ lb8, okL m = true := by
 have : (lb8.all fun m => okL m) = true := by kernel_rfl
 exact List.all_eq_true.1 this
theorem lb8_sm : ∀ m ∈ lb8, smL m := by
 intro m hm
 simp only [lb8, List.mem_cons, List.not_mem_nil, or_false] at hm
 unfold smL sml
 rcases hm with rfl | rfl | rfl | rfl | rfl | rfl | rfl | rfl <;> exact ⟨by decide, by decide⟩
theorem smJ (a b : Lb) : smL (joinL a b) := ⟨sml_norm _, sml_norm _⟩
theorem txt3 : txt [3] = [51] := by kernel_rfl
theorem okXA (k : Nat) (m : Lb) (pc : Int) (st : List Va) (hst : st.length ≤ 3) (hsm : ∀ v ∈ st, smL (lbV v)) (o : Op) (hfit : fit (askI k m) (coA pc st) = some o) (ho : o.c ≠ 24 ∧ o.c ≠ 31) : okX (askI k m) (coA pc st) where
 hI := ⟨fun i g hg => by
  match i, hg with
  | 0, hg => cases hg; exact (show inR .i64 1 from ⟨by decide, by decide⟩)⟩
 cd := fun i g hg => by
  match i, hg with
  | 0, hg =>
   cases hg
   show (askP k).length < _
   unfold askP
   split <;> decide
 lf := show 1 < _ by decide
 ls := by show st.length < _; omega
 lt := show 0 < _ by decide
 ma := fun f hf => by cases hf; exact (show ((0 : Int) ≤ 0 ∧ (0 : Int) ≤ 255) ∧ [num 7].length < 1000000000 from ⟨⟨by decide, by decide⟩, by decide⟩)
 sm := hsm
 dm := fun o' h' => by rw [hfit] at h'; cases h'; exact ho
theorem makeR_ex {c c' : Ca} {s s' : Sto} {o : Ob} {n : Int} (h : makeR c s o = .ex n c' s') : s' = s := by
 unfold makeR at h
 cases hw : writeG c.t.g o.l == 0 <;> rw [hw] at h
 ·cases h; rfl
 ·cases hr : decide (c.t.ro < 1) <;> rw [hr] at h <;> cases h
  rfl
theorem taintR_ex {c c' : Ca} {s s' : Sto} {l : Lb} {n : Int} (h : taintR c s l = .ex n c' s') : s' = s := by
 unfold taintR at h
 cases hw : taintE c.t.g l == 0 <;> rw [hw] at h <;> cases h
 rfl
theorem newR_ex {k : Int} {c c' : Ca} {s s' : Sto} {n : Int} (h : newR k c s = .ex n c' s') : s' = s := by
 unfold newR at h
 cases hw : kindsB [0, 2] c.ar <;> rw [hw] at h
 ·cases h; rfl
 ·exact makeR_ex h
theorem newVR_ex {c c' : Ca} {s s' : Sto} {n : Int} (h : newVR c s = .ex n c' s') : s' = s := by
 unfold newVR at h
 cases hw : kindsB [2] c.ar <;> rw [hw] at h
 ·cases h; rfl
 ·exact makeR_ex h
theorem raiseR_ex {c c' : Ca} {s s' : Sto} {n : Int} (h : raiseR c s = .ex n c' s') : s' = s := by
 unfold raiseR at h
 cases hw : kindsB [2] c.ar <;> rw [hw] at h
 ·cases h; rfl
 ·exact taintR_ex h
theorem outR_ex {c c' : Ca} {s s' : Sto} {n : Int} (h : outR c s = .ex n c' s') : s' = s := by
 unfold outR at h
 cases hw : kindsB [0, 2] c.ar <;> rw [hw] at h
 ·cases h; rfl
 ·cases hg : writeG c.t.g (lbV (c.ar[1]?.getD noV)) == 0 <;> rw [hg] at h <;> cases h
  rfl
theorem openR_ex {c c' : Ca} {s s' : Sto} {n : Int} (h : openR c s = .ex n c' s') : s' = s := by
 unfold openR at h
 cases hw : kindsB [3] c.ar <;> rw [hw] at h
 ·cases h; rfl
 ·rw [cond_true] at h
  unfold readR at h
  cases ht : taintE c.t.g (lbV (c.ar[0]?.getD noV)) == 0 <;> rw [ht] at h
  ·cases h; rfl
  ·rw [cond_true] at h
   split at h
   ·unfold tellR at h
    rename_i p o hp
    cases ho : o.ex <;> rw [ho] at h <;> cases h
    rfl
   ·cases h
theorem opS_ex {c c' : Ca} {s s' : Sto} {n : Int} (h : opS c s = .ex n c' s') : s' = s := by
 unfold opS at h
 cases h1 : c.o.c == 27 <;> rw [h1] at h
 ·cases h2 : c.o.c == 29 <;> rw [h2] at h
  ·cases h3 : c.o.c == 30 <;> rw [h3] at h
   ·cases h4 : c.o.c == 32 <;> rw [h4] at h
    ·cases h5 : c.o.c == 35 <;> rw [h5] at h
     ·cases h6 : c.o.c == 41 <;> rw [h6] at h
      ·cases h; rfl
      ·exact outR_ex h
     ·exact newVR_ex h
    ·exact newR_ex h
   ·exact openR_ex h
  ·exact newR_ex h
 ·exact raiseR_ex h
theorem okMkA (q : Ca) (kd : Int) (m c : Lb) (v : Va) (ro : Int) (h1 : q.t.pa = [51]) (h2 : q.t.ma = 0) (h3 : q.t.ro = ro) (h4 : q.t.g = g0 c) (h5 : q.t.c.st.length < 1000000000) (hro : ro = 0 ∨ ro = 1) (hm : m ∈ lb8) (hk : 3 ≤ kd ∧ kd ≤ 7) : okMk q eS (obM kd m v) := by
 have hu : untx q.t.pa 0 = [3] := by rw [h1]; rfl
 refine ⟨⟨?_, ?_, ?_, ?_, ?_, ?_, ?_⟩, ?_, lb8_sm m hm, ⟨by decide, fun _ h => nomatch h⟩, hk.1, hk.2, lb8_ok m hm, show (0 : Nat) < _ by decide, rfl, h5⟩
 ·rw [hu, h1, txt3]
 ·rw [hu]; decide
 ·rw [hu]; decide
 ·rw [hu]; decide
 ·rw [h2]; decide
 ·rw [h2]; decide
 ·rw [h3]; rcases hro with rfl | rfl <;> decide
 ·rw [h4]; exact ⟨(show smL cur4 from ⟨show 1 ≤ _ by decide, show 0 ≤ _ by decide⟩), smJ _ _⟩
end Go.Proofs.YtjpgfgajkjhonaaGreatDoor
namespace Go.Proofs.YtjpgfgajkjhonaaGreatDoor
open Go.Vx
set_option maxRecDepth 100000
def OkS (im : Im) : List SS → Prop
 | [] => True
 | [_] => True
 | S :: S' :: r => (∀ b, okDo im (S b).1 (S b).2 1) ∧ OkS im (S' :: r)
theorem okRan (k : Nat) (m : Lb) (pc : Int) (st : List Va) (o : Op) {t : Th} {s : Sto} (ht : t.c = coA pc st) (hsc : t.sc = []) (hst : st.length ≤ 3) (hsm : ∀ v ∈ st, smL (lbV v)) (hfit : fit (askI k m) (coA pc st) = some o) (ho : o.c ≠ 24 ∧ o.c ≠ 31) (hfw : fewO o.c = true)
  (hr : (stepX (askI k m) (coA pc st) 0 0).2.k ≠ 3) (hq : ∀ p ∈ s.th, p.2.va.q.length < 100000000) : okDo (askI k m) t s 1 := by
 have e : innerT t = noSc := by unfold innerT; rw [hsc]; rfl
 refine ⟨by rw [ht]; exact step13s (okXA k m pc st hst hsm o hfit ho) hfit hfw, by rw [ht]; exact (show 1 < _ by decide), by rw [ht]; show st.length < _; omega, smQ_of hq, fun h => ?_⟩
 rw [ht, e] at h
 exact absurd h hr
theorem okAsk (k : Nat) (m : Lb) (pc : Int) (st : List Va) (o : Op) {t : Th} {s : Sto} (ht : t.c = coA pc st) (hst : st.length ≤ 3) (hsm : ∀ v ∈ st, smL (lbV v)) (hfit : fit (askI k m) (coA pc st) = some o) (ho : o.c ≠ 24 ∧ o.c ≠ 31) (hfw : fewO o.c = true)
  (hq : ∀ p ∈ s.th, p.2.va.q.length < 100000000) (h : (stepX (askI k m) t.c (innerT t).fr (innerT t).tr).2.k = 3 → ∃ o f i F, stepX (askI k m) t.c (innerT t).fr (innerT t).tr = (t.c, ⟨3, zeroV, o⟩) ∧ t.c.fr.getLast? = some f ∧ inf o.c = some i ∧ popOk t.c i.po = true ∧ (0 ≤ f.pc ∧ f.pc < 1000000000) ∧ askAt o.c F ∧ Nat.blt F 5000000 = true ∧
  (∀ {K : Out → H → Prop}, (opS (askC (ca0 (askI k m) t 1) o f i.po) s).K K → Sat Tryz.prog F [.p 0 0] (caB (askC (ca0 (askI k m) t 1) o f i.po) s) K) ∧ ∀ n c' s', opS (askC (ca0 (askI k m) t 1) o f i.po) s = .ex n c' s' → smQ s' c'.t.id) : okDo (askI k m) t s 1 :=
 ⟨by rw [ht]; exact step13s (okXA k m pc st hst hsm o hfit ho) hfit hfw, by rw [ht]; exact (show 1 < _ by decide), by rw [ht]; show st.length < _; omega, smQ_of hq, h⟩
theorem no_th {p : List UInt8 × Ob} (h : p ∈ eS.th) : p.2.va.q.length < 100000000 := nomatch h
theorem one_th {k : Int} {m : Lb} {v : Va} {b : Option Nat} : ∀ p ∈ (addS eS [3, 0] (obM k m v) b).th, p.2.va.q.length < 100000000 := fun p hp => by
 rw [List.mem_singleton.1 hp]
 exact (show (0 : Nat) < 100000000 by decide)
theorem sm7 : smL (lbV (num 7)) := ⟨show 0 ≤ _ by decide, show 0 ≤ _ by decide⟩
theorem smS (m : Lb) (hm : smL m) : ∀ v ∈ [num 7, mkL m], smL (lbV v) := fun v hv => by
 simp only [List.mem_cons, List.not_mem_nil, or_false] at hv
 rcases hv with rfl | rfl
 ·exact sm7
 ·exact hm
theorem smS1 (m : Lb) (hm : smL m) : ∀ v ∈ [mkL m], smL (lbV v) := fun v hv => by
 rw [List.mem_singleton.1 hv]; exact hm
theorem smS7 : ∀ v ∈ [num 7], smL (lbV v) := fun v hv => by
 rw [List.mem_singleton.1 hv]; exact sm7
theorem smH (k : Int) (m : Lb) (hm : smL m) : ∀ v ∈ [hdM k m], smL (lbV v) := fun v hv => by
 rw [List.mem_singleton.1 hv]; exact hm
theorem smGg (c : Lb) : smG (g0 c) := ⟨⟨show 1 ≤ _ by decide, show 0 ≤ _ by decide⟩, smJ _ _⟩
section
variable (m c : Lb) (ro : Int) (hro : ro = 0 ∨ ro = 1) (hm : m ∈ lb8)
include hro hm
theorem ask0 : okDo (askI 0 m) (thA c ro 2 [num 7, mkL m]) eS 1 :=
 okAsk 0 m 2 [num 7, mkL m] ⟨29, 0⟩ rfl (show 2 ≤ 3 by decide) (smS m (lb8_sm m hm)) rfl ⟨by decide, by decide⟩ rfl (fun _ h => no_th h) fun _ => ⟨⟨29, 0⟩, ⟨0, 2, 0, 0, [num 7]⟩, _, 174, rfl, rfl, rfl, rfl, ⟨by decide, by decide⟩, ⟨_, rfl⟩, rfl,
  fun h => newBox174 _ _ (num 7) (mkL m) rfl (okMkA _ 3 m c (num 7) ro rfl rfl rfl rfl (show 0 < _ by decide) hro hm ⟨by decide, by decide⟩) h, fun n c' s' h => by rw [opS_ex h]; exact smQ_of fun _ h => no_th h⟩
theorem ask1 : okDo (askI 1 m) (thA c ro 2 [num 7, mkL m]) eS 1 :=
 okAsk 1 m 2 [num 7, mkL m] ⟨32, 0⟩ rfl (show 2 ≤ 3 by decide) (smS m (lb8_sm m hm)) rfl ⟨by decide, by decide⟩ rfl (fun _ h => no_th h) fun _ => ⟨⟨32, 0⟩, ⟨0, 2, 0, 0, [num 7]⟩, _, 176, rfl, rfl, rfl, rfl, ⟨by decide, by decide⟩, ⟨_, rfl⟩, rfl,
  fun h => newRef176 _ _ (num 7) (mkL m) rfl (okMkA _ 4 m c (num 7) ro rfl rfl rfl rfl (show 0 < _ by decide) hro hm ⟨by decide, by decide⟩) h, fun n c' s' h => by rw [opS_ex h]; exact smQ_of fun _ h => no_th h⟩
theorem ask2 : okDo (askI 2 m) (thA c ro 1 [mkL m]) eS 1 :=
 okAsk 2 m 1 [mkL m] ⟨35, 0⟩ rfl (show 1 ≤ 3 by decide) (smS1 m (lb8_sm m hm)) rfl ⟨by decide, by decide⟩ rfl (fun _ h => no_th h) fun _ => ⟨⟨35, 0⟩, ⟨0, 1, 0, 0, [num 7]⟩, _, 179, rfl, rfl, rfl, rfl, ⟨by decide, by decide⟩, ⟨_, rfl⟩, rfl,
  fun h => newVar179 _ _ (mkL m) rfl (okMkA _ 5 m c noV ro rfl rfl rfl rfl (show 0 < _ by decide) hro hm ⟨by decide, by decide⟩) h, fun n c' s' h => by rw [opS_ex h]; exact smQ_of fun _ h => no_th h⟩
omit hro in
theorem ask3 : okDo (askI 3 m) (thA c ro 2 [num 7, mkL m]) eS 1 :=
 okAsk 3 m 2 [num 7, mkL m] ⟨41, 0⟩ rfl (show 2 ≤ 3 by decide) (smS m (lb8_sm m hm)) rfl ⟨by decide, by decide⟩ rfl (fun _ h => no_th h) fun _ => ⟨⟨41, 0⟩, ⟨0, 2, 0, 0, [num 7]⟩, _, 185, rfl, rfl, rfl, rfl, ⟨by decide, by decide⟩, ⟨_, rfl⟩, rfl,
  fun h => out185 _ _ (num 7) (mkL m) rfl (smGg c) (lb8_sm m hm) h, fun n c' s' h => by rw [opS_ex h]; exact smQ_of fun _ h => no_th h⟩
omit hro in
theorem ask4 : okDo (askI 4 m) (thA c ro 1 [mkL m]) eS 1 :=
 okAsk 4 m 1 [mkL m] ⟨27, 0⟩ rfl (show 1 ≤ 3 by decide) (smS1 m (lb8_sm m hm)) rfl ⟨by decide, by decide⟩ rfl (fun _ h => no_th h) fun _ => ⟨⟨27, 0⟩, ⟨0, 1, 0, 0, [num 7]⟩, _, 172, rfl, rfl, rfl, rfl, ⟨by decide, by decide⟩, ⟨_, rfl⟩, rfl,
  fun h => raise172 _ _ (mkL m) rfl (smGg c) (lb8_sm m hm) (smJ _ _) h, fun n c' s' h => by rw [opS_ex h]; exact smQ_of fun _ h => no_th h⟩
omit hro hm in
theorem ask5 : okDo (askI 5 m) (thA c ro 1 [num 7]) eS 1 :=
 okAsk 5 m 1 [num 7] ⟨30, 0⟩ rfl (show 1 ≤ 3 by decide) smS7 rfl ⟨by decide, by decide⟩ rfl (fun _ h => no_th h) fun _ => ⟨⟨30, 0⟩, ⟨0, 1, 0, 0, [num 7]⟩, _, 175, rfl, rfl, rfl, rfl, ⟨by decide, by decide⟩, ⟨_, rfl⟩, rfl,
  fun h => open175 _ _ (num 7) rfl (show 0 < _ by decide) (smGg c) sm7 (smJ _ _) (smQ_of fun _ h => no_th h) h, fun n c' s' h => by rw [opS_ex h]; exact smQ_of fun _ h => no_th h⟩
theorem okAll (k : Nat) (hk : k ≤ 5) : OkS (askI k m) (stS k m c ro (wS k m c)) := by
 have hw := wS_of k m c
 have hs := lb8_sm m hm
 have nil : ∀ v ∈ ([] : List Va), smL (lbV v) := fun _ h => nomatch h
 match k, hk with
 | 0, _ =>
  have ha := ask0 m c ro hro hm
  generalize wS 0 m c = w at hw ⊢
  have r0 : ∀ b, okDo (askI 0 m) (ranS c ro 0 [] b).1 (ranS c ro 0 [] b).2 1 := fun b => okRan 0 m 0 [] ⟨2, 0⟩ rfl rfl (by decide) nil rfl ⟨by decide, by decide⟩ rfl (show (0 : Int) ≠ 3 by decide) fun _ h => no_th h
  have r1 : ∀ b, okDo (askI 0 m) (ranS c ro 1 [num 7] b).1 (ranS c ro 1 [num 7] b).2 1 := fun b => okRan 0 m 1 [num 7] ⟨1, 0⟩ rfl rfl (by decide) smS7 rfl ⟨by decide, by decide⟩ rfl (show (0 : Int) ≠ 3 by decide) fun _ h => no_th h
  have r2 : ∀ b, okDo (askI 0 m) (madS 3 m c ro 3 (num 7) b).1 (madS 3 m c ro 3 (num 7) b).2 1 := fun b => okRan 0 m 3 [hdM 3 m] ⟨18, 0⟩ rfl rfl (show 1 ≤ 3 by decide) (smH 3 m hs) rfl ⟨by decide, by decide⟩ rfl (show (1 : Int) ≠ 3 by decide) one_th
  rcases hro with rfl | rfl <;> rcases hw with rfl | rfl | rfl <;> first | exact ⟨r0, r1, fun _ => ha, trivial⟩ | exact ⟨r0, r1, fun _ => ha, r2, trivial⟩
 | 1, _ =>
  have ha := ask1 m c ro hro hm
  generalize wS 1 m c = w at hw ⊢
  have r0 : ∀ b, okDo (askI 1 m) (ranS c ro 0 [] b).1 (ranS c ro 0 [] b).2 1 := fun b => okRan 1 m 0 [] ⟨2, 0⟩ rfl rfl (by decide) nil rfl ⟨by decide, by decide⟩ rfl (show (0 : Int) ≠ 3 by decide) fun _ h => no_th h
  have r1 : ∀ b, okDo (askI 1 m) (ranS c ro 1 [num 7] b).1 (ranS c ro 1 [num 7] b).2 1 := fun b => okRan 1 m 1 [num 7] ⟨1, 0⟩ rfl rfl (by decide) smS7 rfl ⟨by decide, by decide⟩ rfl (show (0 : Int) ≠ 3 by decide) fun _ h => no_th h
  have r2 : ∀ b, okDo (askI 1 m) (madS 4 m c ro 3 (num 7) b).1 (madS 4 m c ro 3 (num 7) b).2 1 := fun b => okRan 1 m 3 [hdM 4 m] ⟨18, 0⟩ rfl rfl (show 1 ≤ 3 by decide) (smH 4 m hs) rfl ⟨by decide, by decide⟩ rfl (show (1 : Int) ≠ 3 by decide) one_th
  rcases hro with rfl | rfl <;> rcases hw with rfl | rfl | rfl <;> first | exact ⟨r0, r1, fun _ => ha, trivial⟩ | exact ⟨r0, r1, fun _ => ha, r2, trivial⟩
 | 2, _ =>
  have ha := ask2 m c ro hro hm
  generalize wS 2 m c = w at hw ⊢
  have r0 : ∀ b, okDo (askI 2 m) (ranS c ro 0 [] b).1 (ranS c ro 0 [] b).2 1 := fun b => okRan 2 m 0 [] ⟨1, 0⟩ rfl rfl (by decide) nil rfl ⟨by decide, by decide⟩ rfl (show (0 : Int) ≠ 3 by decide) fun _ h => no_th h
  have r2 : ∀ b, okDo (askI 2 m) (madS 5 m c ro 2 noV b).1 (madS 5 m c ro 2 noV b).2 1 := fun b => okRan 2 m 2 [hdM 5 m] ⟨18, 0⟩ rfl rfl (show 1 ≤ 3 by decide) (smH 5 m hs) rfl ⟨by decide, by decide⟩ rfl (show (1 : Int) ≠ 3 by decide) one_th
  rcases hro with rfl | rfl <;> rcases hw with rfl | rfl | rfl <;> first | exact ⟨r0, fun _ => ha, trivial⟩ | exact ⟨r0, fun _ => ha, r2, trivial⟩
 | 3, _ =>
  have ha := ask3 m c ro hm
  generalize wS 3 m c = w at hw ⊢
  have r0 : ∀ b, okDo (askI 3 m) (ranS c ro 0 [] b).1 (ranS c ro 0 [] b).2 1 := fun b => okRan 3 m 0 [] ⟨2, 0⟩ rfl rfl (by decide) nil rfl ⟨by decide, by decide⟩ rfl (show (0 : Int) ≠ 3 by decide) fun _ h => no_th h
  have r1 : ∀ b, okDo (askI 3 m) (ranS c ro 1 [num 7] b).1 (ranS c ro 1 [num 7] b).2 1 := fun b => okRan 3 m 1 [num 7] ⟨1, 0⟩ rfl rfl (by decide) smS7 rfl ⟨by decide, by decide⟩ rfl (show (0 : Int) ≠ 3 by decide) fun _ h => no_th h
  have r2 : ∀ b, okDo (askI 3 m) (ranS c ro 3 [] b).1 (ranS c ro 3 [] b).2 1 := fun b => okRan 3 m 3 [] ⟨2, 0⟩ rfl rfl (by decide) nil rfl ⟨by decide, by decide⟩ rfl (show (0 : Int) ≠ 3 by decide) fun _ h => no_th h
  have r3 : ∀ b, okDo (askI 3 m) (ranS c ro 4 [num 7] b).1 (ranS c ro 4 [num 7] b).2 1 := fun b => okRan 3 m 4 [num 7] ⟨18, 0⟩ rfl rfl (by decide) smS7 rfl ⟨by decide, by decide⟩ rfl (show (1 : Int) ≠ 3 by decide) fun _ h => no_th h
  rcases hw with rfl | rfl | rfl <;> first | exact ⟨r0, r1, fun _ => ha, trivial⟩ | exact ⟨r0, r1, fun _ => ha, r2, r3, trivial⟩
 | 4, _ =>
  have ha := ask4 m c ro hm
  generalize wS 4 m c = w at hw ⊢
  have r0 : ∀ b, okDo (askI 4 m) (ranS c ro 0 [] b).1 (ranS c ro 0 [] b).2 1 := fun b => okRan 4 m 0 [] ⟨1, 0⟩ rfl rfl (by decide) nil rfl ⟨by decide, by decide⟩ rfl (show (0 : Int) ≠ 3 by decide) fun _ h => no_th h
  have r2 : ∀ b, okDo (askI 4 m) (ranT m c ro 2 [] b).1 (ranT m c ro 2 [] b).2 1 := fun b => okRan 4 m 2 [] ⟨2, 0⟩ rfl rfl (by decide) nil rfl ⟨by decide, by decide⟩ rfl (show (0 : Int) ≠ 3 by decide) fun _ h => no_th h
  have r3 : ∀ b, okDo (askI 4 m) (ranT m c ro 3 [num 7] b).1 (ranT m c ro 3 [num 7] b).2 1 := fun b => okRan 4 m 3 [num 7] ⟨18, 0⟩ rfl rfl (by decide) smS7 rfl ⟨by decide, by decide⟩ rfl (show (1 : Int) ≠ 3 by decide) fun _ h => no_th h
  rcases hw with rfl | rfl | rfl <;> first | exact ⟨r0, fun _ => ha, trivial⟩ | exact ⟨r0, fun _ => ha, r2, r3, trivial⟩
 | 5, _ =>
  have r0 : ∀ b, okDo (askI 5 m) (ranS c ro 0 [] b).1 (ranS c ro 0 [] b).2 1 := fun b => okRan 5 m 0 [] ⟨2, 0⟩ rfl rfl (by decide) nil rfl ⟨by decide, by decide⟩ rfl (show (0 : Int) ≠ 3 by decide) fun _ h => no_th h
  exact ⟨r0, fun _ => ask5 m c ro, trivial⟩
end
def woB (im : Im) (t : Th) (s : Sto) : H := [.cells ([.d (.sl 5 (im.cs.map encV)), .d (.sl 3 (im.fs.map encFn)), .p 1 0] ++ (cellsTh t).map .d), .cells [.mp 2, .mp 3], .dm (thE s.th), .ms 1 (nmE s.nm) none none]
theorem labels17 : SatP Tryz.prog 17 [] (.d (.sl 2 (lb8.map rowL))) := by
 refine s17 (keep := false) rfl ?_
 repeat' ((conv => whnf); first | exact zf | refine zg ?_ | intro _ | refine And.intro rfl ?_ | refine za ?_ | refine zl ?_ | fail)
theorem number21 (n : Int) : SatP Tryz.prog 21 [.d (.int .i64 n)] (agV (num n)) := by
 refine s21 (keep := false) rfl ?_
 repeat' ((conv => whnf); first | exact zf | refine zg ?_ | intro _ | refine And.intro rfl ?_ | refine za ?_ | refine zl ?_ | fail)
theorem start23 (a b : Lb) : SatP Tryz.prog 23 [agL a, agL b] (agG ⟨a, b⟩) := by
 refine s23 (keep := false) rfl ?_
 repeat' ((conv => whnf); first | exact zf | refine zg ?_ | intro _ | refine And.intro rfl ?_ | refine za ?_ | refine zl ?_ | fail)
theorem high30 : SatP Tryz.prog 30 [] (agL ⟨[0], []⟩) := by
 refine s30 (keep := false) rfl ?_
 repeat' ((conv => whnf); first | exact zf | refine zg ?_ | intro _ | refine And.intro rfl ?_ | refine za ?_ | refine zl ?_ | fail)
theorem asking19 (how : Int) (k : Nat) (hk : k ≤ 5) (h : how.tmod 6 = k) (m : Lb) : SatP Tryz.prog 19 [.d (.int .u8 how), agL m] (agI (askI k m)) := by
 refine s19 (keep := false) rfl ?_
 match k, hk with
 | 0, _ =>
  repeat' ((conv => whnf); first | exact zf | refine zg ?_ | intro _ | refine And.intro rfl ?_ | refine za ?_ | refine zl ?_ | refine zt ?_ | refine zu ?_ | fail)
 | 1, _ =>
  repeat' ((conv => whnf); first | exact zf | refine zg ?_ | intro _ | refine And.intro rfl ?_ | refine za ?_ | refine zl ?_ | refine zt ?_ | refine zu ?_ | fail)
 | 2, _ =>
  repeat' ((conv => whnf); first | exact zf | refine zg ?_ | intro _ | refine And.intro rfl ?_ | refine za ?_ | refine zl ?_ | refine zt ?_ | refine zu ?_ | fail)
 | 3, _ =>
  repeat' ((conv => whnf); first | exact zf | refine zg ?_ | intro _ | refine And.intro rfl ?_ | refine za ?_ | refine zl ?_ | refine zt ?_ | refine zu ?_ | fail)
 | 4, _ =>
  repeat' ((conv => whnf); first | exact zf | refine zg ?_ | intro _ | refine And.intro rfl ?_ | refine za ?_ | refine zl ?_ | refine zt ?_ | refine zu ?_ | fail)
 | 5, _ =>
  repeat' ((conv => whnf); first | exact zf | refine zg ?_ | intro _ | refine And.intro rfl ?_ | refine za ?_ | refine zl ?_ | refine zt ?_ | refine zu ?_ | fail)
set_option maxHeartbeats 4000000 in
theorem step12 {K : Out → H → Prop} (im : Im) (t : Th) (s : Sto) (now : Int) (hsc : t.sc = []) (h : t.st = 0 → okDo im t s now) (hk : ∀ b, K (.ret (agEf ((doS im t s now b).e.ef (doS im t s now b).d))) (woB im (doS im t s now b).t (doS im t s now b).s)) :
  Sat Tryz.prog 12 [.p 0 0, .d (.int .i64 now)] (woB im t s) K := by
 have h1 := due11 t now
 rw [show dueT t now = -1 by unfold dueT; rw [hsc]; rfl] at h1
 have h2 := fun {K : Out → H → Prop} => do34 (K := K) im t s now h
 refine s12 (keep := false) rfl ?_
 repeat' ((conv => whnf); first | exact zf | refine zg ?_ | intro _ | refine And.intro rfl ?_ | refine ⟨_, h1, ?_⟩ | refine (h1).use ?_ | refine (sp_f (by decide) ?_) | refine (cuo_new (cuo_new ?_)) | refine (.inr ?_ : (∃ _, _) ∨ _) | refine (h2 (fun b => ?_)) | refine za ?_ | refine zl ?_ | refine And.intro ?_ ?_ | fail)
 all_goals exact hk _
end Go.Proofs.YtjpgfgajkjhonaaGreatDoor
namespace Go.Proofs.YtjpgfgajkjhonaaGreatDoor
open Go.Vx
set_option maxRecDepth 100000
def cellsCr (c : Ca) (e : List V) (a : V) (s : Nat) : List V :=
 [.nl 5, .nl 3, .p s 0, .d (.int .i64 c.now)] ++ (cellsTh c.t).map .d ++ [.d (.int .i64 c.tr)] ++ e ++ [.d (.int .i64 c.o.c), .d (.int .i64 c.o.a), a, .d (.int .u8 c.ma)]
def caR (c : Ca) (s : Sto) : H := .cells (cellsCr c [.nl 20, .nl 7, .nl 6, .nl 2, .d (.bool false)] (.nl 5) 1) :: [.cells [.mp 2, .mp 3], .dm (thE s.th), .ms 1 (nmE s.nm) none none]
def caZ (p : Ca × Bool × Sto) : H := .cells (cellsCr p.1 [.nl 20, .nl 7, .nl 6, .nl 2, .d (.bool p.2.1)] (.nl 5) 1) :: [.cells [.mp 2, .mp 3], .dm (thE p.2.2.th), .ms 1 (nmE p.2.2.nm) none none]
theorem finish72R {K : Out → H → Prop} (c : Ca) (s : Sto) (v : Va) (ex : Bool) (hqa : ∀ i o, lookT c.t.id s.th = some (i, o) → o.va.q.length < 100000000) (hk : K (.ret (.tu [])) (caZ (finS c s v ex))) : Sat Tryz.prog 72 [.p 0 0, agV v, .d (.bool ex)] (caR c s) K := by
 have h1 := finish110 c.t v ex
 have hid : (finishT c.t v ex).id = c.t.id := rfl
 unfold finS at hk
 generalize finishT c.t v ex = t at h1 hid hk
 rw [← hid] at hqa
 have hq : (getO s t.id).va.q.length < 100000000 := by
  unfold getO
  cases hlk : lookT t.id s.th with
  | none => simp [noOb, noVr]
  | some p => exact hqa p.1 p.2 hlk
 by_cases h30 : t.st = 3
 ·have hnot : ¬ (t.st ≠ 3 ∧ t.st ≠ 4) := fun h => h.1 h30
  simp only [hnot, if_false] at hk
  have hg := get16 (K := fun out h => out = .ret (.tu [agOb (getO s t.id), .d (.bool (hasO s t.id))]) ∧ h = stB s) s t.id hq ⟨rfl, rfl⟩
  unfold getO hasO at hg
  cases hlk : lookT t.id s.th with
  | none =>
   rw [hlk] at hg hk
   refine s72 (keep := false) rfl ?_
   repeat' ((conv => whnf); first | exact zf | refine zg ?_ | intro _ | refine And.intro rfl ?_ | refine ⟨_, h1, ?_⟩ | refine (h1).use ?_ | refine (cfo_new (cfo_old ?_) : cfo _ (cfo (rqc _ _ _ _ 16 _ _ _ _ _ _ _) _)) | refine ⟨_, _, hg, ?_⟩ | refine za ?_ | refine zl ?_ | refine zt ?_ | refine zu ?_ | fail)
   exact hk
  | some p =>
   obtain ⟨i, o⟩ := p
   rw [hlk] at hg hk
   by_cases h6 : o.k = 6
   ·have hset := fun {K : Out → H → Prop} => set111 (K := K) s t.id i { o with v := v, ex := ex, dn := true } o hlk rfl rfl (hqa i o hlk)
    dsimp only at hk
    rw [if_pos h6] at hk
    refine s72 (keep := false) rfl ?_
    repeat' ((conv => whnf); first | exact zf | refine zg ?_ | intro _ | refine And.intro rfl ?_ | refine ⟨_, h1, ?_⟩ | refine (h1).use ?_ | refine (cfo_new (cfo_old ?_) : cfo _ (cfo (rqc _ _ _ _ 16 _ _ _ _ _ _ _) _)) | refine ⟨_, _, hg, ?_⟩ | refine (.inr ?_ : (∃ _, _) ∨ _) | refine (hset ?_) | refine za ?_ | refine zl ?_ | refine zt ?_ | refine zu ?_ | fail)
    exact hk
   ·simp only [h6, if_false] at hk
    refine s72 (keep := false) rfl ?_
    repeat' ((conv => whnf); first | exact zf | refine zg ?_ | intro _ | refine And.intro rfl ?_ | refine ⟨_, h1, ?_⟩ | refine (h1).use ?_ | refine (cfo_new (cfo_old ?_) : cfo _ (cfo (rqc _ _ _ _ 16 _ _ _ _ _ _ _) _)) | refine ⟨_, _, hg, ?_⟩ | refine za ?_ | refine zl ?_ | refine zt ?_ | refine zu ?_ | fail)
    exact hk
 ·by_cases h3 : t.st = 4
  ·have hnot : ¬ (t.st ≠ 3 ∧ t.st ≠ 4) := fun h => h.2 h3
   simp only [hnot, if_false] at hk
   have hg := get16 (K := fun out h => out = .ret (.tu [agOb (getO s t.id), .d (.bool (hasO s t.id))]) ∧ h = stB s) s t.id hq ⟨rfl, rfl⟩
   unfold getO hasO at hg
   cases hlk : lookT t.id s.th with
   | none =>
    rw [hlk] at hg hk
    refine s72 (keep := false) rfl ?_
    repeat' ((conv => whnf); first | exact zf | refine zg ?_ | intro _ | refine And.intro rfl ?_ | refine ⟨_, h1, ?_⟩ | refine (h1).use ?_ | refine (cfo_new (cfo_old ?_) : cfo _ (cfo (rqc _ _ _ _ 16 _ _ _ _ _ _ _) _)) | refine ⟨_, _, hg, ?_⟩ | refine za ?_ | refine zl ?_ | refine zt ?_ | refine zu ?_ | fail)
    exact hk
   | some p =>
    obtain ⟨i, o⟩ := p
    rw [hlk] at hg hk
    by_cases h6 : o.k = 6
    ·have hset := fun {K : Out → H → Prop} => set111 (K := K) s t.id i { o with v := v, ex := ex, dn := true } o hlk rfl rfl (hqa i o hlk)
     dsimp only at hk
     rw [if_pos h6] at hk
     refine s72 (keep := false) rfl ?_
     repeat' ((conv => whnf); first | exact zf | refine zg ?_ | intro _ | refine And.intro rfl ?_ | refine ⟨_, h1, ?_⟩ | refine (h1).use ?_ | refine (cfo_new (cfo_old ?_) : cfo _ (cfo (rqc _ _ _ _ 16 _ _ _ _ _ _ _) _)) | refine ⟨_, _, hg, ?_⟩ | refine (.inr ?_ : (∃ _, _) ∨ _) | refine (hset ?_) | refine za ?_ | refine zl ?_ | refine zt ?_ | refine zu ?_ | fail)
     exact hk
    ·simp only [h6, if_false] at hk
     refine s72 (keep := false) rfl ?_
     repeat' ((conv => whnf); first | exact zf | refine zg ?_ | intro _ | refine And.intro rfl ?_ | refine ⟨_, h1, ?_⟩ | refine (h1).use ?_ | refine (cfo_new (cfo_old ?_) : cfo _ (cfo (rqc _ _ _ _ 16 _ _ _ _ _ _ _) _)) | refine ⟨_, _, hg, ?_⟩ | refine za ?_ | refine zl ?_ | refine zt ?_ | refine zu ?_ | fail)
     exact hk
  ·have hyes : t.st ≠ 3 ∧ t.st ≠ 4 := ⟨h30, h3⟩
   rw [if_pos hyes] at hk
   refine s72 (keep := false) rfl ?_
   repeat' ((conv => whnf); first | exact zf | refine zg ?_ | intro _ | refine And.intro rfl ?_ | refine ⟨_, h1, ?_⟩ | refine (h1).use ?_ | refine za ?_ | refine zl ?_ | refine zt ?_ | refine zu ?_ | fail)
   exact hk
theorem raise75R {K : Out → H → Prop} (c : Ca) (s : Sto) (k : Co) (code : Int) (hf : k.fr.length < 1000000000) (hst : k.st.length < 1000000000) (hqa : ∀ i o, lookT c.t.id s.th = some (i, o) → o.va.q.length < 100000000) (hk : K (.ret (.tu [])) (caZ (raiseS c s k code))) :
  Sat Tryz.prog 75 [.p 0 0, agC k, .d (.int .i64 code)] (caR c s) K := by
 have h1 := raise28 k code c.tr hf hst
 unfold raiseS at hk
 generalize raise k code c.tr = r at h1 hk
 have h2 := fun {K : Out → H → Prop} => finish72R (K := K) { c with t := { c.t with c := r.1 } } s r.2.v true hqa
 cases hb : r.2.k == 2 with
 | true =>
  simp only [hb, cond_true] at hk
  refine s75 (keep := false) rfl ?_
  repeat' ((conv => whnf); first | exact zf | refine zg ?_ | intro _ | refine And.intro rfl ?_ | refine ⟨_, h1, ?_⟩ | refine (h1).use ?_ | refine (.inr ?_ : (∃ _, _) ∨ _) | refine (h2 ?_) | refine za ?_ | refine zl ?_ | refine zt ?_ | refine zu ?_ | fail)
  exact hk
 | false =>
  simp only [hb, cond_false] at hk
  refine s75 (keep := false) rfl ?_
  repeat' ((conv => whnf); first | exact zf | refine zg ?_ | intro _ | refine And.intro rfl ?_ | refine ⟨_, h1, ?_⟩ | refine (h1).use ?_ | refine za ?_ | refine zl ?_ | refine zt ?_ | refine zu ?_ | fail)
  exact hk
def resS (t : Th) (s : Sto) (n : Int) : Rs := rsX (raiseS (ca0 ⟨[], []⟩ (wakeT t []) 0) s (wakeT t []).c n)
set_option maxHeartbeats 4000000 in
theorem resume36 {K : Out → H → Prop} (t : Th) (s : Sto) (v : Va) (hf : t.c.fr.length < 1000000000) (hst : t.c.st.length < 1000000000) (hq : smQ s t.id) (hk : K (.ret (.tu [agTh (resS t s v.n).t, agEf ((resS t s v.n).e.ef (resS t s v.n).d)])) (stB (resS t s v.n).s)) :
  Sat Tryz.prog 36 [agTh t, .p 0 0, agV v, .d (.bool true)] (stB s) K := by
 have h1 := floor70 t
 have h2 := wake15 t [] (by decide) hst
 have h3 := fun {K : Out → H → Prop} => raise75R (K := K) (ca0 ⟨[], []⟩ (wakeT t []) 0) s (wakeT t []).c v.n hf (by show (t.c.st ++ []).length < _; rw [List.append_nil]; exact hst) hq
 refine s36 (keep := false) rfl ?_
 repeat' ((conv => whnf); first | exact zf | refine zg ?_ | intro _ | refine And.intro rfl ?_ | refine ⟨_, h1, ?_⟩ | refine (h1).use ?_ | refine ⟨_, h2, ?_⟩ | refine (h2).use ?_ | refine (cuo_new (cuo_new ?_)) | refine (.inr ?_ : (∃ _, _) ∨ _) | refine (h3 ?_) | refine za ?_ | refine zl ?_ | refine zt ?_ | refine zu ?_ | refine And.intro ?_ ?_ | fail)
 all_goals exact hk
end Go.Proofs.YtjpgfgajkjhonaaGreatDoor
