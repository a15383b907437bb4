/- An op that is gone through. Conditions: the program's ops are right, the depths small. -/
import Derived.Test.YtoibcfioicdlhaaGreatDoorQBC
namespace Go.Proofs.YtoibcfioicdlhaaGreatDoor
open Go.Vx
set_option maxRecDepth 100000
def sq (n : Nat) (x : Int) (o : Op) (s : Sn) (l : List Int) (b : Int × Int) : Except Int (Sn × List Int) :=
  bif last o.c then .ok (s, l) else bif decide (x + 1 < n) then (match rch s l (x + 1) b with
    | some q => .ok q
    | none => .error 8) else .error 9
def thr (im : Im) (n : Nat) (o : Op) (i : Info) (x : Int) (h : Int × Int) (s : Sn) (l : List Int) : Except Int (Sn × List Int) :=
  bif decide (takes im o ≤ h.1) && decide (h.1 - takes im o + i.pu ≤ 32) then
    (bif o.c == 21 then (bif decide (0 < h.2) then sq n x o s l (h.1 - takes im o + i.pu, h.2 - 1) else .error 11)
    else bif o.c == 20 then (bif decide (h.2 < 16) && decide (h.1 < 32) then (match sq n x o s l (h.1 - takes im o + i.pu, h.2 + 1) with
        | .ok q => (match rch q.1 q.2 o.a (h.1 + 1, h.2) with
          | some q => .ok q
          | none => .error 8)
        | .error e => .error e) else .error 8)
    else bif o.c == 16 || o.c == 15 then (match rch s l o.a (h.1 - takes im o + i.pu, h.2) with
        | some q => sq n x o q.1 q.2 (h.1 - takes im o + i.pu, h.2)
        | none => .error 8)
    else sq n x o s l (h.1 - takes im o + i.pu, h.2))
  else .error 8
def fin4 (K : Out → H → Prop) (im : Im) (fn : Fn) (x : Int) (r : Except Int (Sn × List Int)) : Prop :=
  match r with
  | .ok q => K (.ret (.tu [])) (wB im fn q.1 q.2)
  | .error e => ∀ s l, K (.pan (flt x e)) (wB im fn s l)
theorem reach82' {K : Out → H → Prop} (im : Im) (fn : Fn) (s : Sn) (l : List Int) (f x a b : Int) (h1 : ∀ q, rch s l x (a, b) = some q → K (.ret (.tu [])) (wB im fn q.1 q.2)) (h2 : rch s l x (a, b) = none → K (.pan (flt f 8)) (wB im fn s l)) : Sat Tryz.prog 82 [.p 0 0, .d (.int .i64 f), .d (.int .i64 x), .ag [.d (.int .i64 a), .d (.int .i64 b)]] (wB im fn s l) K := by
  refine reach82 im fn s l f x (a, b) ?_
  cases h : rch s l x (a, b) with
  | some q => exact h1 q h
  | none => exact h2 h
theorem fin4_err {K : Out → H → Prop} {im : Im} {fn : Fn} {x e : Int} {r : Except Int (Sn × List Int)} (h : fin4 K im fn x r) (hr : r = .error e) (s : Sn) (l : List Int) : K (.pan (flt x e)) (wB im fn s l) := by
  subst hr; exact h s l
set_option maxRecDepth 100000 in
set_option maxHeartbeats 4000000 in
theorem thr_norm {K : Out → H → Prop} (im : Im) (fn : Fn) (x : Int) (o : Op) (i : Info) (s : Sn) (l : List Int) (h0 : 0 ≤ x ∧ x < 1000) (ho : fn.code[x.toNat]? = some o) (hi : inf o.c = some i) (j : Nat) (d t : Int) (hl : lookI s x 0 = some (j, (d, t))) (hh : -1000 ≤ d ∧ d ≤ 1000 ∧ -1000 ≤ t ∧ t ≤ 1000) (hc : o.c ≠ 15 ∧ o.c ≠ 16 ∧ o.c ≠ 17 ∧ o.c ≠ 18 ∧ o.c ≠ 19 ∧ o.c ≠ 20 ∧ o.c ≠ 21)
    (hk : fin4 K im fn x (thr im fn.code.length o i x (d, t) s l)) : Sat Tryz.prog 84 [.p 0 0, .d (.int .i64 x)] (wB im fn s l) K := by
  have hab := about_yes hi
  have hs := fnd_seen x s 0
  rw [hl] at hs
  obtain ⟨_, _, _, _, p0, p1, p2, p3⟩ := inf_some hi
  have hcl : fn.code.length < 1000000 → True := fun _ => trivial
  have e15 : (o.c == 15) = false := by simp; omega
  have e16 : (o.c == 16) = false := by simp; omega
  have e17 : (o.c == 17) = false := by simp; omega
  have e18 : (o.c == 18) = false := by simp; omega
  have e19 : (o.c == 19) = false := by simp; omega
  have e20 : (o.c == 20) = false := by simp; omega
  have e21 : (o.c == 21) = false := by simp; omega
  have el : last o.c = false := by simp only [last, e15, e18, e19, Bool.or_false]
  have nl : (!(last o.c)) = true := by rw [el]; rfl
  have et : takes im o = i.po := by simp only [takes, hi, e17, cond_false]
  have ht : thr im fn.code.length o i x (d, t) s l = bif decide (i.po ≤ d) && decide (d - i.po + i.pu ≤ 32) then (bif decide (x + 1 < fn.code.length) then (match rch s l (x + 1) (d - i.po + i.pu, t) with
    | some q => .ok q
    | none => .error 8) else .error 9) else .error 8 := by
    simp only [thr, et, e15, e16, e20, e21, sq, el, cond_false, Bool.or_false]
  rw [ht] at hk
  refine s84 (keep := false) rfl ?_
  repeat' ((conv => whnf); first | exact zf | refine zg ?_ | intro _ | refine And.intro rfl ?_ | refine za ?_ | refine zl ?_ | fail)
  refine ⟨encO o, ⟨h0.1, by simp [ho], rfl⟩, ?_⟩
  by_cases c1 : i.po ≤ d
  · have d1 : decide (i.po ≤ d) = true := by simpa using c1
    by_cases c2 : d - i.po + i.pu ≤ 32
    · have d2 : decide (d - i.po + i.pu ≤ 32) = true := by simpa using c2
      rw [d1, d2] at hk
      repeat' ((conv => whnf); first | exact zf | refine zg ?_ | intro _ | refine And.intro rfl ?_ | refine ⟨_, hs, ?_⟩ | refine (hs).use ?_ | refine ⟨_, hab, ?_⟩ | refine (hab).use ?_ | refine (.inl ⟨by unfold inR; omega, ?_⟩) | refine (sp_f e17 ?_) | refine (sp_f e21 ?_) | refine (sp_f e20 ?_) | refine (sp_f e16 ?_) | refine (sp_f e15 ?_) | refine (sp_t nl ?_) | refine (sp_t d1 ?_) | refine za ?_ | refine zl ?_ | fail)
      refine must118 _ _ _ (fun hb => ?_) (fun hb => absurd (d2.symm.trans hb) Bool.noConfusion)
      clear hb
      by_cases c9 : x + 1 < fn.code.length
      · have d9 : decide (x + 1 < (fn.code.length : Int)) = true := by simpa using c9
        rw [d9] at hk
        repeat' ((conv => whnf); first | exact zf | refine zg ?_ | intro _ | refine And.intro rfl ?_ | refine ⟨_, hs, ?_⟩ | refine (hs).use ?_ | refine ⟨_, hab, ?_⟩ | refine (hab).use ?_ | refine (.inl ⟨by unfold inR; omega, ?_⟩) | refine (sp_f e17 ?_) | refine (sp_f e21 ?_) | refine (sp_f e20 ?_) | refine (sp_f e16 ?_) | refine (sp_f e15 ?_) | refine (sp_t nl ?_) | refine za ?_ | refine zl ?_ | fail)
        refine must118 _ _ _ (fun hb => ?_) (fun hb => absurd hb (by simp; omega))
        repeat' ((conv => whnf); first | exact zf | refine zg ?_ | intro _ | refine And.intro rfl ?_ | refine (.inl ⟨by unfold inR; omega, ?_⟩) | refine (.inr ?_ : (∃ _, _) ∨ _) | refine za ?_ | refine zl ?_ | fail)
        refine reach82' im fn s l x _ _ _ (fun q hq9 => ?_) (fun hq9 => ?_)
        · simp only [Bool.and_self, cond_true, hq9] at hk
          repeat' ((conv => whnf); first | exact zf | refine zg ?_ | intro _ | refine And.intro rfl ?_ | refine (.inl ⟨by unfold inR; omega, ?_⟩) | refine (sp_f e17 ?_) | refine (sp_f e21 ?_) | refine (sp_f e20 ?_) | refine (sp_f e16 ?_) | refine (sp_f e15 ?_) | refine (sp_t nl ?_) | refine za ?_ | refine zl ?_ | fail)
          exact hk
        · simp only [Bool.and_self, cond_true, hq9] at hk
          repeat' ((conv => whnf); first | exact zf | refine zg ?_ | intro _ | refine And.intro rfl ?_ | refine za ?_ | refine zl ?_ | fail)
          exact hk s l
      · have d9 : decide (x + 1 < (fn.code.length : Int)) = false := by simpa using c9
        rw [d9] at hk
        repeat' ((conv => whnf); first | exact zf | refine zg ?_ | intro _ | refine And.intro rfl ?_ | refine ⟨_, hs, ?_⟩ | refine (hs).use ?_ | refine ⟨_, hab, ?_⟩ | refine (hab).use ?_ | refine (.inl ⟨by unfold inR; omega, ?_⟩) | refine (sp_f e17 ?_) | refine (sp_f e21 ?_) | refine (sp_f e20 ?_) | refine (sp_f e16 ?_) | refine (sp_f e15 ?_) | refine (sp_t nl ?_) | refine za ?_ | refine zl ?_ | fail)
        refine must118 _ _ _ (fun hb => absurd hb (by simp; omega)) (fun hb => ?_)
        repeat' ((conv => whnf); first | exact zf | refine zg ?_ | intro _ | refine And.intro rfl ?_ | refine za ?_ | refine zl ?_ | fail)
        exact fin4_err hk rfl s l
    · have d2 : decide (d - i.po + i.pu ≤ 32) = false := by simpa using c2
      rw [d1, d2] at hk
      repeat' ((conv => whnf); first | exact zf | refine zg ?_ | intro _ | refine And.intro rfl ?_ | refine ⟨_, hs, ?_⟩ | refine (hs).use ?_ | refine ⟨_, hab, ?_⟩ | refine (hab).use ?_ | refine (.inl ⟨by unfold inR; omega, ?_⟩) | refine (sp_f e17 ?_) | refine (sp_f e21 ?_) | refine (sp_f e20 ?_) | refine (sp_f e16 ?_) | refine (sp_f e15 ?_) | refine (sp_t nl ?_) | refine (sp_t d1 ?_) | refine za ?_ | refine zl ?_ | fail)
      refine must118 _ _ _ (fun hb => absurd (hb.symm.trans d2) Bool.noConfusion) (fun hb => ?_)
      repeat' ((conv => whnf); first | exact zf | refine zg ?_ | intro _ | refine And.intro rfl ?_ | refine za ?_ | refine zl ?_ | fail)
      exact fin4_err hk rfl s l
  · have d1 : decide (i.po ≤ d) = false := by simpa using c1
    rw [d1] at hk
    repeat' ((conv => whnf); first | exact zf | refine zg ?_ | intro _ | refine And.intro rfl ?_ | refine ⟨_, hs, ?_⟩ | refine (hs).use ?_ | refine ⟨_, hab, ?_⟩ | refine (hab).use ?_ | refine (.inl ⟨by unfold inR; omega, ?_⟩) | refine (sp_f e17 ?_) | refine (sp_f e21 ?_) | refine (sp_f e20 ?_) | refine (sp_f e16 ?_) | refine (sp_f e15 ?_) | refine (sp_t nl ?_) | refine (sp_f d1 ?_) | refine za ?_ | refine zl ?_ | fail)
    refine must118 _ _ _ (fun hb => absurd hb Bool.noConfusion) (fun hb => ?_)
    repeat' ((conv => whnf); first | exact zf | refine zg ?_ | intro _ | refine And.intro rfl ?_ | refine za ?_ | refine zl ?_ | fail)
    exact fin4_err hk rfl s l
set_option maxRecDepth 100000 in
set_option maxHeartbeats 4000000 in
theorem thr_last {K : Out → H → Prop} (im : Im) (fn : Fn) (x : Int) (o : Op) (i : Info) (s : Sn) (l : List Int) (h0 : 0 ≤ x ∧ x < 1000) (ho : fn.code[x.toNat]? = some o) (hi : inf o.c = some i) (j : Nat) (d t : Int) (hl : lookI s x 0 = some (j, (d, t))) (hh : -1000 ≤ d ∧ d ≤ 1000 ∧ -1000 ≤ t ∧ t ≤ 1000) (hc : o.c = 18 ∨ o.c = 19)
    (hk : fin4 K im fn x (thr im fn.code.length o i x (d, t) s l)) : Sat Tryz.prog 84 [.p 0 0, .d (.int .i64 x)] (wB im fn s l) K := by
  have hab := about_yes hi
  have hs := fnd_seen x s 0
  rw [hl] at hs
  obtain ⟨_, _, _, _, p0, p1, p2, p3⟩ := inf_some hi
  have hcl : fn.code.length < 1000000 → True := fun _ => trivial
  have e15 : (o.c == 15) = false := by simp; omega
  have e16 : (o.c == 16) = false := by simp; omega
  have e17 : (o.c == 17) = false := by simp; omega
  have e20 : (o.c == 20) = false := by simp; omega
  have e21 : (o.c == 21) = false := by simp; omega
  have el : last o.c = true := by rcases hc with h | h <;> rw [h] <;> rfl
  have nl : (!(last o.c)) = false := by rw [el]; rfl
  have et : takes im o = i.po := by simp only [takes, hi, e17, cond_false]
  have ht : thr im fn.code.length o i x (d, t) s l = bif decide (i.po ≤ d) && decide (d - i.po + i.pu ≤ 32) then .ok (s, l) else .error 8 := by
    simp only [thr, et, e15, e16, e20, e21, sq, el, cond_false, cond_true, Bool.or_false]
  rw [ht] at hk
  refine s84 (keep := false) rfl ?_
  repeat' ((conv => whnf); first | exact zf | refine zg ?_ | intro _ | refine And.intro rfl ?_ | refine za ?_ | refine zl ?_ | fail)
  refine ⟨encO o, ⟨h0.1, by simp [ho], rfl⟩, ?_⟩
  by_cases c1 : i.po ≤ d
  · have d1 : decide (i.po ≤ d) = true := by simpa using c1
    by_cases c2 : d - i.po + i.pu ≤ 32
    · have d2 : decide (d - i.po + i.pu ≤ 32) = true := by simpa using c2
      rw [d1, d2] at hk
      repeat' ((conv => whnf); first | exact zf | refine zg ?_ | intro _ | refine And.intro rfl ?_ | refine ⟨_, hs, ?_⟩ | refine (hs).use ?_ | refine ⟨_, hab, ?_⟩ | refine (hab).use ?_ | refine (.inl ⟨by unfold inR; omega, ?_⟩) | refine (sp_f e17 ?_) | refine (sp_f e21 ?_) | refine (sp_f e20 ?_) | refine (sp_f e16 ?_) | refine (sp_f e15 ?_) | refine (sp_f nl ?_) | refine (sp_t d1 ?_) | refine za ?_ | refine zl ?_ | fail)
      refine must118 _ _ _ (fun hb => ?_) (fun hb => absurd (d2.symm.trans hb) Bool.noConfusion)
      clear hb
      repeat' ((conv => whnf); first | exact zf | refine zg ?_ | intro _ | refine And.intro rfl ?_ | refine (.inl ⟨by unfold inR; omega, ?_⟩) | refine (sp_f e17 ?_) | refine (sp_f e21 ?_) | refine (sp_f e20 ?_) | refine (sp_f e16 ?_) | refine (sp_f e15 ?_) | refine (sp_f nl ?_) | refine za ?_ | refine zl ?_ | fail)
      exact hk
    · have d2 : decide (d - i.po + i.pu ≤ 32) = false := by simpa using c2
      rw [d1, d2] at hk
      repeat' ((conv => whnf); first | exact zf | refine zg ?_ | intro _ | refine And.intro rfl ?_ | refine ⟨_, hs, ?_⟩ | refine (hs).use ?_ | refine ⟨_, hab, ?_⟩ | refine (hab).use ?_ | refine (.inl ⟨by unfold inR; omega, ?_⟩) | refine (sp_f e17 ?_) | refine (sp_f e21 ?_) | refine (sp_f e20 ?_) | refine (sp_f e16 ?_) | refine (sp_f e15 ?_) | refine (sp_f nl ?_) | refine (sp_t d1 ?_) | refine za ?_ | refine zl ?_ | fail)
      refine must118 _ _ _ (fun hb => absurd (hb.symm.trans d2) Bool.noConfusion) (fun hb => ?_)
      repeat' ((conv => whnf); first | exact zf | refine zg ?_ | intro _ | refine And.intro rfl ?_ | refine za ?_ | refine zl ?_ | fail)
      exact fin4_err hk rfl s l
  · have d1 : decide (i.po ≤ d) = false := by simpa using c1
    rw [d1] at hk
    repeat' ((conv => whnf); first | exact zf | refine zg ?_ | intro _ | refine And.intro rfl ?_ | refine ⟨_, hs, ?_⟩ | refine (hs).use ?_ | refine ⟨_, hab, ?_⟩ | refine (hab).use ?_ | refine (.inl ⟨by unfold inR; omega, ?_⟩) | refine (sp_f e17 ?_) | refine (sp_f e21 ?_) | refine (sp_f e20 ?_) | refine (sp_f e16 ?_) | refine (sp_f e15 ?_) | refine (sp_f nl ?_) | refine (sp_f d1 ?_) | refine za ?_ | refine zl ?_ | fail)
    refine must118 _ _ _ (fun hb => absurd hb Bool.noConfusion) (fun hb => ?_)
    repeat' ((conv => whnf); first | exact zf | refine zg ?_ | intro _ | refine And.intro rfl ?_ | refine za ?_ | refine zl ?_ | fail)
    exact fin4_err hk rfl s l
set_option maxRecDepth 100000 in
set_option maxHeartbeats 4000000 in
theorem thr_call {K : Out → H → Prop} (im : Im) (fn : Fn) (x : Int) (o : Op) (i : Info) (s : Sn) (l : List Int) (h0 : 0 ≤ x ∧ x < 1000) (ho : fn.code[x.toNat]? = some o) (hi : inf o.c = some i) (j : Nat) (d t : Int) (hl : lookI s x 0 = some (j, (d, t))) (hh : -1000 ≤ d ∧ d ≤ 1000 ∧ -1000 ≤ t ∧ t ≤ 1000) (hc : o.c = 17) (g : Fn) (ha : 0 ≤ o.a) (hg : im.fs[o.a.toNat]? = some g) (hga : 0 ≤ g.args ∧ g.args ≤ 16)
    (hk : fin4 K im fn x (thr im fn.code.length o i x (d, t) s l)) : Sat Tryz.prog 84 [.p 0 0, .d (.int .i64 x)] (wB im fn s l) K := by
  have hab := about_yes hi
  have hs := fnd_seen x s 0
  rw [hl] at hs
  obtain ⟨_, _, _, _, p0, p1, p2, p3⟩ := inf_some hi
  have hcl : fn.code.length < 1000000 → True := fun _ => trivial
  have e15 : (o.c == 15) = false := by simp; omega
  have e16 : (o.c == 16) = false := by simp; omega
  have e18 : (o.c == 18) = false := by simp; omega
  have e19 : (o.c == 19) = false := by simp; omega
  have e20 : (o.c == 20) = false := by simp; omega
  have e21 : (o.c == 21) = false := by simp; omega
  have e17 : (o.c == 17) = true := by simp; omega
  have el : last o.c = false := by simp only [last, e15, e18, e19, Bool.or_false]
  have nl : (!(last o.c)) = true := by rw [el]; rfl
  have et : takes im o = i.po + g.args := by simp only [takes, hi, e17, cond_true, hg]
  have ht : thr im fn.code.length o i x (d, t) s l = bif decide (i.po + g.args ≤ d) && decide (d - (i.po + g.args) + i.pu ≤ 32) then (bif decide (x + 1 < fn.code.length) then (match rch s l (x + 1) (d - (i.po + g.args) + i.pu, t) with
    | some q => .ok q
    | none => .error 8) else .error 9) else .error 8 := by
    simp only [thr, et, e15, e16, e20, e21, sq, el, cond_false, Bool.or_false]
  rw [ht] at hk
  refine s84 (keep := false) rfl ?_
  repeat' ((conv => whnf); first | exact zf | refine zg ?_ | intro _ | refine And.intro rfl ?_ | refine za ?_ | refine zl ?_ | fail)
  refine ⟨encO o, ⟨h0.1, by simp [ho], rfl⟩, ?_⟩
  by_cases c1 : (i.po + g.args) ≤ d
  · have d1 : decide ((i.po + g.args) ≤ d) = true := by simpa using c1
    by_cases c2 : d - (i.po + g.args) + i.pu ≤ 32
    · have d2 : decide (d - (i.po + g.args) + i.pu ≤ 32) = true := by simpa using c2
      rw [d1, d2] at hk
      repeat' ((conv => whnf); first | exact zf | refine zg ?_ | intro _ | refine And.intro rfl ?_ | refine ⟨_, hs, ?_⟩ | refine (hs).use ?_ | refine ⟨_, hab, ?_⟩ | refine (hab).use ?_ | refine (sp_t e17 ?_) | refine za ?_ | refine zl ?_ | fail)
      refine ⟨encFn g, ⟨ha, by simp [hg], rfl⟩, ?_⟩
      repeat' ((conv => whnf); first | exact zf | refine zg ?_ | intro _ | refine And.intro rfl ?_ | refine ⟨_, hs, ?_⟩ | refine (hs).use ?_ | refine ⟨_, hab, ?_⟩ | refine (hab).use ?_ | refine (.inl ⟨by unfold inR; omega, ?_⟩) | refine (sp_f e21 ?_) | refine (sp_f e20 ?_) | refine (sp_f e16 ?_) | refine (sp_f e15 ?_) | refine (sp_t nl ?_) | refine (sp_t d1 ?_) | refine za ?_ | refine zl ?_ | fail)
      refine must118 _ _ _ (fun hb => ?_) (fun hb => absurd (d2.symm.trans hb) Bool.noConfusion)
      clear hb
      by_cases c9 : x + 1 < fn.code.length
      · have d9 : decide (x + 1 < (fn.code.length : Int)) = true := by simpa using c9
        rw [d9] at hk
        repeat' ((conv => whnf); first | exact zf | refine zg ?_ | intro _ | refine And.intro rfl ?_ | refine ⟨_, hs, ?_⟩ | refine (hs).use ?_ | refine ⟨_, hab, ?_⟩ | refine (hab).use ?_ | refine (.inl ⟨by unfold inR; omega, ?_⟩) | refine (sp_f e21 ?_) | refine (sp_f e20 ?_) | refine (sp_f e16 ?_) | refine (sp_f e15 ?_) | refine (sp_t nl ?_) | refine za ?_ | refine zl ?_ | fail)
        refine must118 _ _ _ (fun hb => ?_) (fun hb => absurd hb (by simp; omega))
        repeat' ((conv => whnf); first | exact zf | refine zg ?_ | intro _ | refine And.intro rfl ?_ | refine (.inl ⟨by unfold inR; omega, ?_⟩) | refine (.inr ?_ : (∃ _, _) ∨ _) | refine za ?_ | refine zl ?_ | fail)
        refine reach82' im fn s l x _ _ _ (fun q hq9 => ?_) (fun hq9 => ?_)
        · simp only [Bool.and_self, cond_true, hq9] at hk
          repeat' ((conv => whnf); first | exact zf | refine zg ?_ | intro _ | refine And.intro rfl ?_ | refine (.inl ⟨by unfold inR; omega, ?_⟩) | refine (sp_f e21 ?_) | refine (sp_f e20 ?_) | refine (sp_f e16 ?_) | refine (sp_f e15 ?_) | refine (sp_t nl ?_) | refine za ?_ | refine zl ?_ | fail)
          exact hk
        · simp only [Bool.and_self, cond_true, hq9] at hk
          repeat' ((conv => whnf); first | exact zf | refine zg ?_ | intro _ | refine And.intro rfl ?_ | refine za ?_ | refine zl ?_ | fail)
          exact hk s l
      · have d9 : decide (x + 1 < (fn.code.length : Int)) = false := by simpa using c9
        rw [d9] at hk
        repeat' ((conv => whnf); first | exact zf | refine zg ?_ | intro _ | refine And.intro rfl ?_ | refine ⟨_, hs, ?_⟩ | refine (hs).use ?_ | refine ⟨_, hab, ?_⟩ | refine (hab).use ?_ | refine (.inl ⟨by unfold inR; omega, ?_⟩) | refine (sp_f e21 ?_) | refine (sp_f e20 ?_) | refine (sp_f e16 ?_) | refine (sp_f e15 ?_) | refine (sp_t nl ?_) | refine za ?_ | refine zl ?_ | fail)
        refine must118 _ _ _ (fun hb => absurd hb (by simp; omega)) (fun hb => ?_)
        repeat' ((conv => whnf); first | exact zf | refine zg ?_ | intro _ | refine And.intro rfl ?_ | refine za ?_ | refine zl ?_ | fail)
        exact fin4_err hk rfl s l
    · have d2 : decide (d - (i.po + g.args) + i.pu ≤ 32) = false := by simpa using c2
      rw [d1, d2] at hk
      repeat' ((conv => whnf); first | exact zf | refine zg ?_ | intro _ | refine And.intro rfl ?_ | refine ⟨_, hs, ?_⟩ | refine (hs).use ?_ | refine ⟨_, hab, ?_⟩ | refine (hab).use ?_ | refine (sp_t e17 ?_) | refine za ?_ | refine zl ?_ | fail)
      refine ⟨encFn g, ⟨ha, by simp [hg], rfl⟩, ?_⟩
      repeat' ((conv => whnf); first | exact zf | refine zg ?_ | intro _ | refine And.intro rfl ?_ | refine ⟨_, hs, ?_⟩ | refine (hs).use ?_ | refine ⟨_, hab, ?_⟩ | refine (hab).use ?_ | refine (.inl ⟨by unfold inR; omega, ?_⟩) | refine (sp_f e21 ?_) | refine (sp_f e20 ?_) | refine (sp_f e16 ?_) | refine (sp_f e15 ?_) | refine (sp_t nl ?_) | refine (sp_t d1 ?_) | refine za ?_ | refine zl ?_ | fail)
      refine must118 _ _ _ (fun hb => absurd (hb.symm.trans d2) Bool.noConfusion) (fun hb => ?_)
      repeat' ((conv => whnf); first | exact zf | refine zg ?_ | intro _ | refine And.intro rfl ?_ | refine za ?_ | refine zl ?_ | fail)
      exact fin4_err hk rfl s l
  · have d1 : decide ((i.po + g.args) ≤ d) = false := by simpa using c1
    rw [d1] at hk
    repeat' ((conv => whnf); first | exact zf | refine zg ?_ | intro _ | refine And.intro rfl ?_ | refine ⟨_, hs, ?_⟩ | refine (hs).use ?_ | refine ⟨_, hab, ?_⟩ | refine (hab).use ?_ | refine (sp_t e17 ?_) | refine za ?_ | refine zl ?_ | fail)
    refine ⟨encFn g, ⟨ha, by simp [hg], rfl⟩, ?_⟩
    repeat' ((conv => whnf); first | exact zf | refine zg ?_ | intro _ | refine And.intro rfl ?_ | refine ⟨_, hs, ?_⟩ | refine (hs).use ?_ | refine ⟨_, hab, ?_⟩ | refine (hab).use ?_ | refine (.inl ⟨by unfold inR; omega, ?_⟩) | refine (sp_f e21 ?_) | refine (sp_f e20 ?_) | refine (sp_f e16 ?_) | refine (sp_f e15 ?_) | refine (sp_t nl ?_) | refine (sp_f d1 ?_) | refine za ?_ | refine zl ?_ | fail)
    refine must118 _ _ _ (fun hb => absurd hb Bool.noConfusion) (fun hb => ?_)
    repeat' ((conv => whnf); first | exact zf | refine zg ?_ | intro _ | refine And.intro rfl ?_ | refine za ?_ | refine zl ?_ | fail)
    exact fin4_err hk rfl s l
set_option maxRecDepth 100000 in
set_option maxHeartbeats 4000000 in
theorem thr_end {K : Out → H → Prop} (im : Im) (fn : Fn) (x : Int) (o : Op) (i : Info) (s : Sn) (l : List Int) (h0 : 0 ≤ x ∧ x < 1000) (ho : fn.code[x.toNat]? = some o) (hi : inf o.c = some i) (j : Nat) (d t : Int) (hl : lookI s x 0 = some (j, (d, t))) (hh : -1000 ≤ d ∧ d ≤ 1000 ∧ -1000 ≤ t ∧ t ≤ 1000) (hc : o.c = 21)
    (hk : fin4 K im fn x (thr im fn.code.length o i x (d, t) s l)) : Sat Tryz.prog 84 [.p 0 0, .d (.int .i64 x)] (wB im fn s l) K := by
  have hab := about_yes hi
  have hs := fnd_seen x s 0
  rw [hl] at hs
  obtain ⟨_, _, _, _, p0, p1, p2, p3⟩ := inf_some hi
  have hcl : fn.code.length < 1000000 → True := fun _ => trivial
  have e15 : (o.c == 15) = false := by simp; omega
  have e16 : (o.c == 16) = false := by simp; omega
  have e17 : (o.c == 17) = false := by simp; omega
  have e18 : (o.c == 18) = false := by simp; omega
  have e19 : (o.c == 19) = false := by simp; omega
  have e20 : (o.c == 20) = false := by simp; omega
  have e21 : (o.c == 21) = true := by simp; omega
  have el : last o.c = false := by simp only [last, e15, e18, e19, Bool.or_false]
  have nl : (!(last o.c)) = true := by rw [el]; rfl
  have et : takes im o = i.po := by simp only [takes, hi, e17, cond_false]
  have ht : thr im fn.code.length o i x (d, t) s l = bif decide (i.po ≤ d) && decide (d - i.po + i.pu ≤ 32) then (bif decide (0 < t) then (bif decide (x + 1 < fn.code.length) then (match rch s l (x + 1) (d - i.po + i.pu, t - 1) with
    | some q => .ok q
    | none => .error 8) else .error 9) else .error 11) else .error 8 := by
    simp only [thr, et, e21, sq, el, cond_false, cond_true]
  rw [ht] at hk
  refine s84 (keep := false) rfl ?_
  repeat' ((conv => whnf); first | exact zf | refine zg ?_ | intro _ | refine And.intro rfl ?_ | refine za ?_ | refine zl ?_ | fail)
  refine ⟨encO o, ⟨h0.1, by simp [ho], rfl⟩, ?_⟩
  by_cases c1 : i.po ≤ d
  · have d1 : decide (i.po ≤ d) = true := by simpa using c1
    by_cases c2 : d - i.po + i.pu ≤ 32
    · have d2 : decide (d - i.po + i.pu ≤ 32) = true := by simpa using c2
      rw [d1, d2] at hk
      repeat' ((conv => whnf); first | exact zf | refine zg ?_ | intro _ | refine And.intro rfl ?_ | refine ⟨_, hs, ?_⟩ | refine (hs).use ?_ | refine ⟨_, hab, ?_⟩ | refine (hab).use ?_ | refine (.inl ⟨by unfold inR; omega, ?_⟩) | refine (sp_f e17 ?_) | refine (sp_t e21 ?_) | refine (sp_f e20 ?_) | refine (sp_t nl ?_) | refine (sp_t d1 ?_) | refine za ?_ | refine zl ?_ | fail)
      refine must118 _ _ _ (fun hb => ?_) (fun hb => absurd (d2.symm.trans hb) Bool.noConfusion)
      clear hb
      by_cases c3 : 0 < t
      · have d3 : decide (0 < t) = true := by simpa using c3
        rw [d3] at hk
        repeat' ((conv => whnf); first | exact zf | refine zg ?_ | intro _ | refine And.intro rfl ?_ | refine ⟨_, hs, ?_⟩ | refine (hs).use ?_ | refine ⟨_, hab, ?_⟩ | refine (hab).use ?_ | refine (.inl ⟨by unfold inR; omega, ?_⟩) | refine (sp_f e17 ?_) | refine (sp_t e21 ?_) | refine (sp_f e20 ?_) | refine (sp_t nl ?_) | refine za ?_ | refine zl ?_ | fail)
        refine must118 _ _ _ (fun hb => ?_) (fun hb => absurd (d3.symm.trans hb) Bool.noConfusion)
        by_cases c9 : x + 1 < fn.code.length
        · have d9 : decide (x + 1 < (fn.code.length : Int)) = true := by simpa using c9
          rw [d9] at hk
          repeat' ((conv => whnf); first | exact zf | refine zg ?_ | intro _ | refine And.intro rfl ?_ | refine ⟨_, hs, ?_⟩ | refine (hs).use ?_ | refine ⟨_, hab, ?_⟩ | refine (hab).use ?_ | refine (.inl ⟨by unfold inR; omega, ?_⟩) | refine (sp_f e17 ?_) | refine (sp_t e21 ?_) | refine (sp_f e20 ?_) | refine (sp_t nl ?_) | refine za ?_ | refine zl ?_ | fail)
          refine must118 _ _ _ (fun hb => ?_) (fun hb => absurd hb (by simp; omega))
          repeat' ((conv => whnf); first | exact zf | refine zg ?_ | intro _ | refine And.intro rfl ?_ | refine (.inl ⟨by unfold inR; omega, ?_⟩) | refine (.inr ?_ : (∃ _, _) ∨ _) | refine za ?_ | refine zl ?_ | fail)
          refine reach82' im fn s l x _ _ _ (fun q hq9 => ?_) (fun hq9 => ?_)
          · simp only [Bool.and_self, cond_true, hq9] at hk
            repeat' ((conv => whnf); first | exact zf | refine zg ?_ | intro _ | refine And.intro rfl ?_ | refine (.inl ⟨by unfold inR; omega, ?_⟩) | refine (sp_f e17 ?_) | refine (sp_t e21 ?_) | refine (sp_f e20 ?_) | refine (sp_t nl ?_) | refine za ?_ | refine zl ?_ | fail)
            exact hk
          · simp only [Bool.and_self, cond_true, hq9] at hk
            repeat' ((conv => whnf); first | exact zf | refine zg ?_ | intro _ | refine And.intro rfl ?_ | refine za ?_ | refine zl ?_ | fail)
            exact hk s l
        · have d9 : decide (x + 1 < (fn.code.length : Int)) = false := by simpa using c9
          rw [d9] at hk
          repeat' ((conv => whnf); first | exact zf | refine zg ?_ | intro _ | refine And.intro rfl ?_ | refine ⟨_, hs, ?_⟩ | refine (hs).use ?_ | refine ⟨_, hab, ?_⟩ | refine (hab).use ?_ | refine (.inl ⟨by unfold inR; omega, ?_⟩) | refine (sp_f e17 ?_) | refine (sp_t e21 ?_) | refine (sp_f e20 ?_) | refine (sp_t nl ?_) | refine za ?_ | refine zl ?_ | fail)
          refine must118 _ _ _ (fun hb => absurd hb (by simp; omega)) (fun hb => ?_)
          repeat' ((conv => whnf); first | exact zf | refine zg ?_ | intro _ | refine And.intro rfl ?_ | refine za ?_ | refine zl ?_ | fail)
          exact fin4_err hk rfl s l
      · have d3 : decide (0 < t) = false := by simpa using c3
        rw [d3] at hk
        repeat' ((conv => whnf); first | exact zf | refine zg ?_ | intro _ | refine And.intro rfl ?_ | refine ⟨_, hs, ?_⟩ | refine (hs).use ?_ | refine ⟨_, hab, ?_⟩ | refine (hab).use ?_ | refine (.inl ⟨by unfold inR; omega, ?_⟩) | refine (sp_f e17 ?_) | refine (sp_t e21 ?_) | refine (sp_f e20 ?_) | refine (sp_t nl ?_) | refine za ?_ | refine zl ?_ | fail)
        refine must118 _ _ _ (fun hb => absurd (hb.symm.trans d3) Bool.noConfusion) (fun hb => ?_)
        repeat' ((conv => whnf); first | exact zf | refine zg ?_ | intro _ | refine And.intro rfl ?_ | refine za ?_ | refine zl ?_ | fail)
        exact fin4_err hk rfl s l
    · have d2 : decide (d - i.po + i.pu ≤ 32) = false := by simpa using c2
      rw [d1, d2] at hk
      repeat' ((conv => whnf); first | exact zf | refine zg ?_ | intro _ | refine And.intro rfl ?_ | refine ⟨_, hs, ?_⟩ | refine (hs).use ?_ | refine ⟨_, hab, ?_⟩ | refine (hab).use ?_ | refine (.inl ⟨by unfold inR; omega, ?_⟩) | refine (sp_f e17 ?_) | refine (sp_t e21 ?_) | refine (sp_f e20 ?_) | refine (sp_t nl ?_) | refine (sp_t d1 ?_) | refine za ?_ | refine zl ?_ | fail)
      refine must118 _ _ _ (fun hb => absurd (hb.symm.trans d2) Bool.noConfusion) (fun hb => ?_)
      repeat' ((conv => whnf); first | exact zf | refine zg ?_ | intro _ | refine And.intro rfl ?_ | refine za ?_ | refine zl ?_ | fail)
      exact fin4_err hk rfl s l
  · have d1 : decide (i.po ≤ d) = false := by simpa using c1
    rw [d1] at hk
    repeat' ((conv => whnf); first | exact zf | refine zg ?_ | intro _ | refine And.intro rfl ?_ | refine ⟨_, hs, ?_⟩ | refine (hs).use ?_ | refine ⟨_, hab, ?_⟩ | refine (hab).use ?_ | refine (.inl ⟨by unfold inR; omega, ?_⟩) | refine (sp_f e17 ?_) | refine (sp_t e21 ?_) | refine (sp_f e20 ?_) | refine (sp_t nl ?_) | refine (sp_f d1 ?_) | refine za ?_ | refine zl ?_ | fail)
    refine must118 _ _ _ (fun hb => absurd hb Bool.noConfusion) (fun hb => ?_)
    repeat' ((conv => whnf); first | exact zf | refine zg ?_ | intro _ | refine And.intro rfl ?_ | refine za ?_ | refine zl ?_ | fail)
    exact fin4_err hk rfl s l
set_option maxRecDepth 100000 in
set_option maxHeartbeats 4000000 in
theorem thr_try {K : Out → H → Prop} (im : Im) (fn : Fn) (x : Int) (o : Op) (i : Info) (s : Sn) (l : List Int) (h0 : 0 ≤ x ∧ x < 1000) (ho : fn.code[x.toNat]? = some o) (hi : inf o.c = some i) (j : Nat) (d t : Int) (hl : lookI s x 0 = some (j, (d, t))) (hh : -1000 ≤ d ∧ d ≤ 1000 ∧ -1000 ≤ t ∧ t ≤ 1000) (hc : o.c = 20)
    (hk : fin4 K im fn x (thr im fn.code.length o i x (d, t) s l)) : Sat Tryz.prog 84 [.p 0 0, .d (.int .i64 x)] (wB im fn s l) K := by
  have hab := about_yes hi
  have hs := fnd_seen x s 0
  rw [hl] at hs
  obtain ⟨_, _, _, _, p0, p1, p2, p3⟩ := inf_some hi
  have hcl : fn.code.length < 1000000 → True := fun _ => trivial
  have e15 : (o.c == 15) = false := by simp; omega
  have e16 : (o.c == 16) = false := by simp; omega
  have e17 : (o.c == 17) = false := by simp; omega
  have e18 : (o.c == 18) = false := by simp; omega
  have e19 : (o.c == 19) = false := by simp; omega
  have e21 : (o.c == 21) = false := by simp; omega
  have e20 : (o.c == 20) = true := by simp; omega
  have el : last o.c = false := by simp only [last, e15, e18, e19, Bool.or_false]
  have nl : (!(last o.c)) = true := by rw [el]; rfl
  have et : takes im o = i.po := by simp only [takes, hi, e17, cond_false]
  have ht : thr im fn.code.length o i x (d, t) s l = bif decide (i.po ≤ d) && decide (d - i.po + i.pu ≤ 32) then (bif decide (t < 16) && decide (d < 32) then (match (bif decide (x + 1 < fn.code.length) then (match rch s l (x + 1) (d - i.po + i.pu, t + 1) with
    | some q => .ok q
    | none => .error 8) else .error 9 : Except Int (Sn × List Int)) with
      | .ok q => (match rch q.1 q.2 o.a (d + 1, t) with
          | some q => .ok q
          | none => .error 8)
      | .error e => .error e) else .error 8) else .error 8 := by
    simp only [thr, et, e20, e21, sq, el, cond_false, cond_true]
  rw [ht] at hk
  refine s84 (keep := false) rfl ?_
  repeat' ((conv => whnf); first | exact zf | refine zg ?_ | intro _ | refine And.intro rfl ?_ | refine za ?_ | refine zl ?_ | fail)
  refine ⟨encO o, ⟨h0.1, by simp [ho], rfl⟩, ?_⟩
  by_cases c1 : i.po ≤ d
  · have d1 : decide (i.po ≤ d) = true := by simpa using c1
    by_cases c2 : d - i.po + i.pu ≤ 32
    · have d2 : decide (d - i.po + i.pu ≤ 32) = true := by simpa using c2
      rw [d1, d2] at hk
      repeat' ((conv => whnf); first | exact zf | refine zg ?_ | intro _ | refine And.intro rfl ?_ | refine ⟨_, hs, ?_⟩ | refine (hs).use ?_ | refine ⟨_, hab, ?_⟩ | refine (hab).use ?_ | refine (.inl ⟨by unfold inR; omega, ?_⟩) | refine (sp_f e17 ?_) | refine (sp_f e21 ?_) | refine (sp_t e20 ?_) | refine (sp_t nl ?_) | refine (sp_t d1 ?_) | refine za ?_ | refine zl ?_ | fail)
      refine must118 _ _ _ (fun hb => ?_) (fun hb => absurd (d2.symm.trans hb) Bool.noConfusion)
      clear hb
      by_cases c3 : t < 16
      · have d3 : decide (t < 16) = true := by simpa using c3
        by_cases c4 : d < 32
        · have d4 : decide (d < 32) = true := by simpa using c4
          rw [d3, d4] at hk
          repeat' ((conv => whnf); first | exact zf | refine zg ?_ | intro _ | refine And.intro rfl ?_ | refine ⟨_, hs, ?_⟩ | refine (hs).use ?_ | refine ⟨_, hab, ?_⟩ | refine (hab).use ?_ | refine (sp_t d3 ?_) | refine (.inl ⟨by unfold inR; omega, ?_⟩) | refine (sp_f e17 ?_) | refine (sp_f e21 ?_) | refine (sp_t e20 ?_) | refine (sp_t nl ?_) | refine za ?_ | refine zl ?_ | fail)
          refine must118 _ _ _ (fun hb => ?_) (fun hb => absurd (d4.symm.trans hb) Bool.noConfusion)
          by_cases c9 : x + 1 < fn.code.length
          · have d9 : decide (x + 1 < (fn.code.length : Int)) = true := by simpa using c9
            rw [d9] at hk
            repeat' ((conv => whnf); first | exact zf | refine zg ?_ | intro _ | refine And.intro rfl ?_ | refine ⟨_, hs, ?_⟩ | refine (hs).use ?_ | refine ⟨_, hab, ?_⟩ | refine (hab).use ?_ | refine (.inl ⟨by unfold inR; omega, ?_⟩) | refine (sp_f e17 ?_) | refine (sp_f e21 ?_) | refine (sp_t e20 ?_) | refine (sp_t nl ?_) | refine za ?_ | refine zl ?_ | fail)
            refine must118 _ _ _ (fun hb => ?_) (fun hb => absurd hb (by simp; omega))
            repeat' ((conv => whnf); first | exact zf | refine zg ?_ | intro _ | refine And.intro rfl ?_ | refine (.inl ⟨by unfold inR; omega, ?_⟩) | refine (.inr ?_ : (∃ _, _) ∨ _) | refine za ?_ | refine zl ?_ | fail)
            refine reach82' im fn s l x _ _ _ (fun q hq9 => ?_) (fun hq9 => ?_)
            · simp only [Bool.and_self, cond_true, hq9] at hk
              repeat' ((conv => whnf); first | exact zf | refine zg ?_ | intro _ | refine And.intro rfl ?_ | refine (.inl ⟨by unfold inR; omega, ?_⟩) | refine (sp_f e17 ?_) | refine (sp_f e21 ?_) | refine (sp_t e20 ?_) | refine (sp_t nl ?_) | refine (.inr ?_ : (∃ _, _) ∨ _) | refine za ?_ | refine zl ?_ | fail)
              refine reach82' im fn q.1 q.2 x _ _ _ (fun q2 hq2 => ?_) (fun hq2 => ?_)
              · simp only [hq2] at hk
                repeat' ((conv => whnf); first | exact zf | refine zg ?_ | intro _ | refine And.intro rfl ?_ | refine za ?_ | refine zl ?_ | fail)
                exact hk
              · simp only [hq2] at hk
                repeat' ((conv => whnf); first | exact zf | refine zg ?_ | intro _ | refine And.intro rfl ?_ | refine za ?_ | refine zl ?_ | fail)
                exact hk q.1 q.2
            · simp only [Bool.and_self, cond_true, hq9] at hk
              repeat' ((conv => whnf); first | exact zf | refine zg ?_ | intro _ | refine And.intro rfl ?_ | refine za ?_ | refine zl ?_ | fail)
              exact hk s l
          · have d9 : decide (x + 1 < (fn.code.length : Int)) = false := by simpa using c9
            rw [d9] at hk
            repeat' ((conv => whnf); first | exact zf | refine zg ?_ | intro _ | refine And.intro rfl ?_ | refine ⟨_, hs, ?_⟩ | refine (hs).use ?_ | refine ⟨_, hab, ?_⟩ | refine (hab).use ?_ | refine (.inl ⟨by unfold inR; omega, ?_⟩) | refine (sp_f e17 ?_) | refine (sp_f e21 ?_) | refine (sp_t e20 ?_) | refine (sp_t nl ?_) | refine za ?_ | refine zl ?_ | fail)
            refine must118 _ _ _ (fun hb => absurd hb (by simp; omega)) (fun hb => ?_)
            repeat' ((conv => whnf); first | exact zf | refine zg ?_ | intro _ | refine And.intro rfl ?_ | refine za ?_ | refine zl ?_ | fail)
            exact fin4_err hk rfl s l
        · have d4 : decide (d < 32) = false := by simpa using c4
          rw [d3, d4] at hk
          repeat' ((conv => whnf); first | exact zf | refine zg ?_ | intro _ | refine And.intro rfl ?_ | refine ⟨_, hs, ?_⟩ | refine (hs).use ?_ | refine ⟨_, hab, ?_⟩ | refine (hab).use ?_ | refine (sp_t d3 ?_) | refine (.inl ⟨by unfold inR; omega, ?_⟩) | refine (sp_f e17 ?_) | refine (sp_f e21 ?_) | refine (sp_t e20 ?_) | refine (sp_t nl ?_) | refine za ?_ | refine zl ?_ | fail)
          refine must118 _ _ _ (fun hb => absurd (hb.symm.trans d4) Bool.noConfusion) (fun hb => ?_)
          repeat' ((conv => whnf); first | exact zf | refine zg ?_ | intro _ | refine And.intro rfl ?_ | refine za ?_ | refine zl ?_ | fail)
          exact fin4_err hk rfl s l
      · have d3 : decide (t < 16) = false := by simpa using c3
        rw [d3] at hk
        repeat' ((conv => whnf); first | exact zf | refine zg ?_ | intro _ | refine And.intro rfl ?_ | refine ⟨_, hs, ?_⟩ | refine (hs).use ?_ | refine ⟨_, hab, ?_⟩ | refine (hab).use ?_ | refine (sp_f d3 ?_) | refine (.inl ⟨by unfold inR; omega, ?_⟩) | refine (sp_f e17 ?_) | refine (sp_f e21 ?_) | refine (sp_t e20 ?_) | refine (sp_t nl ?_) | refine za ?_ | refine zl ?_ | fail)
        refine must118 _ _ _ (fun hb => absurd hb Bool.noConfusion) (fun hb => ?_)
        repeat' ((conv => whnf); first | exact zf | refine zg ?_ | intro _ | refine And.intro rfl ?_ | refine za ?_ | refine zl ?_ | fail)
        exact fin4_err hk rfl s l
    · have d2 : decide (d - i.po + i.pu ≤ 32) = false := by simpa using c2
      rw [d1, d2] at hk
      repeat' ((conv => whnf); first | exact zf | refine zg ?_ | intro _ | refine And.intro rfl ?_ | refine ⟨_, hs, ?_⟩ | refine (hs).use ?_ | refine ⟨_, hab, ?_⟩ | refine (hab).use ?_ | refine (.inl ⟨by unfold inR; omega, ?_⟩) | refine (sp_f e17 ?_) | refine (sp_f e21 ?_) | refine (sp_t e20 ?_) | refine (sp_t nl ?_) | refine (sp_t d1 ?_) | refine za ?_ | refine zl ?_ | fail)
      refine must118 _ _ _ (fun hb => absurd (hb.symm.trans d2) Bool.noConfusion) (fun hb => ?_)
      repeat' ((conv => whnf); first | exact zf | refine zg ?_ | intro _ | refine And.intro rfl ?_ | refine za ?_ | refine zl ?_ | fail)
      exact fin4_err hk rfl s l
  · have d1 : decide (i.po ≤ d) = false := by simpa using c1
    rw [d1] at hk
    repeat' ((conv => whnf); first | exact zf | refine zg ?_ | intro _ | refine And.intro rfl ?_ | refine ⟨_, hs, ?_⟩ | refine (hs).use ?_ | refine ⟨_, hab, ?_⟩ | refine (hab).use ?_ | refine (.inl ⟨by unfold inR; omega, ?_⟩) | refine (sp_f e17 ?_) | refine (sp_f e21 ?_) | refine (sp_t e20 ?_) | refine (sp_t nl ?_) | refine (sp_f d1 ?_) | refine za ?_ | refine zl ?_ | fail)
    refine must118 _ _ _ (fun hb => absurd hb Bool.noConfusion) (fun hb => ?_)
    repeat' ((conv => whnf); first | exact zf | refine zg ?_ | intro _ | refine And.intro rfl ?_ | refine za ?_ | refine zl ?_ | fail)
    exact fin4_err hk rfl s l
set_option maxRecDepth 100000 in
set_option maxHeartbeats 4000000 in
theorem thr_if {K : Out → H → Prop} (im : Im) (fn : Fn) (x : Int) (o : Op) (i : Info) (s : Sn) (l : List Int) (h0 : 0 ≤ x ∧ x < 1000) (ho : fn.code[x.toNat]? = some o) (hi : inf o.c = some i) (j : Nat) (d t : Int) (hl : lookI s x 0 = some (j, (d, t))) (hh : -1000 ≤ d ∧ d ≤ 1000 ∧ -1000 ≤ t ∧ t ≤ 1000) (hc : o.c = 16)
    (hk : fin4 K im fn x (thr im fn.code.length o i x (d, t) s l)) : Sat Tryz.prog 84 [.p 0 0, .d (.int .i64 x)] (wB im fn s l) K := by
  have hab := about_yes hi
  have hs := fnd_seen x s 0
  rw [hl] at hs
  obtain ⟨_, _, _, _, p0, p1, p2, p3⟩ := inf_some hi
  have hcl : fn.code.length < 1000000 → True := fun _ => trivial
  have e15 : (o.c == 15) = false := by simp; omega
  have e17 : (o.c == 17) = false := by simp; omega
  have e18 : (o.c == 18) = false := by simp; omega
  have e19 : (o.c == 19) = false := by simp; omega
  have e20 : (o.c == 20) = false := by simp; omega
  have e21 : (o.c == 21) = false := by simp; omega
  have e16 : (o.c == 16) = true := by simp; omega
  have el : last o.c = false := by simp only [last, e15, e18, e19, Bool.or_false]
  have nl : (!(last o.c)) = true := by rw [el]; rfl
  have et : takes im o = i.po := by simp only [takes, hi, e17, cond_false]
  have ht : thr im fn.code.length o i x (d, t) s l = bif decide (i.po ≤ d) && decide (d - i.po + i.pu ≤ 32) then (match rch s l o.a (d - i.po + i.pu, t) with
    | some q => (bif decide (x + 1 < fn.code.length) then (match rch q.1 q.2 (x + 1) (d - i.po + i.pu, t) with
      | some q => .ok q
      | none => .error 8) else .error 9)
    | none => .error 8) else .error 8 := by
    simp only [thr, et, e15, e16, e20, e21, sq, el, cond_false, cond_true, Bool.or_false]
  rw [ht] at hk
  refine s84 (keep := false) rfl ?_
  repeat' ((conv => whnf); first | exact zf | refine zg ?_ | intro _ | refine And.intro rfl ?_ | refine za ?_ | refine zl ?_ | fail)
  refine ⟨encO o, ⟨h0.1, by simp [ho], rfl⟩, ?_⟩
  by_cases c1 : i.po ≤ d
  · have d1 : decide (i.po ≤ d) = true := by simpa using c1
    by_cases c2 : d - i.po + i.pu ≤ 32
    · have d2 : decide (d - i.po + i.pu ≤ 32) = true := by simpa using c2
      rw [d1, d2] at hk
      repeat' ((conv => whnf); first | exact zf | refine zg ?_ | intro _ | refine And.intro rfl ?_ | refine ⟨_, hs, ?_⟩ | refine (hs).use ?_ | refine ⟨_, hab, ?_⟩ | refine (hab).use ?_ | refine (.inl ⟨by unfold inR; omega, ?_⟩) | refine (sp_f e17 ?_) | refine (sp_f e21 ?_) | refine (sp_f e20 ?_) | refine (sp_t e16 ?_) | refine (sp_t nl ?_) | refine (sp_t d1 ?_) | refine za ?_ | refine zl ?_ | fail)
      refine must118 _ _ _ (fun hb => ?_) (fun hb => absurd (d2.symm.trans hb) Bool.noConfusion)
      clear hb
      repeat' ((conv => whnf); first | exact zf | refine zg ?_ | intro _ | refine And.intro rfl ?_ | refine ⟨_, hs, ?_⟩ | refine (hs).use ?_ | refine ⟨_, hab, ?_⟩ | refine (hab).use ?_ | refine (.inr ?_ : (∃ _, _) ∨ _) | refine (.inl ⟨by unfold inR; omega, ?_⟩) | refine (sp_f e17 ?_) | refine (sp_f e21 ?_) | refine (sp_f e20 ?_) | refine (sp_t e16 ?_) | refine (sp_t nl ?_) | refine za ?_ | refine zl ?_ | fail)
      refine reach82' im fn s l x _ _ _ (fun p hq => ?_) (fun hq => ?_)
      · simp only [Bool.and_self, cond_true, hq] at hk
        by_cases c9 : x + 1 < fn.code.length
        · have d9 : decide (x + 1 < (fn.code.length : Int)) = true := by simpa using c9
          rw [d9] at hk
          repeat' ((conv => whnf); first | exact zf | refine zg ?_ | intro _ | refine And.intro rfl ?_ | refine ⟨_, hs, ?_⟩ | refine (hs).use ?_ | refine ⟨_, hab, ?_⟩ | refine (hab).use ?_ | refine (.inl ⟨by unfold inR; omega, ?_⟩) | refine (sp_f e17 ?_) | refine (sp_f e21 ?_) | refine (sp_f e20 ?_) | refine (sp_t e16 ?_) | refine (sp_t nl ?_) | refine za ?_ | refine zl ?_ | fail)
          refine must118 _ _ _ (fun hb => ?_) (fun hb => absurd hb (by simp; omega))
          repeat' ((conv => whnf); first | exact zf | refine zg ?_ | intro _ | refine And.intro rfl ?_ | refine (.inl ⟨by unfold inR; omega, ?_⟩) | refine (.inr ?_ : (∃ _, _) ∨ _) | refine za ?_ | refine zl ?_ | fail)
          refine reach82' im fn p.1 p.2 x _ _ _ (fun q hq9 => ?_) (fun hq9 => ?_)
          · simp only [cond_true, hq9] at hk
            repeat' ((conv => whnf); first | exact zf | refine zg ?_ | intro _ | refine And.intro rfl ?_ | refine (.inl ⟨by unfold inR; omega, ?_⟩) | refine (sp_f e17 ?_) | refine (sp_f e21 ?_) | refine (sp_f e20 ?_) | refine (sp_t e16 ?_) | refine (sp_t nl ?_) | refine za ?_ | refine zl ?_ | fail)
            exact hk
          · simp only [cond_true, hq9] at hk
            repeat' ((conv => whnf); first | exact zf | refine zg ?_ | intro _ | refine And.intro rfl ?_ | refine za ?_ | refine zl ?_ | fail)
            exact hk p.1 p.2
        · have d9 : decide (x + 1 < (fn.code.length : Int)) = false := by simpa using c9
          rw [d9] at hk
          repeat' ((conv => whnf); first | exact zf | refine zg ?_ | intro _ | refine And.intro rfl ?_ | refine ⟨_, hs, ?_⟩ | refine (hs).use ?_ | refine ⟨_, hab, ?_⟩ | refine (hab).use ?_ | refine (.inl ⟨by unfold inR; omega, ?_⟩) | refine (sp_f e17 ?_) | refine (sp_f e21 ?_) | refine (sp_f e20 ?_) | refine (sp_t e16 ?_) | refine (sp_t nl ?_) | refine za ?_ | refine zl ?_ | fail)
          refine must118 _ _ _ (fun hb => absurd hb (by simp; omega)) (fun hb => ?_)
          repeat' ((conv => whnf); first | exact zf | refine zg ?_ | intro _ | refine And.intro rfl ?_ | refine za ?_ | refine zl ?_ | fail)
          exact fin4_err hk rfl p.1 p.2
      · simp only [Bool.and_self, cond_true, hq] at hk
        repeat' ((conv => whnf); first | exact zf | refine zg ?_ | intro _ | refine And.intro rfl ?_ | refine za ?_ | refine zl ?_ | fail)
        exact hk s l
    · have d2 : decide (d - i.po + i.pu ≤ 32) = false := by simpa using c2
      rw [d1, d2] at hk
      repeat' ((conv => whnf); first | exact zf | refine zg ?_ | intro _ | refine And.intro rfl ?_ | refine ⟨_, hs, ?_⟩ | refine (hs).use ?_ | refine ⟨_, hab, ?_⟩ | refine (hab).use ?_ | refine (.inl ⟨by unfold inR; omega, ?_⟩) | refine (sp_f e17 ?_) | refine (sp_f e21 ?_) | refine (sp_f e20 ?_) | refine (sp_t e16 ?_) | refine (sp_t nl ?_) | refine (sp_t d1 ?_) | refine za ?_ | refine zl ?_ | fail)
      refine must118 _ _ _ (fun hb => absurd (hb.symm.trans d2) Bool.noConfusion) (fun hb => ?_)
      repeat' ((conv => whnf); first | exact zf | refine zg ?_ | intro _ | refine And.intro rfl ?_ | refine za ?_ | refine zl ?_ | fail)
      exact fin4_err hk rfl s l
  · have d1 : decide (i.po ≤ d) = false := by simpa using c1
    rw [d1] at hk
    repeat' ((conv => whnf); first | exact zf | refine zg ?_ | intro _ | refine And.intro rfl ?_ | refine ⟨_, hs, ?_⟩ | refine (hs).use ?_ | refine ⟨_, hab, ?_⟩ | refine (hab).use ?_ | refine (.inl ⟨by unfold inR; omega, ?_⟩) | refine (sp_f e17 ?_) | refine (sp_f e21 ?_) | refine (sp_f e20 ?_) | refine (sp_t e16 ?_) | refine (sp_t nl ?_) | refine (sp_f d1 ?_) | refine za ?_ | refine zl ?_ | fail)
    refine must118 _ _ _ (fun hb => absurd hb Bool.noConfusion) (fun hb => ?_)
    repeat' ((conv => whnf); first | exact zf | refine zg ?_ | intro _ | refine And.intro rfl ?_ | refine za ?_ | refine zl ?_ | fail)
    exact fin4_err hk rfl s l
set_option maxRecDepth 100000 in
set_option maxHeartbeats 4000000 in
theorem thr_jump {K : Out → H → Prop} (im : Im) (fn : Fn) (x : Int) (o : Op) (i : Info) (s : Sn) (l : List Int) (h0 : 0 ≤ x ∧ x < 1000) (ho : fn.code[x.toNat]? = some o) (hi : inf o.c = some i) (j : Nat) (d t : Int) (hl : lookI s x 0 = some (j, (d, t))) (hh : -1000 ≤ d ∧ d ≤ 1000 ∧ -1000 ≤ t ∧ t ≤ 1000) (hc : o.c = 15)
    (hk : fin4 K im fn x (thr im fn.code.length o i x (d, t) s l)) : Sat Tryz.prog 84 [.p 0 0, .d (.int .i64 x)] (wB im fn s l) K := by
  have hab := about_yes hi
  have hs := fnd_seen x s 0
  rw [hl] at hs
  obtain ⟨_, _, _, _, p0, p1, p2, p3⟩ := inf_some hi
  have hcl : fn.code.length < 1000000 → True := fun _ => trivial
  have e16 : (o.c == 16) = false := by simp; omega
  have e17 : (o.c == 17) = false := by simp; omega
  have e18 : (o.c == 18) = false := by simp; omega
  have e19 : (o.c == 19) = false := by simp; omega
  have e20 : (o.c == 20) = false := by simp; omega
  have e21 : (o.c == 21) = false := by simp; omega
  have e15 : (o.c == 15) = true := by simp; omega
  have el : last o.c = true := by rw [hc]; rfl
  have nl : (!(last o.c)) = false := by rw [el]; rfl
  have et : takes im o = i.po := by simp only [takes, hi, e17, cond_false]
  have ht : thr im fn.code.length o i x (d, t) s l = bif decide (i.po ≤ d) && decide (d - i.po + i.pu ≤ 32) then (match rch s l o.a (d - i.po + i.pu, t) with
    | some q => .ok q
    | none => .error 8) else .error 8 := by
    simp only [thr, et, e15, e16, e20, e21, sq, el, cond_false, cond_true, Bool.or_true]
  rw [ht] at hk
  refine s84 (keep := false) rfl ?_
  repeat' ((conv => whnf); first | exact zf | refine zg ?_ | intro _ | refine And.intro rfl ?_ | refine za ?_ | refine zl ?_ | fail)
  refine ⟨encO o, ⟨h0.1, by simp [ho], rfl⟩, ?_⟩
  by_cases c1 : i.po ≤ d
  · have d1 : decide (i.po ≤ d) = true := by simpa using c1
    by_cases c2 : d - i.po + i.pu ≤ 32
    · have d2 : decide (d - i.po + i.pu ≤ 32) = true := by simpa using c2
      rw [d1, d2] at hk
      repeat' ((conv => whnf); first | exact zf | refine zg ?_ | intro _ | refine And.intro rfl ?_ | refine ⟨_, hs, ?_⟩ | refine (hs).use ?_ | refine ⟨_, hab, ?_⟩ | refine (hab).use ?_ | refine (.inl ⟨by unfold inR; omega, ?_⟩) | refine (sp_f e17 ?_) | refine (sp_f e21 ?_) | refine (sp_f e20 ?_) | refine (sp_f e16 ?_) | refine (sp_t e15 ?_) | refine (sp_f nl ?_) | refine (sp_t d1 ?_) | refine za ?_ | refine zl ?_ | fail)
      refine must118 _ _ _ (fun hb => ?_) (fun hb => absurd (d2.symm.trans hb) Bool.noConfusion)
      clear hb
      repeat' ((conv => whnf); first | exact zf | refine zg ?_ | intro _ | refine And.intro rfl ?_ | refine ⟨_, hs, ?_⟩ | refine (hs).use ?_ | refine ⟨_, hab, ?_⟩ | refine (hab).use ?_ | refine (.inr ?_ : (∃ _, _) ∨ _) | refine (.inl ⟨by unfold inR; omega, ?_⟩) | refine (sp_f e17 ?_) | refine (sp_f e21 ?_) | refine (sp_f e20 ?_) | refine (sp_f e16 ?_) | refine (sp_t e15 ?_) | refine (sp_f nl ?_) | refine za ?_ | refine zl ?_ | fail)
      refine reach82' im fn s l x _ _ _ (fun p hq => ?_) (fun hq => ?_)
      · simp only [Bool.and_self, cond_true, hq] at hk
        repeat' ((conv => whnf); first | exact zf | refine zg ?_ | intro _ | refine And.intro rfl ?_ | refine (.inl ⟨by unfold inR; omega, ?_⟩) | refine (sp_f e17 ?_) | refine (sp_f e21 ?_) | refine (sp_f e20 ?_) | refine (sp_f e16 ?_) | refine (sp_t e15 ?_) | refine (sp_f nl ?_) | refine za ?_ | refine zl ?_ | fail)
        exact hk
      · simp only [Bool.and_self, cond_true, hq] at hk
        repeat' ((conv => whnf); first | exact zf | refine zg ?_ | intro _ | refine And.intro rfl ?_ | refine za ?_ | refine zl ?_ | fail)
        exact hk s l
    · have d2 : decide (d - i.po + i.pu ≤ 32) = false := by simpa using c2
      rw [d1, d2] at hk
      repeat' ((conv => whnf); first | exact zf | refine zg ?_ | intro _ | refine And.intro rfl ?_ | refine ⟨_, hs, ?_⟩ | refine (hs).use ?_ | refine ⟨_, hab, ?_⟩ | refine (hab).use ?_ | refine (.inl ⟨by unfold inR; omega, ?_⟩) | refine (sp_f e17 ?_) | refine (sp_f e21 ?_) | refine (sp_f e20 ?_) | refine (sp_f e16 ?_) | refine (sp_t e15 ?_) | refine (sp_f nl ?_) | refine (sp_t d1 ?_) | refine za ?_ | refine zl ?_ | fail)
      refine must118 _ _ _ (fun hb => absurd (hb.symm.trans d2) Bool.noConfusion) (fun hb => ?_)
      repeat' ((conv => whnf); first | exact zf | refine zg ?_ | intro _ | refine And.intro rfl ?_ | refine za ?_ | refine zl ?_ | fail)
      exact fin4_err hk rfl s l
  · have d1 : decide (i.po ≤ d) = false := by simpa using c1
    rw [d1] at hk
    repeat' ((conv => whnf); first | exact zf | refine zg ?_ | intro _ | refine And.intro rfl ?_ | refine ⟨_, hs, ?_⟩ | refine (hs).use ?_ | refine ⟨_, hab, ?_⟩ | refine (hab).use ?_ | refine (.inl ⟨by unfold inR; omega, ?_⟩) | refine (sp_f e17 ?_) | refine (sp_f e21 ?_) | refine (sp_f e20 ?_) | refine (sp_f e16 ?_) | refine (sp_t e15 ?_) | refine (sp_f nl ?_) | refine (sp_f d1 ?_) | refine za ?_ | refine zl ?_ | fail)
    refine must118 _ _ _ (fun hb => absurd hb Bool.noConfusion) (fun hb => ?_)
    repeat' ((conv => whnf); first | exact zf | refine zg ?_ | intro _ | refine And.intro rfl ?_ | refine za ?_ | refine zl ?_ | fail)
    exact fin4_err hk rfl s l
end Go.Proofs.YtoibcfioicdlhaaGreatDoor
