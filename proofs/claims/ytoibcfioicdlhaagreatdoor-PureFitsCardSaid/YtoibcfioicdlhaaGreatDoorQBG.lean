/- What holds of a core of a program that is made, from its beginning on: each frame is at a place that was reached, the stack is as high as it was reckoned, each try leads to what it was reckoned for. Plain lemmas. Conditions: none. -/
import Derived.Test.YtoibcfioicdlhaaGreatDoorQBB
import Derived.Test.YtoibcfioicdlhaaGreatDoorQBF
namespace Go.Proofs.YtoibcfioicdlhaaGreatDoor
open Go.Vx
set_option maxRecDepth 100000
theorem str_ops {h h' : Int} {c : List Op} (hs : Str h c h') : ∀ o ∈ c, o.c ≠ 24 ∧ o.c ≠ 31 := by
  induction hs with
  | nil => intro o ho; cases ho
  | cons hk hc ha h1 h2 hr ih =>
    intro o ho
    rcases List.mem_cons.1 ho with rfl | ho
    · exact ctl_ne2 hc
    · exact ih o ho
def lit (o : Op) : Prop := o.c ≠ 24 ∧ o.c ≠ 31
theorem lit_mk {c a : Int} (h : (c != 24 && c != 31) = true) : lit ⟨c, a⟩ := by
  simp only [Bool.and_eq_true, bne_iff_ne] at h
  exact h
theorem deed_ops {d : List Op} (hd : Deed d) : ∀ o ∈ d, lit o := by
  rcases hd with ⟨h, _⟩ | ⟨n, _, _, rfl⟩
  · exact str_ops h
  · intro o ho
    rcases List.mem_cons.1 ho with rfl | ho
    · exact lit_mk rfl
    · rw [List.mem_singleton.1 ho]; exact lit_mk rfl
theorem lit_app {l r : List Op} (h1 : ∀ o ∈ l, lit o) (h2 : ∀ o ∈ r, lit o) : ∀ o ∈ l ++ r, lit o := fun o ho => (List.mem_append.1 ho).elim (h1 o) (h2 o)
theorem lit_cons {x : Op} {r : List Op} (h1 : lit x) (h2 : ∀ o ∈ r, lit o) : ∀ o ∈ x :: r, lit o := fun o ho => by
  rcases List.mem_cons.1 ho with rfl | ho
  · exact h1
  · exact h2 o ho
theorem lit_nil : ∀ o ∈ ([] : List Op), lit o := fun _ h => by cases h
theorem part_ops {b : Int} {p : List Op} (hp : Part b p) : ∀ o ∈ p, lit o := by
  obtain ⟨d, hd, h⟩ := hp
  have hd := deed_ops hd
  rcases h with rfl | rfl | ⟨_, rfl⟩ | ⟨_, rfl⟩
  · exact hd
  · exact lit_app (lit_cons (lit_mk rfl) (lit_cons (lit_mk rfl) lit_nil)) hd
  · exact lit_app (lit_app (lit_cons (lit_mk rfl) lit_nil) hd) (lit_cons (lit_mk rfl) lit_nil)
  · exact lit_app (lit_app (lit_cons (lit_mk rfl) lit_nil) hd) (lit_cons (lit_mk rfl) (lit_cons (lit_mk rfl) (lit_cons (lit_mk rfl) lit_nil)))
theorem parts_ops {p : List Op} {k : Nat} (hp : Parts p k) : ∀ o ∈ p, lit o := by
  induction hp with
  | nil => exact lit_nil
  | snoc h hp ih => exact lit_app ih (part_ops hp)
theorem good_ops {f : Fn} (h : GoodFn f) : ∀ o ∈ f.code, lit o := by
  obtain ⟨_, _, p, k, n, hp, _, _, _, _, e⟩ := h
  rw [e]
  exact lit_app (parts_ops hp) (lit_cons (lit_mk rfl) (lit_cons (lit_mk rfl) lit_nil))
structure DP (im : Im) (fn : Fn) (s : Sn) : Prop where
  nd : (s.map (·.1)).Nodup
  op : ∀ p ∈ s, ∃ (x : Nat) (o : Op) (i : Info), p.1 = x ∧ fn.code[x]? = some o ∧ inf o.c = some i ∧ opErr im fn o = none ∧ rightB o = true ∧ (0 ≤ p.2.1 ∧ p.2.1 ≤ 32 ∧ 0 ≤ p.2.2 ∧ p.2.2 ≤ 16) ∧ (takes im o ≤ p.2.1 ∧ p.2.1 - takes im o + i.pu ≤ 32) ∧ (o.c = 21 → 0 < p.2.2) ∧ (o.c = 20 → p.2.2 < 16 ∧ p.2.1 < 32) ∧ ∀ q ∈ sucs im o i x p.2.1 p.2.2, q ∈ s ∧ (x : Int) < q.1
  st : (0, (0, 0)) ∈ s
  ln : fn.code.length ≤ 146
structure Env (im : Im) (S : Nat → Sn) : Prop where
  hI : GoodIm im
  dp : ∀ (f : Nat) (fn : Fn), im.fs[f]? = some fn → SatP Tryz.prog 18 [agI im, .d (.int .i64 f)] (.d (.sl 1 (rowsI (depthsV fn.code.length (S f))))) ∧ DP im fn (S f)
theorem env_of {im : Im} (hI : GoodIm im) : ∃ S, Env im S := by
  have h : ∀ f : Nat, ∃ s : Sn, ∀ fn, im.fs[f]? = some fn → SatP Tryz.prog 18 [agI im, .d (.int .i64 f)] (.d (.sl 1 (rowsI (depthsV fn.code.length s)))) ∧ DP im fn s := fun f => by
    cases hf : im.fs[f]? with
    | none => exact ⟨[], fun _ h => by cases h⟩
    | some fn =>
      obtain ⟨s, h1, h2, h3, h4, h5⟩ := depths_ok hI hf
      exact ⟨s, fun fn' e => by cases e; exact ⟨h1, h2, h3, h4, h5⟩⟩
  obtain ⟨S, hS⟩ := Classical.axiomOfChoice h
  exact ⟨S, hI, hS⟩
structure Top (S : Nat → Sn) (j : Nat) (F : Fr) (b d t : Int) (us : List Tr) : Prop where
  fu : 0 ≤ F.fu ∧ F.fu < 3
  ba : F.ba = b
  hb : 0 ≤ b
  pc : (F.pc, (d, t)) ∈ S F.fu.toNat
  va : F.vars.length = 8
  ma : 0 ≤ F.ma ∧ F.ma ≤ 255
  sm : ∀ v ∈ F.vars, smL (lbV v)
  ul : (us.length : Int) = t
  ut : ∀ (i : Nat) (u : Tr), us[i]? = some u → u.f = j + 1 ∧ b ≤ u.h ∧ (u.a, (u.h - b + 1, (i : Int))) ∈ S F.fu.toNat
inductive Low (S : Nat → Sn) : List Fr → List Tr → Int → Prop
  | nil : Low S [] [] 0
  | cons {frs : List Fr} {ts : List Tr} {b : Int} {F : Fr} {d t : Int} {us : List Tr} (h : Low S frs ts b) (ht : Top S frs.length F b d t us) (hd : 1 ≤ d) : Low S (frs ++ [F]) (ts ++ us) (b + d - 1)
structure At (S : Nat → Sn) (c : Co) (frs : List Fr) (F : Fr) (ts us : List Tr) (b d t : Int) : Prop where
  fr : c.fr = frs ++ [F]
  tr : c.tr = ts ++ us
  lo : Low S frs ts b
  tp : Top S frs.length F b d t us
  hh : (c.st.length : Int) = b + d
  l16 : c.fr.length ≤ 16
  sm : ∀ v ∈ c.st, smL (lbV v)
def Inv (S : Nat → Sn) (c : Co) : Prop := ∃ (frs : List Fr) (F : Fr) (ts us : List Tr) (b d t : Int), At S c frs F ts us b d t
section
variable {im : Im} {S : Nat → Sn}
theorem Top.b32 (E : Env im S) {j : Nat} {F : Fr} {b d t : Int} {us : List Tr} (h : Top S j F b d t us) : 0 ≤ d ∧ d ≤ 32 ∧ 0 ≤ t ∧ t ≤ 16 := by
  have hl : F.fu.toNat < im.fs.length := by rw [E.hI.2.1]; have := h.fu; omega
  obtain ⟨_, _, _, _, _, _, _, _, h1, _⟩ := (E.dp _ _ (List.getElem?_eq_getElem hl)).2.op _ h.pc
  exact h1
theorem Low.bnd (E : Env im S) {frs : List Fr} {ts : List Tr} {b : Int} (h : Low S frs ts b) : 0 ≤ b ∧ b ≤ 32 * frs.length ∧ (ts.length : Int) ≤ 16 * frs.length := by
  induction h with
  | nil => simp
  | cons h ht hd ih =>
    have := ht.b32 E
    have := ht.ul
    simp only [List.length_append, List.length_cons, List.length_nil]
    omega
theorem Low.le {frs : List Fr} {ts : List Tr} {b : Int} (h : Low S frs ts b) : ∀ u ∈ ts, 1 ≤ u.f ∧ u.f ≤ frs.length := by
  induction h with
  | nil => intro u hu; cases hu
  | cons h ht hd ih =>
    intro u hu
    simp only [List.length_append, List.length_cons, List.length_nil]
    rcases List.mem_append.1 hu with hu | hu
    · have := ih u hu; omega
    · obtain ⟨i, hi⟩ := List.mem_iff_getElem?.1 hu
      have := (ht.ut i u hi).1
      omega
theorem Low.thr {frs : List Fr} {ts : List Tr} {b : Int} (h : Low S frs ts b) (hne : ts ≠ []) : ∃ (f0 : List Fr) (F0 : Fr) (rest : List Fr) (t0 u0 : List Tr) (b0 d0 e0 : Int), frs = f0 ++ F0 :: rest ∧ ts = t0 ++ u0 ∧ u0 ≠ [] ∧ Low S f0 t0 b0 ∧ Top S f0.length F0 b0 d0 e0 u0 := by
  induction h with
  | nil => exact absurd rfl hne
  | @cons frs ts b F d t us h ht hd ih =>
    by_cases hu : us = []
    · subst hu
      rw [List.append_nil] at hne ⊢
      obtain ⟨f0, F0, rest, t0, u0, b0, d0, e0, h1, h2, h3, h4, h5⟩ := ih hne
      exact ⟨f0, F0, rest ++ [F], t0, u0, b0, d0, e0, by rw [h1]; simp, h2, h3, h4, h5⟩
    · exact ⟨frs, F, [], ts, us, b, d, t, rfl, rfl, hu, h, ht⟩
theorem Top.go {j : Nat} {F : Fr} {b d t d' : Int} {us : List Tr} (h : Top S j F b d t us) {pc : Int} (hp : (pc, (d', t)) ∈ S F.fu.toNat) : Top S j { F with pc := pc } b d' t us :=
  ⟨h.fu, h.ba, h.hb, hp, h.va, h.ma, h.sm, h.ul, h.ut⟩
theorem nxt_app (frs : List Fr) (F G : Fr) : nxt (frs ++ [F]) G = frs ++ [{ G with pc := G.pc + 1 }] := by simp [nxt]
theorem lastSet_app (frs : List Fr) (F G : Fr) : lastSet (frs ++ [F]) G = frs ++ [G] := by simp [lastSet]
theorem smL_num (n : Int) : smL (lbV (num n)) := ⟨show (0 : Nat) ≤ 140737488355328 by decide, show (0 : Nat) ≤ 140737488355328 by decide⟩
theorem At.rais {c : Co} {frs : List Fr} {F : Fr} {ts us : List Tr} {b d t : Int} (h : At S c frs F ts us b d t) (n : Int) : ((raise c n (max 0 0)).2.k = 0 ∧ Inv S (raise c n (max 0 0)).1) ∨ (raise c n (max 0 0)).2.k = 2 := by
  unfold Go.Proofs.YtoibcfioicdlhaaGreatDoor.raise
  cases hs : throwS c n (max 0 0) with
  | none => exact .inr rfl
  | some c' =>
    refine .inl ⟨rfl, ?_⟩
    show Inv S c'
    unfold throwS at hs
    cases h1 : decide ((c.tr.length : Int) - 1 < max (max 0 0) 0) <;> rw [h1] at hs <;> simp only [cond_true, cond_false] at hs
    · have hne : c.tr ≠ [] := by
        intro e
        rw [e] at h1
        simp at h1
      obtain ⟨f0, F0, rest, t0, u0, b0, d0, e0, g1, g2, g3, g4, g5⟩ : ∃ (f0 : List Fr) (F0 : Fr) (rest : List Fr) (t0 u0 : List Tr) (b0 d0 e0 : Int), c.fr = f0 ++ F0 :: rest ∧ c.tr = t0 ++ u0 ∧ u0 ≠ [] ∧ Low S f0 t0 b0 ∧ Top S f0.length F0 b0 d0 e0 u0 := by
        by_cases hu : us = []
        · have h2 := h.tr
          rw [hu, List.append_nil] at h2
          obtain ⟨f0, F0, rest, t0, u0, b0, d0, e0, g1, g2, g3, g4, g5⟩ := h.lo.thr (by rw [← h2]; exact hne)
          exact ⟨f0, F0, rest ++ [F], t0, u0, b0, d0, e0, by rw [h.fr, g1]; simp, by rw [h2, g2], g3, g4, g5⟩
        · exact ⟨frs, F, [], ts, us, b, d, t, h.fr, h.tr, hu, h.lo, h.tp⟩
      obtain ⟨u1, u, hu⟩ : ∃ u1 u, u0 = u1 ++ [u] := ⟨u0.dropLast, u0.getLast g3, (List.dropLast_concat_getLast g3).symm⟩
      subst hu
      have hl : c.tr.getLast? = some u := by rw [g2]; simp
      rw [hl] at hs
      simp only at hs
      cases hk : tryOk c u <;> rw [hk] at hs <;> simp only [cond_true, cond_false] at hs
      · cases hs
      · cases hs
        simp only [tryOk, Bool.and_eq_true, decide_eq_true_eq] at hk
        obtain ⟨k1, k2, k3, k4⟩ := hk
        obtain ⟨m1, m2, m3⟩ := g5.ut u1.length u (by simp)
        have e1 : cutn c.fr u.f = f0 ++ [F0] := by
          rw [cutn, show (min (max u.f 0) (c.fr.length : Int)).toNat = f0.length + 1 by omega, g1]
          rw [show f0 ++ F0 :: rest = (f0 ++ [F0]) ++ rest by simp, show f0.length + 1 = (f0 ++ [F0]).length by simp, List.take_left]
        have e2 : setPC (f0 ++ [F0]) (u.f - 1).toNat u.a = f0 ++ [{ F0 with pc := u.a }] := by
          have : (u.f - 1).toNat = f0.length := by omega
          unfold setPC
          rw [this, List.getElem?_append_right (Nat.le_refl _)]
          simp
        have e3 : cutn c.tr (c.tr.length - 1) = t0 ++ u1 := by
          have e : (min (max ((c.tr.length : Int) - 1) 0) (c.tr.length : Int)).toNat = (t0 ++ u1).length := by
            rw [g2]
            simp only [List.length_append, List.length_cons, List.length_nil]
            omega
          rw [cutn, e, g2, ← List.append_assoc, List.take_left]
        have e4 : (cutn c.st u.h).length = u.h.toNat := by
          simp only [cutn, List.length_take]
          omega
        refine ⟨f0, { F0 with pc := u.a }, t0, u1, b0, u.h - b0 + 1, u1.length, ?_, ?_, g4, ⟨g5.fu, g5.ba, g5.hb, m3, g5.va, g5.ma, g5.sm, rfl, fun i x hi => g5.ut i x ?_⟩, ?_, ?_, ?_⟩
        · show setPC (cutn c.fr u.f) _ _ = _
          rw [e1, e2]
        · exact e3
        · rw [List.getElem?_append_left (List.getElem?_eq_some_iff.1 hi).1]
          exact hi
        · show ((cutn c.st u.h ++ [num n]).length : Int) = _
          rw [List.length_append, e4]
          simp only [List.length_cons, List.length_nil]
          omega
        · show (setPC (cutn c.fr u.f) _ _).length ≤ 16
          rw [e1, e2]
          have := h.l16
          rw [g1] at this
          simp only [List.length_append, List.length_cons, List.length_nil] at this ⊢
          omega
        · intro v hv
          rcases List.mem_append.1 hv with hv | hv
          · exact h.sm v (List.mem_of_mem_take hv)
          · rw [List.mem_singleton.1 hv]; exact smL_num n
    · cases hs
end
end Go.Proofs.YtoibcfioicdlhaaGreatDoor
namespace Go.Proofs.YtoibcfioicdlhaaGreatDoor
open Go.Vx
set_option maxRecDepth 100000
theorem po17P {c : Int} {i : Info} (h : c = 17) (hi : inf c = some i) : i.po = 0 ∧ i.ar = 4 ∧ i.pu = 1 := by
  subst h
  have : ∃ j, inf 17 = some j ∧ j.po = 0 ∧ j.ar = 4 ∧ j.pu = 1 := ⟨_, rfl, rfl, rfl, rfl⟩
  obtain ⟨j, e, h1⟩ := this
  rw [hi] at e
  cases e
  exact h1
theorem callP {im : Im} (hI : GoodIm im) {fn : Fn} {o : Op} {i : Info} (hi : inf o.c = some i) (hoe : opErr im fn o = none) (hro : rightB o = true) (hc : o.c = 17) : ∃ g, 0 ≤ o.a ∧ o.a < 3 ∧ im.fs[o.a.toNat]? = some g ∧ g.args = 1 ∧ g.vars = 7 := by
  obtain ⟨_, _, ha, _⟩ := rightB_is hro
  have h4 := (po17P hc hi).2.1
  have hlt : o.a < im.fs.length := by
    simp only [opErr, hi, opErrA, h4] at hoe
    cases hd : decide (o.a < (im.fs.length : Int)) with
    | true => simpa using hd
    | false => rw [hd] at hoe; simp at hoe
  have hl : o.a.toNat < im.fs.length := by omega
  have h3 := hI.2.1
  exact ⟨im.fs[o.a.toNat], ha, by omega, List.getElem?_eq_getElem hl, (hI.2.2 _ (List.getElem_mem hl)).1, (hI.2.2 _ (List.getElem_mem hl)).2.1⟩
theorem takes_po {im : Im} {o : Op} {i : Info} (hi : inf o.c = some i) (hc : o.c ≠ 17) : takes im o = i.po := by
  have : (o.c == 17) = false := by simpa using hc
  simp only [takes, hi, this, cond_false]
theorem takes_17 {im : Im} (hI : GoodIm im) {fn : Fn} {o : Op} {i : Info} (hi : inf o.c = some i) (hoe : opErr im fn o = none) (hro : rightB o = true) (hc : o.c = 17) : takes im o = 1 := by
  obtain ⟨g, _, _, hg, ha, _⟩ := callP hI hi hoe hro hc
  have : (o.c == 17) = true := by simpa using hc
  simp only [takes, hi, this, cond_true, hg, ha, (po17P hc hi).1]
  decide
theorem takes_ge {im : Im} (hI : GoodIm im) {fn : Fn} {o : Op} {i : Info} (hi : inf o.c = some i) (hoe : opErr im fn o = none) (hro : rightB o = true) : 0 ≤ takes im o := by
  by_cases hc : o.c = 17
  · rw [takes_17 hI hi hoe hro hc]; decide
  · rw [takes_po hi hc]; exact (inf_some hi).2.2.2.2.1
theorem operand_of {im : Im} {F : Fr} {fn : Fn} (hf : fn.args = 1 ∧ fn.vars = 7) (hv : F.vars.length = 8) {o : Op} (hoe : opErr im fn o = none) (hro : rightB o = true) : operandB im F fn o = true := by
  obtain ⟨i, hi, ha, _⟩ := rightB_is hro
  simp only [opErr, hi, opErrA] at hoe
  simp only [operandB, hi, hv]
  cases h1 : i.ar == 1 <;> rw [h1] at hoe <;> simp only [cond_true, cond_false] at hoe ⊢
  · cases h2 : i.ar == 2 <;> rw [h2] at hoe <;> simp only [cond_true, cond_false] at hoe ⊢
    · cases h3 : i.ar == 3 <;> rw [h3] at hoe <;> simp only [cond_true, cond_false] at hoe ⊢
      · cases h4 : i.ar == 4 <;> rw [h4] at hoe <;> simp only [cond_true, cond_false] at hoe ⊢
        cases hd : decide (o.a < (im.fs.length : Int)) <;> rw [hd] at hoe
        · simp at hoe
        · simpa [within, ha] using hd
      · cases hd : decide (o.a < (fn.code.length : Int)) <;> rw [hd] at hoe
        · simp at hoe
        · simpa [within, ha] using hd
    · cases hd : decide (o.a < fn.args + fn.vars) <;> rw [hd] at hoe
      · simp at hoe
      · rw [hf.1, hf.2] at hd
        simp only [decide_eq_true_eq] at hd
        simp [within, ha]
        omega
  · cases hd : decide (o.a < (im.cs.length : Int)) <;> rw [hd] at hoe
    · simp at hoe
    · simpa [within, ha] using hd
section
variable {im : Im} {S : Nat → Sn} {c : Co} {frs : List Fr} {F : Fr} {ts us : List Tr} {b d t : Int}
structure Nx (im : Im) (S : Nat → Sn) (c : Co) (F : Fr) (d t : Int) (fn : Fn) (x : Nat) (o : Op) (i : Info) : Prop where
  hfn : im.fs[F.fu.toNat]? = some fn
  pc : F.pc = x
  hop : fn.code[x]? = some o
  hin : inf o.c = some i
  hfit : fit im c = some o
  right : rightB o = true
  err : opErr im fn o = none
  lit : lit o
  tk : 0 ≤ takes im o ∧ takes im o ≤ d ∧ d - takes im o + i.pu ≤ 32
  en : o.c = 21 → 0 < t
  su : ∀ q ∈ sucs im o i x d t, q ∈ S F.fu.toNat
theorem At.last (h : At S c frs F ts us b d t) : c.fr.getLast? = some F := by rw [h.fr]; simp
theorem At.nx (E : Env im S) (h : At S c frs F ts us b d t) : ∃ (fn : Fn) (x : Nat) (o : Op) (i : Info), Nx im S c F d t fn x o i := by
  have hl : F.fu.toNat < im.fs.length := by rw [E.hI.2.1]; have := h.tp.fu; omega
  have hfn := List.getElem?_eq_getElem hl
  generalize im.fs[F.fu.toNat] = fn at hfn
  have hg := E.hI.2.2 fn (List.mem_of_getElem? hfn)
  obtain ⟨x, o, i, e, ho, hi, hoe, hro, hb, htk, h21, h20, hsu⟩ := (E.dp _ _ hfn).2.op _ h.tp.pc
  have hge := takes_ge E.hI hi hoe hro
  have e : F.pc = x := e
  have htk : takes im o ≤ d ∧ d - takes im o + i.pu ≤ 32 := htk
  refine ⟨fn, x, o, i, hfn, e, ho, hi, ?_, hro, hoe, good_ops hg o (List.mem_of_getElem? ho), ⟨hge, htk⟩, h21, fun q hq => (hsu q hq).1⟩
  have w1 : within F.fu im.fs.length = true := by
    have := h.tp.fu
    simp [within]
    omega
  have hxl := (List.getElem?_eq_some_iff.1 ho).1
  have w2 : within F.pc fn.code.length = true := by
    simp [within]
    omega
  have hop := operand_of (im := im) ⟨hg.1, hg.2.1⟩ h.tp.va hoe hro
  have hpo : popOk c (takes im o) = true := by
    have hba : base c = b := by simp only [base, h.last]; exact h.tp.ba
    have := h.tp.hb
    have := h.hh
    simp [popOk, hba]
    omega
  have ho' : fn.code[F.pc.toNat]? = some o := by rw [e]; exact ho
  simp only [fit, h.last, w1, w2, hfn, ho', hro, hop, hpo, cond_true, Bool.and_self]
theorem At.ok (E : Env im S) (h : At S c frs F ts us b d t) : okX im c := by
  have h1 := h.lo.bnd E
  have h2 := h.tp.b32 E
  have h3 := h.tp.ul
  have h4 := h.hh
  have h5 := h.l16
  have h6 : c.fr.length = frs.length + 1 := by rw [h.fr]; simp
  have h7 : c.tr.length = ts.length + us.length := by rw [h.tr]; simp
  obtain ⟨fn, x, o, i, hn⟩ := h.nx E
  refine ⟨⟨fun i g hg => ?_⟩, fun i g hg => by have := (E.dp _ _ hg).2.ln; omega, by omega, by omega, by omega, fun f hf => ?_, h.sm, fun o' ho => ?_⟩
  · rw [(E.hI.2.2 g (List.mem_of_getElem? hg)).1]
    unfold inR
    omega
  · rw [h.last] at hf
    cases hf
    exact ⟨h.tp.ma, by rw [h.tp.va]; decide⟩
  · rw [hn.hfit] at ho
    cases ho
    exact hn.lit
theorem At.to (h : At S c frs F ts us b d t) {F' : Fr} {us' : List Tr} {d' t' : Int} {st' : List Va} (hp : Top S frs.length F' b d' t' us') (hst : (st'.length : Int) = b + d') (hsm : ∀ v ∈ st', smL (lbV v)) : Inv S ⟨frs ++ [F'], st', ts ++ us'⟩ :=
  ⟨frs, F', ts, us', b, d', t', rfl, rfl, h.lo, hp, hst, by have := h.l16; rw [h.fr] at this; simpa using this, hsm⟩
theorem At.lftt (h : At S c frs F ts us b d t) {o : Op} (hT : 0 ≤ takes im o ∧ takes im o ≤ d) : ((lft (mkM im c o 0 0)).length : Int) = b + d - takes im o ∧ (∀ v ∈ lft (mkM im c o 0 0), v ∈ c.st) ∧ ((tkn (mkM im c o 0 0)).length : Int) = takes im o ∧ ∀ v ∈ tkn (mkM im c o 0 0), v ∈ c.st := by
  have h1 := h.hh
  have h2 := h.tp.hb
  refine ⟨?_, fun v hv => List.mem_of_mem_take hv, ?_, fun v hv => List.mem_of_mem_drop hv⟩
  · show ((cutn c.st (c.st.length - takes im o)).length : Int) = _
    simp only [cutn, List.length_take]
    omega
  · show ((c.st.drop (c.st.length - takes im o).toNat).length : Int) = _
    simp only [List.length_drop]
    omega
theorem smL_get {l : List Va} (h : ∀ v ∈ l, smL (lbV v)) (k : Nat) : smL (lbV ((l[k]?).getD zeroV)) := by
  cases hk : l[k]? with
  | none => exact ⟨show (0 : Nat) ≤ 140737488355328 by decide, show (0 : Nat) ≤ 140737488355328 by decide⟩
  | some v => exact h v (List.mem_of_getElem? hk)
theorem At.lay (h : At S c frs F ts us b d t) {o : Op} {l : List Va} {d' : Int} (hT : 0 ≤ takes im o ∧ takes im o ≤ d) (hl : d' = d - takes im o + l.length) (hsm : ∀ v ∈ l, smL (lbV v)) (hq : (F.pc + 1, (d', t)) ∈ S F.fu.toNat) : Inv S (layC im c o F l).1 := by
  obtain ⟨k1, k2, _, _⟩ := h.lftt (im := im) hT
  show Inv S ⟨nxt c.fr F, _, _⟩
  rw [h.fr, nxt_app, h.tr]
  refine h.to (h.tp.go hq) ?_ fun v hv => ?_
  · rw [List.length_append]
    omega
  · rcases List.mem_append.1 hv with hv | hv
    · exact h.sm v (k2 v hv)
    · exact hsm v hv
theorem At.jmp (h : At S c frs F ts us b d t) {o : Op} {d' pc : Int} (hT : 0 ≤ takes im o ∧ takes im o ≤ d) (hl : d' = d - takes im o) (hq : (pc, (d', t)) ∈ S F.fu.toNat) : Inv S ⟨lastSet (nxt c.fr F) { { F with pc := F.pc + 1 } with pc := pc }, lft (mkM im c o 0 0), c.tr⟩ := by
  obtain ⟨k1, k2, _, _⟩ := h.lftt (im := im) hT
  rw [h.fr, nxt_app, lastSet_app, h.tr]
  exact h.to (F' := { F with pc := pc }) (h.tp.go hq) (by omega) fun v hv => h.sm v (k2 v hv)
def skipC (c : Co) (o : Op) (i : Info) (F : Fr) : Co := ⟨nxt c.fr F, (popC c i.po).st ++ List.replicate i.pu.toNat (num o.c), c.tr⟩
def Res (S : Nat → Sn) (c : Co) (F : Fr) (o : Op) (i : Info) (r : Co × Ou) : Prop :=
  (r.2.k = 0 ∧ Inv S r.1) ∨ r.2.k = 1 ∨ r.2.k = 2 ∨ (r = (c, ⟨3, zeroV, o⟩) ∧ o.c ≠ 17 ∧ Inv S (skipC c o i F))
theorem At.exc (h : At S c frs F ts us b d t) {o : Op} {i : Info} (n : Int) : Res S c F o i (raise c n (max 0 0)) := by
  rcases h.rais n with h | h
  · exact .inl h
  · exact .inr (.inr (.inl h))
theorem lessM_in (a ma : Int) : 0 ≤ lessM a ma ∧ lessM a ma ≤ 255 := by
  simp only [lessM, bitv, IntKind.wrap]
  constructor <;> (simp [IntKind.signed, IntKind.bits]; omega)
theorem cs_sm {v : Va} (h : v ∈ cs16) : smL (lbV v) := by
  have : cs16.all (fun v => decide (v.ls.length ≤ 2) && decide (v.li.length ≤ 2)) = true := by kernel_rfl
  have := List.all_eq_true.1 this v h
  simp only [Bool.and_eq_true, decide_eq_true_eq] at this
  exact ⟨show v.ls.length ≤ 140737488355328 by omega, show v.li.length ≤ 140737488355328 by omega⟩
theorem smL_nil {k n : Int} {nm : List UInt8} : smL (lbV ⟨k, n, nm, [], []⟩) := ⟨show (0 : Nat) ≤ 140737488355328 by decide, show (0 : Nat) ≤ 140737488355328 by decide⟩
theorem one_sm {v : Va} (h : smL (lbV v)) : ∀ w ∈ [v], smL (lbV w) := fun w hw => by rw [List.mem_singleton.1 hw]; exact h
theorem two_sm {v u : Va} (h : smL (lbV v)) (k : smL (lbV u)) : ∀ w ∈ [v, u], smL (lbV w) := fun w hw => by
  rcases List.mem_cons.1 hw with rfl | hw
  · exact h
  · rw [List.mem_singleton.1 hw]; exact k
theorem nil_sm : ∀ w ∈ ([] : List Va), smL (lbV w) := fun _ h => by cases h
theorem pu_is {k : Int} {i : Info} {n m : Int} (h : inf k = some i) (e : (inf k).map (fun j => (j.po, j.pu)) = some (n, m)) : i.po = n ∧ i.pu = m := by
  rw [h] at e
  cases e
  exact ⟨rfl, rfl⟩
theorem low_inv {frs : List Fr} {ts : List Tr} {b : Int} (h : Low S frs ts b) (hne : frs ≠ []) : ∃ (f1 : List Fr) (F1 : Fr) (t1 u1 : List Tr) (b1 d1 e1 : Int), frs = f1 ++ [F1] ∧ ts = t1 ++ u1 ∧ b = b1 + d1 - 1 ∧ Low S f1 t1 b1 ∧ Top S f1.length F1 b1 d1 e1 u1 ∧ 1 ≤ d1 := by
  cases h with
  | nil => exact absurd rfl hne
  | cons h ht hd => exact ⟨_, _, _, _, _, _, _, rfl, rfl, rfl, h, ht, hd⟩
theorem keep_low (h : At S c frs F ts us b d t) : keep (c.fr.length - 1) c.tr = ts := by
  have e : ((c.fr.length : Int) - 1) = frs.length := by rw [h.fr]; simp
  rw [e, h.tr, keep, List.filter_append]
  have h1 : ts.filter (fun t => !(decide ((frs.length : Int) < t.f))) = ts := by
    rw [List.filter_eq_self]
    intro u hu
    have := (h.lo.le u hu).2
    simp
    omega
  have h2 : us.filter (fun t => !(decide ((frs.length : Int) < t.f))) = [] := by
    rw [List.filter_eq_nil_iff]
    intro u hu
    obtain ⟨i, hi⟩ := List.mem_iff_getElem?.1 hu
    have := (h.tp.ut i u hi).1
    simp
    omega
  rw [h1, h2, List.append_nil]
theorem At.layR (h : At S c frs F ts us b d t) {fn : Fn} {x : Nat} {o : Op} {i : Info} (hn : Nx im S c F d t fn x o i) {l : List Va} (hs : sucs im o i x d t = [((x : Int) + 1, (d - takes im o + i.pu, t))]) (hl : (l.length : Int) = i.pu) (hsm : ∀ v ∈ l, smL (lbV v)) : Res S c F o i (layC im c o F l) :=
  .inl ⟨rfl, h.lay ⟨hn.tk.1, hn.tk.2.1⟩ (by rw [hl]) hsm (by rw [hn.pc]; exact hn.su _ (by rw [hs]; exact List.mem_cons_self))⟩
theorem At.skip (h : At S c frs F ts us b d t) {fn : Fn} {x : Nat} {o : Op} {i : Info} (hn : Nx im S c F d t fn x o i) (hs : sucs im o i x d t = [((x : Int) + 1, (d - takes im o + i.pu, t))]) (hc : o.c ≠ 17) : Res S c F o i (c, ⟨3, zeroV, o⟩) := by
  refine .inr (.inr (.inr ⟨rfl, hc, ?_⟩))
  have e := takes_po (im := im) hn.hin hc
  have hp := inf_some hn.hin
  obtain ⟨k1, k2, _, _⟩ := h.lftt (im := im) (o := o) ⟨hn.tk.1, hn.tk.2.1⟩
  have e2 : (popC c i.po).st = lft (mkM im c o 0 0) := by rw [← e]; rfl
  unfold skipC
  rw [h.fr, nxt_app, h.tr, e2]
  have hq := hn.su _ (by rw [hs]; exact List.mem_cons_self)
  refine h.to (h.tp.go (by rw [hn.pc]; exact hq)) ?_ fun v hv => ?_
  · rw [List.length_append, List.length_replicate]
    omega
  · rcases List.mem_append.1 hv with hv | hv
    · exact h.sm v (k2 v hv)
    · rw [List.eq_of_mem_replicate hv]; exact smL_nil
end
end Go.Proofs.YtoibcfioicdlhaaGreatDoor
namespace Go.Proofs.YtoibcfioicdlhaaGreatDoor
open Go.Vx
set_option maxRecDepth 100000
section
variable {im : Im} {S : Nat → Sn} {c : Co} {frs : List Fr} {F : Fr} {ts us : List Tr} {b d t : Int} {fn : Fn} {x : Nat} {i : Info} {oa : Int}
theorem At.tks (h : At S c frs F ts us b d t) {o : Op} (hn : Nx im S c F d t fn x o i) (k : Nat) : smL (lbV (((tkn (mkM im c o 0 0))[k]?).getD zeroV)) :=
  smL_get (fun v hv => h.sm v ((h.lftt ⟨hn.tk.1, hn.tk.2.1⟩).2.2.2 v hv)) k
theorem At.lay1 (h : At S c frs F ts us b d t) {o : Op} (hn : Nx im S c F d t fn x o i) {v : Va} (hs : sucs im o i x d t = [((x : Int) + 1, (d - takes im o + i.pu, t))]) (hp : i.pu = 1) (hv : smL (lbV v)) : Res S c F o i (layC im c o F [v]) :=
  h.layR hn hs (by rw [hp]; rfl) (one_sm hv)
theorem st1 (E : Env im S) (h : At S c frs F ts us b d t) (hn : Nx im S c F d t fn x ⟨1, oa⟩ i) : Res S c F ⟨1, oa⟩ i (opX im c 0 0 ⟨1, oa⟩ F) :=
  h.lay1 hn (v := (im.cs[oa.toNat]?).getD zeroV) rfl (pu_is (n := 0) (m := 1) hn.hin rfl).2 (smL_get (fun v hv => cs_sm (by rw [← E.hI.1]; exact hv)) _)
theorem st2 (h : At S c frs F ts us b d t) (hn : Nx im S c F d t fn x ⟨2, oa⟩ i) : Res S c F ⟨2, oa⟩ i (opX im c 0 0 ⟨2, oa⟩ F) :=
  h.lay1 hn (v := (F.vars[oa.toNat]?).getD zeroV) rfl (pu_is (n := 0) (m := 1) hn.hin rfl).2 (smL_get h.tp.sm _)
theorem st3 (h : At S c frs F ts us b d t) (hn : Nx im S c F d t fn x ⟨3, oa⟩ i) : Res S c F ⟨3, oa⟩ i (opX im c 0 0 ⟨3, oa⟩ F) := by
  have hp := pu_is (n := 1) (m := 0) hn.hin rfl
  obtain ⟨k1, k2, _, _⟩ := h.lftt (im := im) (o := ⟨3, oa⟩) ⟨hn.tk.1, hn.tk.2.1⟩
  have hq : ((x : Int) + 1, (d - takes im ⟨3, oa⟩ + i.pu, t)) ∈ S F.fu.toNat := hn.su _ List.mem_cons_self
  refine .inl ⟨rfl, ?_⟩
  show Inv S ⟨lastSet (nxt c.fr F) { { F with pc := F.pc + 1 } with vars := F.vars.set oa.toNat (tk0 im c ⟨3, oa⟩) }, lft (mkM im c ⟨3, oa⟩ 0 0), c.tr⟩
  rw [h.fr, nxt_app, lastSet_app, h.tr]
  have hT := h.tp.go (pc := F.pc + 1) (by rw [hn.pc]; exact hq)
  refine h.to ⟨hT.fu, hT.ba, hT.hb, hT.pc, by simpa using hT.va, hT.ma, fun v hv => ?_, hT.ul, hT.ut⟩ (by rw [hp.2]; omega) fun v hv => h.sm v (k2 v hv)
  rcases List.mem_or_eq_of_mem_set hv with hv | rfl
  · exact h.tp.sm v hv
  · exact h.tks hn 0
theorem st4 (h : At S c frs F ts us b d t) (hn : Nx im S c F d t fn x ⟨4, oa⟩ i) : Res S c F ⟨4, oa⟩ i (opX im c 0 0 ⟨4, oa⟩ F) :=
  h.layR hn (l := []) rfl (by rw [(pu_is (n := 1) (m := 0) hn.hin rfl).2]; rfl) nil_sm
theorem st5 (h : At S c frs F ts us b d t) (hn : Nx im S c F d t fn x ⟨5, oa⟩ i) : Res S c F ⟨5, oa⟩ i (opX im c 0 0 ⟨5, oa⟩ F) :=
  h.layR hn (l := [tk0 im c ⟨5, oa⟩, tk0 im c ⟨5, oa⟩]) rfl (by rw [(pu_is (n := 1) (m := 2) hn.hin rfl).2]; rfl) (two_sm (h.tks hn 0) (h.tks hn 0))
theorem st6 (h : At S c frs F ts us b d t) (hn : Nx im S c F d t fn x ⟨6, oa⟩ i) : Res S c F ⟨6, oa⟩ i (opX im c 0 0 ⟨6, oa⟩ F) :=
  h.layR hn (l := [tk1' im c ⟨6, oa⟩, tk0 im c ⟨6, oa⟩]) rfl (by rw [(pu_is (n := 2) (m := 2) hn.hin rfl).2]; rfl) (two_sm (h.tks hn 1) (h.tks hn 0))
theorem stN (h : At S c frs F ts us b d t) {o : Op} (hn : Nx im S c F d t fn x o i) (a e : Va) (he : opX im c 0 0 o F = bif (a.k == 1) && (e.k == 1) then (match numR o.c a.n e.n with
    | .tu [.d (.int .i64 n), .d (.bool true)] => layC im c o F [num n]
    | _ => raise c (-2) (max 0 0)) else raise c (-1) (max 0 0)) (hs : sucs im o i x d t = [((x : Int) + 1, (d - takes im o + i.pu, t))]) (hp : i.pu = 1) : Res S c F o i (opX im c 0 0 o F) := by
  rw [he]
  cases (a.k == 1) && (e.k == 1) with
  | false => exact h.exc (-1)
  | true =>
    simp only [cond_true]
    rcases numR_or o.c a.n e.n with ⟨n, e'⟩ | e'
    · rw [e']
      exact h.lay1 hn (v := num n) hs hp (smL_num n)
    · rw [e']
      exact h.exc (-2)
theorem st12 (h : At S c frs F ts us b d t) (hn : Nx im S c F d t fn x ⟨12, oa⟩ i) : Res S c F ⟨12, oa⟩ i (opX im c 0 0 ⟨12, oa⟩ F) :=
  h.lay1 hn (v := truthV (eqV (tk0 im c ⟨12, oa⟩) (tk1' im c ⟨12, oa⟩))) rfl (pu_is (n := 2) (m := 1) hn.hin rfl).2 (smL_num _)
theorem st14 (h : At S c frs F ts us b d t) (hn : Nx im S c F d t fn x ⟨14, oa⟩ i) : Res S c F ⟨14, oa⟩ i (opX im c 0 0 ⟨14, oa⟩ F) := by
  show Res S c F ⟨14, oa⟩ i (bif (tk0 im c ⟨14, oa⟩).k == 1 then layC im c ⟨14, oa⟩ F [truthV ((tk0 im c ⟨14, oa⟩).n == 0)] else raise c (-1) (max 0 0))
  cases (tk0 im c ⟨14, oa⟩).k == 1 with
  | false => exact h.exc (-1)
  | true => exact h.lay1 hn rfl (pu_is (n := 1) (m := 1) hn.hin rfl).2 (smL_num _)
theorem st15 (h : At S c frs F ts us b d t) (hn : Nx im S c F d t fn x ⟨15, oa⟩ i) : Res S c F ⟨15, oa⟩ i (opX im c 0 0 ⟨15, oa⟩ F) := by
  have hp := pu_is (n := 0) (m := 0) hn.hin rfl
  have hq : (oa, (d - takes im ⟨15, oa⟩ + i.pu, t)) ∈ S F.fu.toNat := hn.su _ List.mem_cons_self
  exact .inl ⟨rfl, h.jmp (o := ⟨15, oa⟩) ⟨hn.tk.1, hn.tk.2.1⟩ (by rw [hp.2]; omega) hq⟩
theorem st16 (h : At S c frs F ts us b d t) (hn : Nx im S c F d t fn x ⟨16, oa⟩ i) : Res S c F ⟨16, oa⟩ i (opX im c 0 0 ⟨16, oa⟩ F) := by
  have hp := pu_is (n := 1) (m := 0) hn.hin rfl
  have hq : (oa, (d - takes im ⟨16, oa⟩ + i.pu, t)) ∈ S F.fu.toNat := hn.su _ List.mem_cons_self
  have hr : ((x : Int) + 1, (d - takes im ⟨16, oa⟩ + i.pu, t)) ∈ S F.fu.toNat := hn.su _ (List.mem_cons_of_mem _ List.mem_cons_self)
  show Res S c F ⟨16, oa⟩ i (bif (tk0 im c ⟨16, oa⟩).k == 1 then (bif (tk0 im c ⟨16, oa⟩).n == 0 then layC im c ⟨16, oa⟩ F [] else (⟨lastSet (nxt c.fr F) { { F with pc := F.pc + 1 } with pc := oa }, lft (mkM im c ⟨16, oa⟩ 0 0), c.tr⟩, went)) else raise c (-1) (max 0 0))
  cases (tk0 im c ⟨16, oa⟩).k == 1 with
  | false => exact h.exc (-1)
  | true =>
    cases (tk0 im c ⟨16, oa⟩).n == 0 with
    | true => exact .inl ⟨rfl, h.lay (l := []) (d' := d - takes im ⟨16, oa⟩ + i.pu) ⟨hn.tk.1, hn.tk.2.1⟩ (by rw [hp.2]; rfl) nil_sm (by rw [hn.pc]; exact hr)⟩
    | false => exact .inl ⟨rfl, h.jmp (o := ⟨16, oa⟩) ⟨hn.tk.1, hn.tk.2.1⟩ (by rw [hp.2]; omega) hq⟩
theorem st19 (h : At S c frs F ts us b d t) : Res S c F ⟨19, oa⟩ i (opX im c 0 0 ⟨19, oa⟩ F) := by
  show Res S c F ⟨19, oa⟩ i (bif (tk0 im c ⟨19, oa⟩).k == 1 then raise c (tk0 im c ⟨19, oa⟩).n (max 0 0) else raise c (-1) (max 0 0))
  cases (tk0 im c ⟨19, oa⟩).k == 1 with
  | false => exact h.exc (-1)
  | true => exact h.exc _
theorem st20 (h : At S c frs F ts us b d t) (hn : Nx im S c F d t fn x ⟨20, oa⟩ i) : Res S c F ⟨20, oa⟩ i (opX im c 0 0 ⟨20, oa⟩ F) := by
  have hp := pu_is (n := 0) (m := 0) hn.hin rfl
  have hT : takes im ⟨20, oa⟩ = 0 := (takes_po hn.hin (show (20 : Int) ≠ 17 by decide)).trans hp.1
  obtain ⟨k1, k2, _, _⟩ := h.lftt (im := im) (o := ⟨20, oa⟩) ⟨hn.tk.1, hn.tk.2.1⟩
  have hq : ((x : Int) + 1, (d - takes im ⟨20, oa⟩ + i.pu, t + 1)) ∈ S F.fu.toNat := hn.su _ List.mem_cons_self
  have hr : (oa, (d + 1, t)) ∈ S F.fu.toNat := hn.su _ (List.mem_cons_of_mem _ List.mem_cons_self)
  have hd := hn.tk
  rw [hT] at hq k1 hd
  rw [hp.2] at hq
  refine .inl ⟨rfl, ?_⟩
  show Inv S ⟨nxt c.fr F, lft (mkM im c ⟨20, oa⟩ 0 0), c.tr ++ [⟨(nxt c.fr F).length, (lft (mkM im c ⟨20, oa⟩ 0 0)).length, oa⟩]⟩
  rw [h.fr, nxt_app, h.tr, List.append_assoc]
  have hul := h.tp.ul
  refine h.to (d' := d) (t' := t + 1) ⟨h.tp.fu, h.tp.ba, h.tp.hb, ?_, h.tp.va, h.tp.ma, h.tp.sm, ?_, fun j u hu => ?_⟩ (by omega) fun v hv => h.sm v (k2 v hv)
  · show (F.pc + 1, _) ∈ _
    rw [hn.pc]
    simpa using hq
  · rw [List.length_append]
    simp only [List.length_cons, List.length_nil]
    omega
  · by_cases hj : j < us.length
    · rw [List.getElem?_append_left hj] at hu
      exact h.tp.ut j u hu
    · rw [List.getElem?_append_right (by omega)] at hu
      have hj0 : j - us.length = 0 := by
        have := (List.getElem?_eq_some_iff.1 hu).1
        simp only [List.length_cons, List.length_nil] at this
        omega
      rw [hj0] at hu
      cases hu
      refine ⟨by simp, by show b ≤ ((lft (mkM im c ⟨20, oa⟩ 0 0)).length : Int); omega, ?_⟩
      show (oa, (((lft (mkM im c ⟨20, oa⟩ 0 0)).length : Int) - b + 1, (j : Int))) ∈ S F.fu.toNat
      rw [k1, show b + d - 0 - b + 1 = d + 1 by omega, show (j : Int) = t by omega]
      exact hr
theorem st21 (h : At S c frs F ts us b d t) (hn : Nx im S c F d t fn x ⟨21, oa⟩ i) : Res S c F ⟨21, oa⟩ i (opX im c 0 0 ⟨21, oa⟩ F) := by
  have hp := pu_is (n := 0) (m := 0) hn.hin rfl
  have ht := hn.en rfl
  have hul := h.tp.ul
  obtain ⟨k1, k2, _, _⟩ := h.lftt (im := im) (o := ⟨21, oa⟩) ⟨hn.tk.1, hn.tk.2.1⟩
  have hq : ((x : Int) + 1, (d - takes im ⟨21, oa⟩ + i.pu, t - 1)) ∈ S F.fu.toNat := hn.su _ List.mem_cons_self
  have hne : us ≠ [] := by intro e; rw [e] at hul; simp only [List.length_nil] at hul; omega
  obtain ⟨u1, u, rfl⟩ : ∃ u1 u, us = u1 ++ [u] := ⟨us.dropLast, us.getLast hne, (List.dropLast_concat_getLast hne).symm⟩
  have hlen : c.tr.length = (ts ++ u1).length + 1 := by rw [h.tr]; simp; omega
  have e0 : decide (max (0 : Int) 0 < (c.tr.length : Int)) = true := by simp; omega
  show Res S c F ⟨21, oa⟩ i (bif decide (max (0 : Int) 0 < (c.tr.length : Int)) then (⟨nxt c.fr F, lft (mkM im c ⟨21, oa⟩ 0 0), c.tr.take (c.tr.length - 1)⟩, went) else layC im c ⟨21, oa⟩ F [])
  rw [e0]
  refine .inl ⟨rfl, ?_⟩
  show Inv S ⟨nxt c.fr F, lft (mkM im c ⟨21, oa⟩ 0 0), c.tr.take (c.tr.length - 1)⟩
  rw [hlen, Nat.add_sub_cancel, h.tr, h.fr, nxt_app, ← List.append_assoc, List.take_left]
  refine h.to (d' := d - takes im ⟨21, oa⟩ + i.pu) (t' := t - 1) ⟨h.tp.fu, h.tp.ba, h.tp.hb, ?_, h.tp.va, h.tp.ma, h.tp.sm, ?_, fun j v hv => h.tp.ut j v ?_⟩ (by rw [hp.2]; omega) fun v hv => h.sm v (k2 v hv)
  · show (F.pc + 1, _) ∈ _
    rw [hn.pc]
    exact hq
  · simp only [List.length_append, List.length_cons, List.length_nil] at hul
    omega
  · rw [List.getElem?_append_left (List.getElem?_eq_some_iff.1 hv).1]
    exact hv
theorem st22 (h : At S c frs F ts us b d t) (hn : Nx im S c F d t fn x ⟨22, oa⟩ i) : Res S c F ⟨22, oa⟩ i (opX im c 0 0 ⟨22, oa⟩ F) := by
  show Res S c F ⟨22, oa⟩ i (bif ((tk0 im c ⟨22, oa⟩).k == 2) && ((tk1' im c ⟨22, oa⟩).k == 2) then layC im c ⟨22, oa⟩ F [mkL (joinL (lbV (tk0 im c ⟨22, oa⟩)) (lbV (tk1' im c ⟨22, oa⟩)))] else raise c (-1) (max 0 0))
  cases ((tk0 im c ⟨22, oa⟩).k == 2) && ((tk1' im c ⟨22, oa⟩).k == 2) with
  | false => exact h.exc (-1)
  | true => exact h.lay1 hn rfl (pu_is (n := 2) (m := 1) hn.hin rfl).2 ⟨sml_norm _, sml_norm _⟩
theorem st23 (h : At S c frs F ts us b d t) (hn : Nx im S c F d t fn x ⟨23, oa⟩ i) : Res S c F ⟨23, oa⟩ i (opX im c 0 0 ⟨23, oa⟩ F) := by
  show Res S c F ⟨23, oa⟩ i (bif ((tk0 im c ⟨23, oa⟩).k == 2) && ((tk1' im c ⟨23, oa⟩).k == 2) then layC im c ⟨23, oa⟩ F [mkL (meetL (lbV (tk0 im c ⟨23, oa⟩)) (lbV (tk1' im c ⟨23, oa⟩)))] else raise c (-1) (max 0 0))
  cases ((tk0 im c ⟨23, oa⟩).k == 2) && ((tk1' im c ⟨23, oa⟩).k == 2) with
  | false => exact h.exc (-1)
  | true => exact h.lay1 hn rfl (pu_is (n := 2) (m := 1) hn.hin rfl).2 ⟨sml_norm _, sml_norm _⟩
theorem st44 (h : At S c frs F ts us b d t) (hn : Nx im S c F d t fn x ⟨44, oa⟩ i) : Res S c F ⟨44, oa⟩ i (opX im c 0 0 ⟨44, oa⟩ F) := by
  have hp := pu_is (n := 0) (m := 0) hn.hin rfl
  obtain ⟨k1, k2, _, _⟩ := h.lftt (im := im) (o := ⟨44, oa⟩) ⟨hn.tk.1, hn.tk.2.1⟩
  have hq : ((x : Int) + 1, (d - takes im ⟨44, oa⟩ + i.pu, t)) ∈ S F.fu.toNat := hn.su _ List.mem_cons_self
  refine .inl ⟨rfl, ?_⟩
  show Inv S ⟨lastSet (nxt c.fr F) { { F with pc := F.pc + 1 } with ma := lessM oa F.ma }, lft (mkM im c ⟨44, oa⟩ 0 0), c.tr⟩
  rw [h.fr, nxt_app, lastSet_app, h.tr]
  have hT := h.tp.go (pc := F.pc + 1) (by rw [hn.pc]; exact hq)
  exact h.to ⟨hT.fu, hT.ba, hT.hb, hT.pc, hT.va, lessM_in _ _, hT.sm, hT.ul, hT.ut⟩ (by rw [hp.2]; omega) fun v hv => h.sm v (k2 v hv)
theorem st47 (h : At S c frs F ts us b d t) (hn : Nx im S c F d t fn x ⟨47, oa⟩ i) : Res S c F ⟨47, oa⟩ i (opX im c 0 0 ⟨47, oa⟩ F) :=
  h.lay1 hn (v := num F.ma) rfl (pu_is (n := 0) (m := 1) hn.hin rfl).2 (smL_num _)
theorem st18 (E : Env im S) (h : At S c frs F ts us b d t) : Res S c F ⟨18, oa⟩ i (opX im c 0 0 ⟨18, oa⟩ F) := by
  have hfr : (retC c).fr = frs := by
    show cutn c.fr (c.fr.length - 1) = frs
    have e : (min (max ((c.fr.length : Int) - 1) 0) (c.fr.length : Int)).toNat = frs.length := by rw [h.fr]; simp; omega
    rw [cutn, e, h.fr, List.take_left]
  have htr : (retC c).tr = ts := keep_low h
  have hba : base c = b := by simp only [base, h.last]; exact h.tp.ba
  have h2 := h.tp.hb
  have h3 := h.hh
  show Res S c F ⟨18, oa⟩ i (bif decide (((retC c).fr.length : Int) ≤ max 0 0) then (retC c, ⟨1, retV c, o0⟩) else (⟨(retC c).fr, (retC c).st ++ [retV c], (retC c).tr⟩, went))
  cases hd : decide (((retC c).fr.length : Int) ≤ max 0 0) with
  | true => exact .inr (.inl rfl)
  | false =>
    refine .inl ⟨rfl, ?_⟩
    show Inv S ⟨(retC c).fr, (retC c).st ++ [retV c], (retC c).tr⟩
    rw [hfr] at hd
    have hne : frs ≠ [] := by intro e; rw [e] at hd; simp at hd
    obtain ⟨f1, F1, t1, u1, b1, d1, e1, g1, g2, g3, g4, g5, g6⟩ := low_inv h.lo hne
    rw [hfr, htr]
    refine ⟨f1, F1, t1, u1, b1, d1, e1, g1, g2, g4, g5, ?_, ?_, fun v hv => ?_⟩
    · show ((cutn c.st (base c) ++ [retV c]).length : Int) = _
      simp only [cutn, List.length_append, List.length_take, List.length_cons, List.length_nil, hba]
      have := h.tp.b32 E
      omega
    · show frs.length ≤ 16
      have := h.l16
      rw [h.fr] at this
      simp only [List.length_append, List.length_cons, List.length_nil] at this
      omega
    · rcases List.mem_append.1 hv with hv | hv
      · exact h.sm v (List.mem_of_mem_take hv)
      · rw [List.mem_singleton.1 hv]
        exact smL_get (fun v hv => h.sm v (List.mem_of_mem_drop hv)) 0
theorem st17 (E : Env im S) (h : At S c frs F ts us b d t) (hn : Nx im S c F d t fn x ⟨17, oa⟩ i) : Res S c F ⟨17, oa⟩ i (opX im c 0 0 ⟨17, oa⟩ F) := by
  obtain ⟨g, ha, ha3, hg, hg1, hg2⟩ := callP E.hI hn.hin hn.err hn.right rfl
  have hp := po17P rfl hn.hin
  have hT := takes_17 E.hI hn.hin hn.err hn.right rfl
  have hd := hn.tk
  obtain ⟨k1, k2, k3, k4⟩ := h.lftt (im := im) (o := ⟨17, oa⟩) ⟨hn.tk.1, hn.tk.2.1⟩
  have hq : ((x : Int) + 1, (d - takes im ⟨17, oa⟩ + i.pu, t)) ∈ S F.fu.toNat := hn.su _ List.mem_cons_self
  rw [hT] at hd k1 k3 hq
  rw [hp.2.2] at hq
  show Res S c F ⟨17, oa⟩ i (bif enterOk ⟨nxt c.fr F, lft (mkM im c ⟨17, oa⟩ 0 0), c.tr⟩ then (⟨(enterC ⟨nxt c.fr F, lft (mkM im c ⟨17, oa⟩ 0 0), c.tr⟩ oa (match im.fs[oa.toNat]? with | some g => g.vars | none => 0) (tkn (mkM im c ⟨17, oa⟩ 0 0)) F.ma).fr, lft (mkM im c ⟨17, oa⟩ 0 0), c.tr⟩, went) else raise c (-6) (max 0 0))
  have hg' : im.fs[oa.toNat]? = some g := hg
  rw [hg']
  cases he : enterOk ⟨nxt c.fr F, lft (mkM im c ⟨17, oa⟩ 0 0), c.tr⟩ with
  | false => exact h.exc (-6)
  | true =>
    refine .inl ⟨rfl, ?_⟩
    show Inv S ⟨nxt c.fr F ++ [⟨oa, 0, (lft (mkM im c ⟨17, oa⟩ 0 0)).length, F.ma, tkn (mkM im c ⟨17, oa⟩ 0 0) ++ zeros (min (max g.vars 0) 16).toNat⟩], lft (mkM im c ⟨17, oa⟩ 0 0), c.tr⟩
    have hl : (nxt c.fr F).length < 16 := by simpa [enterOk] using he
    rw [h.fr, nxt_app] at hl ⊢
    have hlow : Low S (frs ++ [{ F with pc := F.pc + 1 }]) (ts ++ us) (b + d - 1) := .cons h.lo (h.tp.go (by rw [hn.pc]; simpa using hq)) (by omega)
    have e7 : (min (max g.vars 0) 16).toNat = 7 := by rw [hg2]; rfl
    refine ⟨frs ++ [{ F with pc := F.pc + 1 }], (⟨oa, 0, (lft (mkM im c ⟨17, oa⟩ 0 0)).length, F.ma, tkn (mkM im c ⟨17, oa⟩ 0 0) ++ zeros (min (max g.vars 0) 16).toNat⟩ : Fr), ts ++ us, [], b + d - 1, 0, 0, rfl, by rw [h.tr, List.append_nil], hlow, ⟨⟨ha, ha3⟩, ?_, by have := h.tp.hb; omega, (E.dp _ _ hg).2.st, ?_, h.tp.ma, fun v hv => ?_, rfl, fun j u hu => by cases hu⟩, ?_, ?_, fun v hv => h.sm v (k2 v hv)⟩
    · show ((lft (mkM im c ⟨17, oa⟩ 0 0)).length : Int) = _
      omega
    · show (tkn (mkM im c ⟨17, oa⟩ 0 0) ++ zeros (min (max g.vars 0) 16).toNat).length = 8
      rw [e7, List.length_append]
      simp only [zeros, List.length_replicate]
      omega
    · rcases List.mem_append.1 hv with hv | hv
      · exact h.sm v (k4 v hv)
      · rw [List.eq_of_mem_replicate hv]; exact smL_num 0
    · show ((lft (mkM im c ⟨17, oa⟩ 0 0)).length : Int) = _
      omega
    · show ((frs ++ [{ F with pc := F.pc + 1 }]) ++ [_]).length ≤ 16
      simp only [List.length_append, List.length_cons, List.length_nil] at hl ⊢
      omega
theorem sucs_else {o : Op} (h : (o.c == 18 || o.c == 19) = false ∧ (o.c == 15) = false ∧ (o.c == 16) = false ∧ (o.c == 20) = false ∧ (o.c == 21) = false) : sucs im o i x d t = [((x : Int) + 1, (d - takes im o + i.pu, t))] := by
  simp only [sucs, h.1, h.2.1, h.2.2.1, h.2.2.2.1, h.2.2.2.2, cond_false]
set_option maxHeartbeats 4000000 in
theorem At.step (E : Env im S) (h : At S c frs F ts us b d t) {o : Op} (hn : Nx im S c F d t fn x o i) : Res S c F o i (opX im c 0 0 o F) := by
  obtain ⟨k, oa⟩ := o
  have hk := inf_some hn.hin
  have hlit := hn.lit
  have hk1 : 1 ≤ k ∧ k ≤ 47 := ⟨hk.1, hk.2.1⟩
  have hk2 : k ≠ 24 ∧ k ≠ 31 := hlit
  have h47 : k = 1 ∨ k = 2 ∨ k = 3 ∨ k = 4 ∨ k = 5 ∨ k = 6 ∨ (7 ≤ k ∧ k ≤ 13) ∨ k = 14 ∨ k = 15 ∨ k = 16 ∨ k = 17 ∨ k = 18 ∨ k = 19 ∨ k = 20 ∨ k = 21 ∨ k = 22 ∨ k = 23 ∨ k = 44 ∨ k = 47 ∨ ((25 ≤ k ∧ k ≤ 46) ∧ k ≠ 31 ∧ k ≠ 44) := by omega
  clear hk hk1 hk2
  rcases h47 with rfl | rfl | rfl | rfl | rfl | rfl | h7 | rfl | rfl | rfl | rfl | rfl | rfl | rfl | rfl | rfl | rfl | rfl | rfl | h8
  · exact st1 E h hn
  · exact st2 h hn
  · exact st3 h hn
  · exact st4 h hn
  · exact st5 h hn
  · exact st6 h hn
  · by_cases h12 : k = 12
    · subst h12; exact st12 h hn
    · have h6 : k = 7 ∨ k = 8 ∨ k = 9 ∨ k = 10 ∨ k = 11 ∨ k = 13 := by omega
      rcases h6 with rfl | rfl | rfl | rfl | rfl | rfl <;>
        exact stN h hn (tk0 im c _) (tk1' im c _) rfl rfl (pu_is (n := 2) (m := 1) hn.hin rfl).2
  · exact st14 h hn
  · exact st15 h hn
  · exact st16 h hn
  · exact st17 E h hn
  · exact st18 E h
  · exact st19 h
  · exact st20 h hn
  · exact st21 h hn
  · exact st22 h hn
  · exact st23 h hn
  · exact st44 h hn
  · exact st47 h hn
  · obtain ⟨h8, h31, h44⟩ := h8
    have f : ∀ n : Int, k ≠ n → (k == n) = false := fun n hn => beqF hn
    have e : opX im c 0 0 ⟨k, oa⟩ F = (c, ⟨3, zeroV, ⟨k, oa⟩⟩) := by
      have d1 : (decide (7 ≤ k) && decide (k ≤ 13)) = false := by
        simp
        omega
      by_cases h47 : k = 47
      · omega
      · simp only [opX, opR, f 3 (by omega), f 22 (by omega), f 23 (by omega), f 1 (by omega), f 2 (by omega), f 4 (by omega), f 5 (by omega), f 6 (by omega), f 12 (by omega), d1, f 14 (by omega), f 15 (by omega), f 16 (by omega), f 17 (by omega), f 18 (by omega), f 19 (by omega), f 20 (by omega), f 21 (by omega), f 44 h44, f 47 h47, cond_false]
    rw [e]
    refine h.skip hn (sucs_else ⟨?_, f 15 (by omega), f 16 (by omega), f 20 (by omega), f 21 (by omega)⟩) (show k ≠ 17 by omega)
    show (k == 18 || k == 19) = false
    rw [f 18 (by omega), f 19 (by omega)]
    rfl
end
end Go.Proofs.YtoibcfioicdlhaaGreatDoor
