/- A row of operations in its order; operations that only look. Conditions: none; lemmas on the definitions before. -/
import Derived.Test.YtjpgfgajkjhonaaGreatDoorQTAL
import Derived.Orders
import Derived.Tactics
namespace Go.Vx
section
variable {P : Program} {E : Ent} {n : Nat} {G : Nat → Prop} {ρ : List Value} {t t' : T} {h : H} {a : Act} {w : World} {o : Oper} {nxt : Act → World → Prop} {Q : Exit → Act → World → Prop} {K : Ex → T → H → Prop}
variable (ow : Nat → Bool)
theorem Conc.congr (hC : Conc E n G ρ t h a w) (ht : ∀ i, gs t' i = gs t i) : Conc E n G ρ t' h a w :=
 ⟨hC.ok, hC.df, hC.sz, fun i => by rw [ht i]; exact hC.tm i⟩
def putv (d : Option Nat) (v : V) (t : T) : T :=
 match d with
 | some i => (i, v) :: t
 | none => t
theorem Put_putv (d : Option Nat) (v : V) (t : T) (K : T → Prop) : Put d v t K = K (putv d v t) := by
 rw [Put_eq]; cases d <;> rfl
theorem Conc.putv (hC : Conc E n G ρ t h a w) (d : Option Nat) {v : Value} {x : V} (hd : ∀ i, d = some i → i < n) (hr : Rep2 G w ρ v x) : Conc E n G ρ (Vx.putv d x t) h (a.put d v) w := by
 have := hC.put d hd hr
 cases d <;> exact this
theorem gs_know {j : Nat} {v : V} (hj : gs t j = v) (i : Nat) : gs ((j, v) :: t) i = gs t i := by
 simp only [gs_cons]
 by_cases e : j = i
 ·subst e; simp [hj]
 ·rw [nbeq e]; rfl
theorem compI_ok {ops : Array Oper} {i : I} (hi : compI P n ops o = some i) : (compO P o.type o.op = some i.o ∨ i.o = .bad) ∧ i.d = o.dst ∧ (∀ k, o.dst = some k → k < n) ∧
  (match o.guard with | none => i.g = none | some (j, x) => ∃ d, (ops[j]?).bind (·.dst) = some d ∧ i.g = some (d, x)) := by
 simp only [compI, Option.bind_eq_bind] at hi
 have hx : ∀ y, (compO P o.type o.op).getD .bad = y → compO P o.type o.op = some y ∨ y = .bad := fun y hy => by
  cases hc : compO P o.type o.op with
  | none => rw [hc] at hy; exact .inr hy.symm
  | some z => rw [hc] at hy; exact .inl (congrArg some hy)
 split at hi
 ·cases hi
 ·rename_i hd
  have hd' : ∀ k, o.dst = some k → k < n := fun k hk => by
   simp only [hk, Option.getD_some, Bool.not_eq_true', Bool.not_eq_false] at hd
   exact (Nat.blt_eq ..).mp hd
  split at hi
  ·cases hi
   rename_i hg
   exact ⟨hx _ rfl, rfl, hd', by rw [hg]⟩
  ·rename_i hg
   simp only [Option.bind_eq_some_iff] at hi
   obtain ⟨d, hd2, hi⟩ := hi
   cases hi
   refine ⟨hx _ rfl, rfl, hd', ?_⟩
   rw [hg]
   exact ⟨d, Option.bind_eq_some_iff.2 hd2, rfl⟩
theorem wanted_bool (hC : Conc E n G ρ t h a w) {ops : Array Oper} {j d : Nat} {x b : Bool} (hg : o.guard = some (j, x)) (hd : (ops[j]?).bind (·.dst) = some d) (ht : gs t d = .d (.bool b)) :
  Region.wanted o (yielded ops a.tmps) = (b == x) := by
 have h1 := (ht ▸ hC.tm d).bool
 have h2 : a.tmps[d]? = some (.bool b) := by
  rw [Array.getD_eq_getD_getElem?] at h1
  cases hx : a.tmps[d]? with
  | none => rw [hx] at h1; cases h1
  | some v => rw [hx] at h1; exact congrArg some h1
 simp only [Region.wanted, hg, yielded, hd, Option.bind_some, h2]
 cases b <;> cases x <;> rfl
theorem wanted_ud (hC : Conc E n G ρ t h a w) {ops : Array Oper} {j d : Nat} {x : Bool} (hg : o.guard = some (j, x)) (hd : (ops[j]?).bind (·.dst) = some d) (ht : gs t d = .ud) :
  Region.wanted o (yielded ops a.tmps) = false := by
 have h1 : a.tmps.getD d undef = undef := by
  have := ht ▸ hC.tm d
  generalize a.tmps.getD d undef = u at this
  cases this with | o k => cases k with | c k => cases k with | k k => cases k with
   | ud => rfl
 simp only [Region.wanted, hg, yielded, hd, Option.bind_some]
 rw [Array.getD_eq_getD_getElem?] at h1
 cases hx : a.tmps[d]? with
 | none => rfl
 | some v => rw [hx] at h1; simp only [Option.getD_some] at h1; subst h1; rfl
def PQ (E : Ent) (n : Nat) (K : Ex → T → H → Prop) (Q : Exit → Act → World → Prop) : Prop :=
 ∀ (a : Act) (w : World) (G : Nat → Prop) (ρ : List Value) (t : T) (h : H) (v : V) (v' : Value), Conc E n G ρ t h a w → Rep2 G w ρ v' v → K (.pan v) t h → Q (.panic [{ v := v', recovered := false }]) a w
theorem rep_ud : Rep2 G w ρ undef .ud := .k .ud
theorem step_ok (hC : Conc E n G ρ t h a w) {ops : Array Oper} {i : I} (hi : compI P n ops o = some i) {r : List I} (hk : rx (Sat P) ow (i :: r) t h K)
  (hnx : ∀ (a' : Act) (w' : World) (G' : Nat → Prop) (ρ' : List Value) (t' : T) (h' : H), Conc E n G' ρ' t' h' a' w' → rx (Sat P) ow r t' h' K → nxt a' w') (hp : PQ E n K Q) :
  if Region.wanted o (yielded ops a.tmps) then o.wp P a w nxt Q else nxt (a.put o.dst undef) w := by
 obtain ⟨hx, hd, hlt, hg⟩ := compI_ok hi
 have run : ∀ {t : T}, Conc E n G ρ t h a w → opx (Sat P) ow i.o t h (fun v t h => Put i.d v t fun t => rx (Sat P) ow r t h K) (fun v t h => K (.pan v) t h) → o.wp P a w nxt Q := by
  intro t hC hk
  refine op_all ow hC (fun v' w' G' ρ' t' h' v hC' hv hk' => ?_) (fun v' w' G' ρ' t' h' v hC' hv hk' => hp a w' G' ρ' t' h' v v' hC' hv hk') hx hk
  rw [Put_putv, hd] at hk'
  exact hnx _ _ _ _ _ _ (hC'.putv o.dst hlt hv) hk'
 have pass : ∀ {t : T}, Conc E n G ρ t h a w → (Put i.d .ud t fun t => rx (Sat P) ow r t h K) → nxt (a.put o.dst undef) w := by
  intro t hC hk
  rw [Put_putv, hd] at hk
  exact hnx _ _ _ _ _ _ (hC.putv o.dst hlt rep_ud) hk
 cases hgo : o.guard with
 | none =>
  rw [hgo] at hg
  simp only at hg
  simp only [rx_cons, rx1, hg] at hk
  rw [if_pos (by simp [Region.wanted, hgo])]
  exact run hC hk
 | some p =>
  obtain ⟨j, x⟩ := p
  rw [hgo] at hg
  obtain ⟨d, hd1, hg⟩ := hg
  simp only [rx_cons, rx1, hg] at hk
  split at hk
  ·rename_i b hb
   rw [wanted_bool hC hgo hd1 hb]
   have hC1 := hC.congr (gs_know hb)
   cases b <;> cases x <;> simp only [sp, cond_true, cond_false] at hk <;> simp only [BEq.rfl, if_true, Bool.false_eq_true, if_false, beq_iff_eq, reduceCtorEq]
   ·exact run hC1 hk
   ·exact pass hC1 hk
   ·exact pass hC1 hk
   ·exact run hC1 hk
  ·rename_i hb
   rw [wanted_ud hC hgo hd1 hb]
   exact pass hC hk
  ·exact hk.elim
def QK (E : Ent) (n : Nat) (K : Ex → T → H → Prop) (e : Exit) (a : Act) (w : World) : Prop :=
 ∃ (G : Nat → Prop) (ρ : List Value) (t : T) (h : H), Conc E n G ρ t h a w ∧ match e with
  | .normal => K .nrm t h
  | .exit id => K (.ext id) t h
  | .ret => K .ret t h
  | .panic ch => ∃ v v', ch = [{ v := v', recovered := false }] ∧ Rep2 G w ρ v' v ∧ K (.pan v) t h
  | _ => False
theorem PQ.qk : PQ E n K (QK E n K) := fun _ _ G ρ t h v v' hC hv hk => ⟨G, ρ, t, h, hC, v, v', rfl, hv, hk⟩
theorem reg_ok {ops : Array Oper} : ∀ (os : List Oper) (is : List I), os.mapM (compI P n ops) = some is → ∀ (G : Nat → Prop) (ρ : List Value) (t : T) (h : H) (a : Act) (w : World), Conc E n G ρ t h a w →
  rx (Sat P) ow is t h K → wpList P ops (QK E n K) os a w := by
 intro os
 induction os with
 | nil =>
  intro is hm G ρ t h a w hC hk
  simp at hm
  subst hm
  exact wpList_nil ⟨G, ρ, t, h, hC, hk⟩
 | cons o os ih =>
  intro is hm G ρ t h a w hC hk
  simp only [List.mapM_cons, Option.bind_eq_bind, Option.bind_eq_some_iff, Option.pure_def, Option.some.injEq] at hm
  obtain ⟨i, hi, r, hr, rfl⟩ := hm
  exact wpList_step fun K' hK' => step_ok ow hC hi hk (fun a' w' G' ρ' t' h' hC' hk' => hK' _ _ (ih r hr G' ρ' t' h' a' w' hC' hk')) PQ.qk
end
section
variable {P : Program} {t t' : T} {h : H} {K : V → Prop} (ow : Nat → Bool)
theorem gv_c {x : O} (ht : ∀ s ∈ slo x, gs t' s = gs t s) : gv t' x = gv t x := by
 cases x with
 | s i => exact ht i (by simp [slo])
 | g i => rfl
 | k v => cases v <;> rfl
theorem frz_q : ∀ (cs : List V) (K : List D → T → H → Prop), frz cs [] [] K → ∃ ds, K ds [] [] ∧ ∀ (t : T) (h : H) (K' : List D → T → H → Prop), K' ds t h → frz cs t h K' := by
 intro cs
 induction cs with
 | nil => intro K hk; exact ⟨[], hk, fun t h K' hk => hk⟩
 | cons x r ih =>
  intro K hk
  cases x <;> (try simp only [frz_cons, frz1] at hk) <;> try (exact hk.elim)
  case d x =>
   obtain ⟨ds, h1, h2⟩ := ih _ hk
   exact ⟨x :: ds, h1, fun t h K' hk' => by simp only [frz_cons, frz1]; exact h2 t h _ hk'⟩
  case cl z rs =>
   obtain ⟨ds, h1, h2⟩ := ih _ hk
   exact ⟨.sl z rs :: ds, h1, fun t h K' hk' => by simp only [frz_cons, frz1]; exact h2 t h _ hk'⟩
  case fc f c =>
   cases c with
   | cons c0 c =>
    replace hk : (match capsD (c0 :: c) with
     | some ds => frz r [] [] fun xs t h => K (.fc f ds :: xs) t h
     | none => False) := hk
    cases hD : capsD (c0 :: c) with
    | none => rw [hD] at hk; exact hk.elim
    | some cd =>
     rw [hD] at hk
     obtain ⟨ds, h1, h2⟩ := ih _ hk
     exact ⟨.fc f cd :: ds, h1, fun t h K' hk' => by simp only [frz_cons, frz1, hD]; exact h2 t h _ hk'⟩
   | nil =>
   replace hk : frz r [] [] (fun xs t h => K (.fn f :: xs) t h) := hk
   obtain ⟨ds, h1, h2⟩ := ih _ hk
   exact ⟨.fn f :: ds, h1, fun t h K' hk' => by simp only [frz_cons, frz1]; exact h2 t h _ hk'⟩
theorem foldl_c {α β : Type} {f g : β → α → β} : ∀ (l : List α) (b : β), (∀ x ∈ l, ∀ b, f b x = g b x) → l.foldl f b = l.foldl g b := by
 intro l
 induction l with
 | nil => intro b _; rfl
 | cons x l ih => intro b hx; simp only [List.foldl_cons]; rw [hx x (by simp), ih _ (fun y hy => hx y (by simp [hy]))]
theorem all_c {α : Type} {f g : α → Bool} : ∀ (l : List α), (∀ x ∈ l, f x = g x) → l.all f = l.all g := by
 intro l
 induction l with
 | nil => intro _; rfl
 | cons x l ih => intro hx; simp only [List.all_cons]; rw [hx x (by simp), ih (fun y hy => hx y (by simp [hy]))]
def More (h1 h : H) : Prop := ∀ (i : Nat) (b : B), get? h i = some b → b ≠ .no → get? h1 i = some b
def Qt (P : Program) (x : X) (t : T) (h : H) (v : V) : Prop :=
 ∀ (t' : T) (h1 : H), (∀ s ∈ slots x, gs t' s = gs t s) → More h1 h → opx (Sat P) ow x t' h1 (fun v' t'' h' => v' = v ∧ t'' = t' ∧ h' = h1) (fun _ _ _ => False)
theorem qx_all {x : X} (hq : qx (Sat P) ow x t h K) : ∃ v, K v ∧ Qt ow P x t h v := by
  cases x <;> simp only [qx] at hq <;> try (exact hq.elim)
  case mv x =>
    refine ⟨_, hq, fun t' _ ht _ => ?_⟩
    simp only [opx, gv_c (x := x) ht, true_and]
  case pk c x y =>
    simp only [opx] at hq
    split at hq
    · rename_i b hb
      cases b
      · refine ⟨_, hq, fun t' _ ht _ => ?_⟩
        simp only [slots, List.mem_append] at ht
        simp only [opx, gv_c (x := c) (fun s hs => ht s (.inl (.inl hs))), gv_c (x := y) (fun s hs => ht s (.inr hs)), hb, sp, true_and]
      · refine ⟨_, hq, fun t' _ ht _ => ?_⟩
        simp only [slots, List.mem_append] at ht
        simp only [opx, gv_c (x := c) (fun s hs => ht s (.inl (.inl hs))), gv_c (x := x) (fun s hs => ht s (.inl (.inr hs))), hb, sp, true_and]
    · exact hq.elim
  case bd zero ps =>
    simp only [opx, fl_eq] at hq
    refine ⟨_, hq.2, fun t' _ ht _ => ?_⟩
    have hg : ∀ p ∈ ps, gv t' p.2.2 = gv t p.2.2 := fun p hp => gv_c fun s hs => ht s (by simp only [slots, List.mem_flatMap]; exact ⟨p, hp, hs⟩)
    simp only [opx, fl_eq]
    rw [foldl_c (f := fun cs (p : Nat × Nat × O) => lay cs p.1 (gv t' p.2.2).cs) (g := fun cs p => lay cs p.1 (gv t p.2.2).cs) ps zero (fun p hp b => by rw [hg p hp]),
      all_c (g := fun p => Nat.beq (gv t p.2.2).cs.length p.2.1 && Nat.ble (p.1 + p.2.1) zero.length && (gv t p.2.2).cs.all stor) ps (fun p hp => by rw [hg p hp])]
    exact ⟨hq.1, by simp only [and_self]⟩
  case bs z zero n ps =>
    simp only [fl_eq] at hq
    obtain ⟨h1, h2⟩ := hq
    obtain ⟨ds, h3, h4⟩ := frz_q _ _ h2
    refine ⟨_, h3, fun t' _ ht _ => ?_⟩
    have hg : ∀ p ∈ ps, gv t' p.2 = gv t p.2 := fun p hp => gv_c fun s hs => ht s (by simp only [slots, List.mem_flatMap]; exact ⟨p, hp, hs⟩)
    simp only [opx, fl_eq]
    rw [foldl_c (f := fun cs (p : Nat × O) => lay cs (p.1 * z) (gv t' p.2).cs) (g := fun cs p => lay cs (p.1 * z) (gv t p.2).cs) ps _ (fun p hp b => by rw [hg p hp]),
      all_c (g := fun p => Nat.beq (gv t p.2).cs.length z && Nat.ble (p.1 * z + z) (n * z) && (gv t p.2).cs.all stor) ps (fun p hp => by rw [hg p hp])]
    exact ⟨h1, h4 _ _ _ (bsn_data (by simp only [and_self]))⟩
  case ld x nn =>
    have e1 : ∀ t' : T, (∀ s ∈ slots (.ld x nn), gs t' s = gs t s) → gv t' x = gv t x := fun t' ht => gv_c fun s hs => ht s (by simp [slots, hs])
    simp only [opx, fl_eq] at hq
    split at hq
    · rename_i id off hx
      split at hq
      · rename_i cs hg
        split at hq
        · split at hq
          · rename_i v hv
            exact ⟨_, hq, fun t' _ ht hM => by simp only [opx, e1 t' ht, hx, hM _ _ hg (by simp), hv, and_self]⟩
          · exact hq.elim
        · exact ⟨_, hq.2, fun t' _ ht hM => by simp only [opx, fl_eq, e1 t' ht, hx, hM _ _ hg (by simp), and_self]; exact ⟨hq.1, trivial⟩⟩
      · exact hq.elim
    · rename_i row off hx
      split at hq
      · split at hq
        · rename_i v hv
          exact ⟨_, hq, fun t' _ ht _ => by simp only [opx, e1 t' ht, hx, hv, and_self]⟩
        · exact hq.elim
      · exact ⟨_, hq.2, fun t' _ ht _ => by simp only [opx, fl_eq, e1 t' ht, hx, and_self]; exact ⟨hq.1, trivial⟩⟩
    · rename_i id z i off hx
      split at hq
      · rename_i z' rs hg
        obtain ⟨hz, row, hr, hq⟩ := hq
        split at hq
        · split at hq
          · rename_i v hv
            exact ⟨_, hq, fun t' _ ht hM => by simp only [opx, e1 t' ht, hx, hM _ _ hg (by simp)]; exact ⟨hz, row, hr, by simp only [hv, and_self]⟩⟩
          · exact hq.elim
        · exact ⟨_, hq.2, fun t' _ ht hM => by simp only [opx, fl_eq, e1 t' ht, hx, hM _ _ hg (by simp)]; exact ⟨hz, row, hr, hq.1, by simp only [and_self]⟩⟩
      · rename_i z' rs i' row hg
        obtain ⟨hz, hq⟩ := hq
        split at hq
        · split at hq
          · rename_i v hv
            exact ⟨_, hq, fun t' _ ht hM => by simp only [opx, e1 t' ht, hx, hM _ _ hg (by simp)]; exact ⟨hz, by simp only [hv, and_self]⟩⟩
          · exact hq.elim
        · exact hq.elim
      · exact hq.elim
    · exact hq.elim
  case fa x off =>
    have e1 : ∀ t' : T, (∀ s ∈ slots (.fa x off), gs t' s = gs t s) → gv t' x = gv t x := fun t' ht => gv_c fun s hs => ht s (by simp [slots, hs])
    simp only [opx, fnat_eq] at hq
    revert hq
    (repeat' split) <;> intro hq <;> (try (exact hq.elim))
    all_goals exact ⟨_, hq, fun t' _ ht _ => by simp only [opx, fnat_eq, e1 t' ht, *, and_self]⟩
  case ia x i z =>
    have e1 : ∀ t' : T, (∀ s ∈ slots (.ia x i z), gs t' s = gs t s) → gv t' x = gv t x := fun t' ht => gv_c fun s hs => ht s (by simp [slots, hs])
    have e2 : ∀ t' : T, (∀ s ∈ slots (.ia x i z), gs t' s = gs t s) → gv t' i = gv t i := fun t' ht => gv_c fun s hs => ht s (by simp [slots, hs])
    simp only [opx] at hq
    split at hq
    · rename_i k nn hi
      split at hq
      · rename_i z' rows hx
        obtain ⟨row, h1, h2⟩ := hq
        exact ⟨_, h2, fun t' _ ht _ => by simp only [opx, e1 t' ht, e2 t' ht, hx, hi]; exact ⟨row, h1, by simp only [and_self]⟩⟩
      · rename_i z' rows hx
        obtain ⟨row, h1, h2⟩ := hq
        exact ⟨_, h2, fun t' _ ht _ => by simp only [opx, e1 t' ht, e2 t' ht, hx, hi]; exact ⟨row, h1, by simp only [and_self]⟩⟩
      · rename_i id hx
        split at hq
        · rename_i z' rs hg
          exact ⟨_, hq.2, fun t' _ ht hM => by simp only [opx, e1 t' ht, e2 t' ht, hx, hi, hM _ _ hg (by simp)]; exact ⟨hq.1, by simp only [and_self]⟩⟩
        · exact hq.elim
      · exact hq.elim
    · exact hq.elim
  case ja x i z m =>
    have e1 : ∀ t' : T, (∀ s ∈ slots (.ja x i z m), gs t' s = gs t s) → gv t' x = gv t x := fun t' ht => gv_c fun s hs => ht s (by simp [slots, hs])
    have e2 : ∀ t' : T, (∀ s ∈ slots (.ja x i z m), gs t' s = gs t s) → gv t' i = gv t i := fun t' ht => gv_c fun s hs => ht s (by simp [slots, hs])
    simp only [opx, fnat_eq] at hq
    split at hq
    · rename_i k nn hi
      split at hq
      · rename_i row off hx
        obtain ⟨sub, h1, h2⟩ := hq
        exact ⟨_, h2, fun t' _ ht _ => by simp only [opx, e1 t' ht, e2 t' ht, hx, hi]; exact ⟨sub, h1, by simp only [and_self]⟩⟩
      · rename_i id off hx
        exact ⟨_, hq.2, fun t' _ ht _ => by simp only [opx, fnat_eq, e1 t' ht, e2 t' ht, hx, hi]; exact ⟨hq.1, by simp only [and_self]⟩⟩
      · exact hq.elim
    · exact hq.elim
  case ml x k ks zv ok =>
    have e1 : ∀ t' : T, (∀ s ∈ slots (.ml x k ks zv ok), gs t' s = gs t s) → gv t' x = gv t x := fun t' ht => gv_c fun s hs => ht s (by simp [slots, hs])
    have e2 : ∀ t' : T, (∀ s ∈ slots (.ml x k ks zv ok), gs t' s = gs t s) → gv t' k = gv t k := fun t' ht => gv_c fun s hs => ht s (by simp [slots, hs])
    cases hms : isMs h (gv t x)
    case true => rw [hms] at hq; exact hq.elim
    rw [hms] at hq
    simp only [cond_false, opx] at hq
    split at hq
    · rename_i id hx
      split at hq
      · rename_i es hg
        obtain ⟨h1, r, h2, h3⟩ := hq
        cases r with
        | none => exact ⟨_, h3, fun t' _ ht hM => by simp only [opx, e1 t' ht, e2 t' ht, hx, hM _ _ hg (by simp)]; exact ⟨h1, none, h2, by simp only [and_self]⟩⟩
        | some p => exact ⟨_, h3.2, fun t' _ ht hM => by simp only [opx, e1 t' ht, e2 t' ht, hx, hM _ _ hg (by simp)]; exact ⟨h1, some p, h2, h3.1, by simp only [and_self]⟩⟩
      · rename_i es hg
        obtain ⟨h1, r, h2, h3⟩ := hq
        cases r with
        | none => exact ⟨_, h3, fun t' _ ht hM => by simp only [opx, e1 t' ht, e2 t' ht, hx, hM _ _ hg (by simp)]; exact ⟨h1, none, h2, by simp only [and_self]⟩⟩
        | some p => exact ⟨_, h3.2, fun t' _ ht hM => by simp only [opx, e1 t' ht, e2 t' ht, hx, hM _ _ hg (by simp)]; exact ⟨h1, some p, h2, h3.1, by simp only [and_self]⟩⟩
      · rename_i es r l hg
        obtain ⟨h1, r, h2, h3⟩ := hq
        cases r with
        | none => exact ⟨_, h3, fun t' _ ht hM => by simp only [opx, e1 t' ht, e2 t' ht, hx, hM _ _ hg (by simp)]; exact ⟨h1, none, h2, by simp only [and_self]⟩⟩
        | some p => exact ⟨_, h3.2, fun t' _ ht hM => by simp only [opx, e1 t' ht, e2 t' ht, hx, hM _ _ hg (by simp)]; exact ⟨h1, some p, h2, h3.1, by simp only [and_self]⟩⟩
      · rename_i hg
        simp only [isMs, hx, hg] at hms
        cases hms
      · exact hq.elim
    · rename_i hx
      exact ⟨_, hq.2, fun t' _ ht _ => by simp only [opx, e1 t' ht, e2 t' ht, hx]; exact ⟨hq.1, by simp only [and_self]⟩⟩
    · exact hq.elim
  case pu f x =>
    have e1 : ∀ t' : T, (∀ s ∈ slots (.pu f x), gs t' s = gs t s) → gv t' x = gv t x := fun t' ht => gv_c fun s hs => ht s (by simp [slots, hs])
    simp only [opx] at hq
    split at hq
    · rename_i v hv
      exact ⟨_, hq, fun t' _ ht _ => by simp only [opx, e1 t' ht, hv, and_self]⟩
    · exact hq.elim
  case lm x =>
    have e1 : ∀ t' : T, (∀ s ∈ slots (.lm x), gs t' s = gs t s) → gv t' x = gv t x := fun t' ht => gv_c fun s hs => ht s (by simp [slots, hs])
    simp only [opx] at hq
    split at hq
    · rename_i id hx
      split at hq
      · rename_i es hg
        exact ⟨_, hq, fun t' _ ht hM => by simp only [opx, e1 t' ht, hx, hM _ _ hg (by simp), and_self]⟩
      · rename_i es hg
        exact ⟨_, hq, fun t' _ ht hM => by simp only [opx, e1 t' ht, hx, hM _ _ hg (by simp), and_self]⟩
      · rename_i hg
        exact ⟨_, hq, fun t' _ ht hM => by simp only [opx, e1 t' ht, hx, hM _ _ hg (by simp), and_self]⟩
      · rename_i hg
        exact ⟨_, hq, fun t' _ ht hM => by simp only [opx, e1 t' ht, hx, hM _ _ hg (by simp), and_self]⟩
      · exact hq.elim
    · rename_i hx
      exact ⟨_, hq, fun t' _ ht _ => by simp only [opx, e1 t' ht, hx, and_self]⟩
    · exact hq.elim
  case bin op x y =>
    have e1 : ∀ t' : T, (∀ s ∈ slots (.bin op x y), gs t' s = gs t s) → gv t' x = gv t x := fun t' ht => gv_c fun s hs => ht s (by simp [slots, hs])
    have e2 : ∀ t' : T, (∀ s ∈ slots (.bin op x y), gs t' s = gs t s) → gv t' y = gv t y := fun t' ht => gv_c fun s hs => ht s (by simp [slots, hs])
    simp only [opx] at hq
    split at hq
    · rename_i aa bb hx hy
      split at hq
      · exact ⟨_, hq.2, fun t' _ ht _ => by simp only [opx, e1 t' ht, e2 t' ht, hx, hy]; exact ⟨hq.1, by simp only [and_self]⟩⟩
      · exact hq.elim
    · rename_i k aa k' bb hx hy
      cases hsh : shf op
      rotate_left
      · rw [hsh] at hq
        simp only [cond_true] at hq
        exact ⟨_, hq.2, fun t' _ ht _ => by simp only [opx, e1 t' ht, e2 t' ht, hx, hy, hsh, cond_true]; exact ⟨hq.1, by simp only [and_self]⟩⟩
      rw [hsh] at hq
      simp only [cond_false] at hq
      cases hk : Nat.beq (kn k) (kn k')
      · rw [hk] at hq; exact hq.elim
      · rw [hk] at hq
        simp only [cond_true] at hq
        split at hq <;> (try (exact hq.elim))
        · rcases hq with hq | hq
          · exact ⟨_, hq.2, fun t' _ ht _ => by simp only [opx, e1 t' ht, e2 t' ht, hx, hy, hsh, cond_false, hk, cond_true, ari]; exact .inl ⟨hq.1, by simp only [and_self]⟩⟩
          · exact ⟨_, hq, fun t' _ ht _ => by simp only [opx, e1 t' ht, e2 t' ht, hx, hy, hsh, cond_false, hk, cond_true, ari]; exact .inr (by simp only [and_self])⟩
        · rcases hq with hq | hq
          · exact ⟨_, hq.2, fun t' _ ht _ => by simp only [opx, e1 t' ht, e2 t' ht, hx, hy, hsh, cond_false, hk, cond_true, ari]; exact .inl ⟨hq.1, by simp only [and_self]⟩⟩
          · exact ⟨_, hq, fun t' _ ht _ => by simp only [opx, e1 t' ht, e2 t' ht, hx, hy, hsh, cond_false, hk, cond_true, ari]; exact .inr (by simp only [and_self])⟩
        · rcases hq with hq | hq
          · exact ⟨_, hq.2, fun t' _ ht _ => by simp only [opx, e1 t' ht, e2 t' ht, hx, hy, hsh, cond_false, hk, cond_true, ari]; exact .inl ⟨hq.1, by simp only [and_self]⟩⟩
          · exact ⟨_, hq, fun t' _ ht _ => by simp only [opx, e1 t' ht, e2 t' ht, hx, hy, hsh, cond_false, hk, cond_true, ari]; exact .inr (by simp only [and_self])⟩
        · obtain ⟨h0, hq⟩ := hq
          rcases hq with hq | hq
          · exact ⟨_, hq.2, fun t' _ ht _ => by simp only [opx, e1 t' ht, e2 t' ht, hx, hy, hsh, cond_false, hk, cond_true, ari]; exact ⟨h0, .inl ⟨hq.1, by simp only [and_self]⟩⟩⟩
          · exact ⟨_, hq, fun t' _ ht _ => by simp only [opx, e1 t' ht, e2 t' ht, hx, hy, hsh, cond_false, hk, cond_true, ari]; exact ⟨h0, .inr (by simp only [and_self])⟩⟩
        · exact ⟨_, hq.2, fun t' _ ht _ => by simp only [opx, e1 t' ht, e2 t' ht, hx, hy, hsh, cond_false, hk, cond_true]; exact ⟨hq.1, by simp only [and_self]⟩⟩
        all_goals exact ⟨_, hq, fun t' _ ht _ => by simp only [opx, e1 t' ht, e2 t' ht, hx, hy, hsh, cond_false, hk, cond_true, and_self]⟩
    · exact hq.elim
  case eq ne st ks x y =>
    have e1 : ∀ t' : T, (∀ s ∈ slots (.eq ne st ks x y), gs t' s = gs t s) → gv t' x = gv t x := fun t' ht => gv_c fun s hs => ht s (by simp [slots, hs])
    have e2 : ∀ t' : T, (∀ s ∈ slots (.eq ne st ks x y), gs t' s = gs t s) → gv t' y = gv t y := fun t' ht => gv_c fun s hs => ht s (by simp [slots, hs])
    simp only [opx] at hq
    obtain ⟨h1, hq⟩ := hq
    unfold eqx at hq
    split at hq
    · rename_i e he
      exact ⟨_, hq, fun t' _ ht _ => by simp only [opx, e1 t' ht, e2 t' ht, eqx, he, and_self, and_true]; exact h1⟩
    · exact hq.elim
  case un op x =>
    have e1 : ∀ t' : T, (∀ s ∈ slots (.un op x), gs t' s = gs t s) → gv t' x = gv t x := fun t' ht => gv_c fun s hs => ht s (by simp [slots, hs])
    simp only [opx] at hq
    split at hq
    · rename_i b hx
      exact ⟨_, hq, fun t' _ ht _ => by simp only [opx, e1 t' ht, hx, and_self]⟩
    · rename_i k aa hx
      rcases hq with hq | hq
      · exact ⟨_, hq.2, fun t' _ ht _ => by simp only [opx, e1 t' ht, hx, ari]; exact .inl ⟨hq.1, by simp only [and_self]⟩⟩
      · exact ⟨_, hq, fun t' _ ht _ => by simp only [opx, e1 t' ht, hx, ari]; exact .inr (by simp only [and_self])⟩
    · exact hq.elim
  case cv k x =>
    have e1 : ∀ t' : T, (∀ s ∈ slots (.cv k x), gs t' s = gs t s) → gv t' x = gv t x := fun t' ht => gv_c fun s hs => ht s (by simp [slots, hs])
    simp only [opx] at hq
    split at hq
    · rename_i k' aa hx
      rcases hq with hq | hq
      · exact ⟨_, hq.2, fun t' _ ht _ => by simp only [opx, e1 t' ht, hx, ari]; exact .inl ⟨hq.1, by simp only [and_self]⟩⟩
      · exact ⟨_, hq, fun t' _ ht _ => by simp only [opx, e1 t' ht, hx, ari]; exact .inr (by simp only [and_self])⟩
    · exact hq.elim
  case ln x =>
    have e1 : ∀ t' : T, (∀ s ∈ slots (.ln x), gs t' s = gs t s) → gv t' x = gv t x := fun t' ht => gv_c fun s hs => ht s (by simp [slots, hs])
    split at hq
    · rename_i z r hx
      exact ⟨_, hq, fun t' _ ht _ => by simp only [opx, e1 t' ht, hx]; exact fun _ => by simp only [and_self]⟩
    · rename_i z r hx
      exact ⟨_, hq, fun t' _ ht _ => by simp only [opx, e1 t' ht, hx]; exact fun _ => by simp only [and_self]⟩
    · rename_i id hx
      split at hq
      · rename_i z r hg
        exact ⟨_, hq, fun t' _ ht hM => by simp only [opx, e1 t' ht, hx, hM _ _ hg (by simp)]; exact fun _ => by simp only [and_self]⟩
      · exact hq.elim
    · exact hq.elim
  case ls x =>
    have e1 : ∀ t' : T, (∀ s ∈ slots (.ls x), gs t' s = gs t s) → gv t' x = gv t x := fun t' ht => gv_c fun s hs => ht s (by simp [slots, hs])
    split at hq
    · rename_i r hx
      exact ⟨_, hq, fun t' _ ht _ => by simp only [opx, e1 t' ht, hx]; exact fun _ => by simp only [and_self]⟩
    · exact hq.elim
  case mn x y =>
    have e1 : ∀ t' : T, (∀ s ∈ slots (.mn x y), gs t' s = gs t s) → gv t' x = gv t x := fun t' ht => gv_c fun s hs => ht s (by simp [slots, hs])
    have e2 : ∀ t' : T, (∀ s ∈ slots (.mn x y), gs t' s = gs t s) → gv t' y = gv t y := fun t' ht => gv_c fun s hs => ht s (by simp [slots, hs])
    simp only [opx] at hq
    split at hq
    · rename_i k aa k' bb hx hy
      exact ⟨_, hq, fun t' _ ht _ => by simp only [opx, e1 t' ht, e2 t' ht, hx, hy, and_self]⟩
    · exact hq.elim
  case mx x y =>
    have e1 : ∀ t' : T, (∀ s ∈ slots (.mx x y), gs t' s = gs t s) → gv t' x = gv t x := fun t' ht => gv_c fun s hs => ht s (by simp [slots, hs])
    have e2 : ∀ t' : T, (∀ s ∈ slots (.mx x y), gs t' s = gs t s) → gv t' y = gv t y := fun t' ht => gv_c fun s hs => ht s (by simp [slots, hs])
    simp only [opx] at hq
    split at hq
    · rename_i k aa k' bb hx hy
      exact ⟨_, hq, fun t' _ ht _ => by simp only [opx, e1 t' ht, e2 t' ht, hx, hy, and_self]⟩
    · exact hq.elim
  case ex x i =>
    have e1 : ∀ t' : T, (∀ s ∈ slots (.ex x i), gs t' s = gs t s) → gv t' x = gv t x := fun t' ht => gv_c fun s hs => ht s (by simp [slots, hs])
    simp only [opx] at hq
    revert hq
    (repeat' split) <;> intro hq <;> (try (exact hq.elim))
    all_goals exact ⟨_, hq, fun t' _ ht _ => by simp only [opx, e1 t' ht, *, and_self]⟩
  case nc x =>
    have e1 : ∀ t' : T, (∀ s ∈ slots (.nc x), gs t' s = gs t s) → gv t' x = gv t x := fun t' ht => gv_c fun s hs => ht s (by simp [slots, hs])
    simp only [opx] at hq
    revert hq
    (repeat' split) <;> intro hq <;> (try (exact hq.elim))
    all_goals first
      | exact ⟨_, hq, fun t' _ ht _ => by simp only [opx, e1 t' ht, *, and_self]⟩
      | (rename_i f c hg
         cases hb : Nat.blt f 2000000 <;> rw [hb] at hq
         · exact hq.elim
         · exact ⟨_, hq, fun t' _ ht _ => by simp only [opx, e1 t' ht, hg, hb, cond_true, and_self]⟩)
  case ix x i =>
    have e1 : ∀ t' : T, (∀ s ∈ slots (.ix x i), gs t' s = gs t s) → gv t' x = gv t x := fun t' ht => gv_c fun s hs => ht s (by simp [slots, hs])
    have e2 : ∀ t' : T, (∀ s ∈ slots (.ix x i), gs t' s = gs t s) → gv t' i = gv t i := fun t' ht => gv_c fun s hs => ht s (by simp [slots, hs])
    simp only [opx] at hq
    split at hq
    · rename_i s k m hx hi
      obtain ⟨b, h1, h2⟩ := hq
      exact ⟨_, h2, fun t' _ ht _ => by simp only [opx, e1 t' ht, e2 t' ht, hx, hi]; exact ⟨b, h1, by simp only [and_self]⟩⟩
    · exact hq.elim
  case mf f caps =>
    simp only [opx, fl_eq] at hq
    refine ⟨_, hq.2, fun t' _ ht _ => ?_⟩
    have hg : ∀ p ∈ caps, gv t' p = gv t p := fun p hp => gv_c fun s hs => ht s (by simp only [slots, List.mem_flatMap]; exact ⟨p, hp, hs⟩)
    simp only [opx, fl_eq]
    rw [List.map_congr_left hg, all_c (g := fun x => capb (gv t x)) caps (fun p hp => by rw [hg p hp])]
    exact ⟨hq.1, by simp only [and_self]⟩
  case cf f args =>
    simp only [fl_eq] at hq
    obtain ⟨h0, r, h2, h3⟩ := hq
    refine ⟨r, h3, fun t' h1 ht _ => ?_⟩
    have hg : ∀ p ∈ args, clean1 (gv t' p) = clean1 (gv t p) := fun p hp => by rw [gv_c fun s hs => ht s (by simp only [slots, List.mem_flatMap]; exact ⟨p, hp, hs⟩)]
    simp only [opx, fl_eq]
    rw [List.map_congr_left hg]
    have h4 := List.isEmpty_iff.1 h0
    have h6 : callx (Sat P) f (args.map fun a => clean1 (gv t a)) t' h1 (fun v' t'' h' => v' = r ∧ t'' = t' ∧ h' = h1) (fun _ _ _ => False) := by
      simp only [callx, h4]
      exact h2.mono fun o h' ⟨g1, g2⟩ => by subst g1 g2; simp only [and_self]
    cases ow f
    · simp only [gcall, h4, cond_false]
      exact h6
    · exact h6
  case ap x y z b =>
    have e1 : ∀ t' : T, (∀ s ∈ slots (.ap x y z b), gs t' s = gs t s) → nlv t' x = nlv t x := fun t' ht => by
      have := gv_c (t := t) (t' := t') (x := x) fun s hs => ht s (by simp [slots, hs])
      cases x with
      | s i => exact this
      | g i => exact this
      | k v => cases v <;> first | exact this | rfl
    have e2 : ∀ t' : T, (∀ s ∈ slots (.ap x y z b), gs t' s = gs t s) → gv t' y = gv t y := fun t' ht => gv_c fun s hs => ht s (by simp [slots, hs])
    split at hq
    · rename_i z' r hx
      have eg : nlv t (.k (.cl z' r)) = .cl z' r := rfl
      simp only [opx, eg] at hq
      split at hq
      · rename_i z'' ys hy
        exact ⟨_, hq.2, fun t' _ ht _ => by simp only [opx, e1 t' ht, e2 t' ht, hx, hy]; exact ⟨hq.1, by simp only [and_self]⟩⟩
      · rename_i z'' ys hy
        exact ⟨_, hq.2, fun t' _ ht _ => by simp only [opx, e1 t' ht, e2 t' ht, hx, hy]; exact ⟨hq.1, by simp only [and_self]⟩⟩
      · exact hq.elim
    · rename_i z0 hx
      split at hq
      · rename_i z'' ys hy
        exact ⟨_, hq.2, fun t' _ ht _ => by simp only [opx, e1 t' ht, e2 t' ht, hx, hy]; exact ⟨hq.1, apn_data (by simp only [and_self])⟩⟩
      · rename_i z'' ys hy
        exact ⟨_, hq.2, fun t' _ ht _ => by simp only [opx, e1 t' ht, e2 t' ht, hx, hy]; exact ⟨hq.1, apn_data (by simp only [and_self])⟩⟩
      · exact hq.elim
    · exact hq.elim
  case ss x lo hi =>
    have e1 : ∀ t' : T, (∀ s ∈ slots (.ss x lo hi), gs t' s = gs t s) → gv t' x = gv t x := fun t' ht => gv_c fun s hs => ht s (by simp [slots, hs])
    have e2 : ∀ t' : T, (∀ s ∈ slots (.ss x lo hi), gs t' s = gs t s) → ∀ u, lo = some u → gv t' u = gv t u := fun t' ht u hu => gv_c fun s hs => ht s (by simp [slots, soo, hs, hu])
    have e3 : ∀ t' : T, (∀ s ∈ slots (.ss x lo hi), gs t' s = gs t s) → ∀ u, hi = some u → gv t' u = gv t u := fun t' ht u hu => gv_c fun s hs => ht s (by simp [slots, soo, hs, hu])
    cases lo with
    | none =>
      simp only [opx] at hq
      split at hq
      · rename_i k l hl
        cases hl
        split at hq
        · rename_i r hx
          exact ⟨_, hq.2, fun t' _ ht _ => by simp only [opx, e1 t' ht, hx]; exact ⟨hq.1, by simp only [and_self]⟩⟩
        · exact hq.elim
      · rename_i k l hi hl
        cases hl
        split at hq
        · rename_i k' u hu
          split at hq
          · rename_i r hx
            exact ⟨_, hq.2, fun t' _ ht _ => by simp only [opx, e1 t' ht, e3 t' ht _ rfl, hu, hx]; exact ⟨hq.1, by simp only [and_self]⟩⟩
          · exact hq.elim
        · exact hq.elim
      · exact hq.elim
    | some lo =>
      simp only [opx] at hq
      split at hq
      · rename_i k l hl
        split at hq
        · rename_i r hx
          exact ⟨_, hq.2, fun t' _ ht _ => by simp only [opx, e1 t' ht, e2 t' ht _ rfl, hl, hx]; exact ⟨hq.1, by simp only [and_self]⟩⟩
        · exact hq.elim
      · rename_i k l hi hl
        split at hq
        · rename_i k' u hu
          split at hq
          · rename_i r hx
            exact ⟨_, hq.2, fun t' _ ht _ => by simp only [opx, e1 t' ht, e2 t' ht _ rfl, e3 t' ht _ rfl, hl, hu, hx]; exact ⟨hq.1, by simp only [and_self]⟩⟩
          · exact hq.elim
        · exact hq.elim
      · exact hq.elim
  case s3 x lo hi m z =>
    replace hq : (∀ i, gv t x ≠ .os i) ∧ opx (Sat P) ow (.s3 x lo hi m z) t h (fun v _ _ => K v) fun _ _ _ => False := by
      split at hq
      · exact hq.elim
      · rename_i hno
        exact ⟨hno, hq⟩
    obtain ⟨hno, hq⟩ := hq
    have hno' : ∀ i, dv (gv t x) ≠ .os i := fun i hi => by
      cases hg : gv t x <;> rw [hg] at hi <;> simp only [dv, reduceCtorEq, V.os.injEq] at hi
      subst hi
      exact hno _ hg
    have e1 : ∀ t' : T, (∀ s ∈ slots (.s3 x lo hi m z), gs t' s = gs t s) → gv t' x = gv t x := fun t' ht => gv_c fun s hs => ht s (by simp [slots, hs])
    have e2 : ∀ t' : T, (∀ s ∈ slots (.s3 x lo hi m z), gs t' s = gs t s) → ∀ u, lo = some u → gv t' u = gv t u := fun t' ht u hu => gv_c fun s hs => ht s (by simp [slots, soo, hs, hu])
    have e3 : ∀ t' : T, (∀ s ∈ slots (.s3 x lo hi m z), gs t' s = gs t s) → ∀ u, hi = some u → gv t' u = gv t u := fun t' ht u hu => gv_c fun s hs => ht s (by simp [slots, soo, hs, hu])
    have e4 : ∀ t' : T, (∀ s ∈ slots (.s3 x lo hi m z), gs t' s = gs t s) → ∀ u, m = some u → gv t' u = gv t u := fun t' ht u hu => gv_c fun s hs => ht s (by simp [slots, soo, hs, hu])
    cases lo with
    | none =>
      simp only [opx] at hq
      split at hq
      · rename_i k l hl
        cases hl
        split at hq
        · rename_i z' r hx
          exact ⟨_, hq.2, fun t' _ ht _ => by simp only [opx, e1 t' ht, hx]; exact ⟨hq.1, by simp only [and_self]⟩⟩
        · rename_i z' r hx
          exact ⟨_, hq.2, fun t' _ ht _ => by simp only [opx, e1 t' ht, hx]; exact ⟨hq.1, by simp only [and_self]⟩⟩
        · rename_i i hx; exact absurd hx (hno' i)
        · exact hq.elim
      · rename_i k l hi hl
        cases hl
        split at hq
        · rename_i k' u hu
          split at hq
          · rename_i z' r hx
            exact ⟨_, hq.2, fun t' _ ht _ => by simp only [opx, e1 t' ht, e3 t' ht _ rfl, hu, hx]; exact ⟨hq.1, by simp only [and_self]⟩⟩
          · rename_i z' r hx
            exact ⟨_, hq.2, fun t' _ ht _ => by simp only [opx, e1 t' ht, e3 t' ht _ rfl, hu, hx]; exact ⟨hq.1, by simp only [and_self]⟩⟩
          · rename_i i hx; exact absurd hx (hno' i)
          · exact hq.elim
        · exact hq.elim
      · rename_i k l hi m hl
        cases hl
        split at hq
        · rename_i k' u k'' u' hu hm
          split at hq
          · rename_i z' r hx
            exact ⟨_, hq.2, fun t' _ ht _ => by simp only [opx, e1 t' ht, e3 t' ht _ rfl, e4 t' ht _ rfl, hu, hm, hx]; exact ⟨hq.1, by simp only [and_self]⟩⟩
          · rename_i z' r hx
            exact ⟨_, hq.2, fun t' _ ht _ => by simp only [opx, e1 t' ht, e3 t' ht _ rfl, e4 t' ht _ rfl, hu, hm, hx]; exact ⟨hq.1, by simp only [and_self]⟩⟩
          · exact hq.elim
        · exact hq.elim
      · exact hq.elim
    | some lo =>
      simp only [opx] at hq
      split at hq
      · rename_i k l hl
        split at hq
        · rename_i z' r hx
          exact ⟨_, hq.2, fun t' _ ht _ => by simp only [opx, e1 t' ht, e2 t' ht _ rfl, hl, hx]; exact ⟨hq.1, by simp only [and_self]⟩⟩
        · rename_i z' r hx
          exact ⟨_, hq.2, fun t' _ ht _ => by simp only [opx, e1 t' ht, e2 t' ht _ rfl, hl, hx]; exact ⟨hq.1, by simp only [and_self]⟩⟩
        · rename_i i hx; exact absurd hx (hno' i)
        · exact hq.elim
      · rename_i k l hi hl
        split at hq
        · rename_i k' u hu
          split at hq
          · rename_i z' r hx
            exact ⟨_, hq.2, fun t' _ ht _ => by simp only [opx, e1 t' ht, e2 t' ht _ rfl, e3 t' ht _ rfl, hl, hu, hx]; exact ⟨hq.1, by simp only [and_self]⟩⟩
          · rename_i z' r hx
            exact ⟨_, hq.2, fun t' _ ht _ => by simp only [opx, e1 t' ht, e2 t' ht _ rfl, e3 t' ht _ rfl, hl, hu, hx]; exact ⟨hq.1, by simp only [and_self]⟩⟩
          · rename_i i hx; exact absurd hx (hno' i)
          · exact hq.elim
        · exact hq.elim
      · rename_i k l hi m hl
        split at hq
        · rename_i k' u k'' u' hu hm
          split at hq
          · rename_i z' r hx
            exact ⟨_, hq.2, fun t' _ ht _ => by simp only [opx, e1 t' ht, e2 t' ht _ rfl, e3 t' ht _ rfl, e4 t' ht _ rfl, hl, hu, hm, hx]; exact ⟨hq.1, by simp only [and_self]⟩⟩
          · rename_i z' r hx
            exact ⟨_, hq.2, fun t' _ ht _ => by simp only [opx, e1 t' ht, e2 t' ht _ rfl, e3 t' ht _ rfl, e4 t' ht _ rfl, hl, hu, hm, hx]; exact ⟨hq.1, by simp only [and_self]⟩⟩
          · exact hq.elim
        · exact hq.elim
      · exact hq.elim
end
end Go.Vx
namespace Go.Vx
section
variable {P : Program} {E : Ent} {n : Nat} {G : Nat → Prop} {ρ : List Value} {t : T} {h : H} {a : Act} {w : World} {o : Oper} {nxt : Act → World → Prop} {Q : Exit → Act → World → Prop}
theorem compO_al {P : Program} {ty : TypeId} {op : Op} {cs : List V} (h : compO P ty op = some (.al cs)) : ∃ t, op = .alloc t ∧ zer P t = some cs := by
  cases op
  case alloc t =>
    have al : (zer P t).map X.al = some (.al cs) → ∃ t', Op.alloc t = .alloc t' ∧ zer P t' = some cs := fun h => by
      simp only [Option.map_eq_some_iff, X.al.injEq] at h
      obtain ⟨x, hx, rfl⟩ := h
      exact ⟨t, rfl, hx⟩
    simp only [compO] at h
    split at h
    · split at h
      · simp only [Option.bind_eq_bind, Option.bind_eq_some_iff] at h
        obtain ⟨zs, hz, h⟩ := h
        repeat' split at h
        all_goals cases h
      · exact al h
    · exact al h
  all_goals
    exfalso
    simp only [compO] at h
    repeat' split at h
    all_goals
      first
        | contradiction
        | (simp [Option.bind_eq_some_iff] at h; done)
        | (simp [Option.bind_eq_some_iff] at h
           obtain ⟨_, _, _, _, h⟩ := h
           (repeat' split at h) <;> simp at h)
        | (simp [Option.bind_eq_some_iff] at h
           obtain ⟨_, _, _, _, _, h⟩ := h
           (repeat' split at h) <;> simp at h)
        | (simp [Option.bind_eq_some_iff] at h
           obtain ⟨_, _, h⟩ := h
           (repeat' split at h) <;> simp at h)
theorem compO_cf {P : Program} {ty : TypeId} {op : Op} {f : Nat} {oa : List O} (h : compO P ty op = some (.cf f oa)) : ∃ c, op = .call c ∧ c.callee = .value (.func f) ∧ f < 5000000 ∧ args P c.args.toList c.argTypes.toList = some oa := by
  cases op
  case call c =>
    obtain ⟨callee, as, ts⟩ := c
    cases callee with
    | value x =>
      cases x <;> simp only [compO] at h
      case func g =>
        split at h
        · rename_i hlt
          simp only [Option.map_eq_some_iff, X.cf.injEq] at h
          obtain ⟨oa, ha, rfl, rfl⟩ := h
          exact ⟨_, rfl, rfl, hlt, ha⟩
        · cases h
      all_goals
        simp [Option.bind_eq_some_iff] at h
    | invoke r m => cases h
    | builtin b =>
      exfalso
      cases b <;> simp only [compO] at h <;> (repeat' split at h) <;> first
        | contradiction
        | (simp [Option.bind_eq_some_iff] at h; done)
        | (simp [Option.bind_eq_some_iff] at h
           obtain ⟨_, _, h⟩ := h
           (repeat' split at h) <;> simp at h)
        | (simp [Option.bind_eq_some_iff] at h
           obtain ⟨_, _, _, _, h⟩ := h
           (repeat' split at h) <;> simp at h)
  all_goals
    exfalso
    simp only [compO] at h
    repeat' split at h
    all_goals
      first
        | contradiction
        | (simp [Option.bind_eq_some_iff] at h; done)
        | (simp [Option.bind_eq_some_iff] at h
           obtain ⟨_, _, _, _, h⟩ := h
           (repeat' split at h) <;> simp at h)
        | (simp [Option.bind_eq_some_iff] at h
           obtain ⟨_, _, _, _, _, h⟩ := h
           (repeat' split at h) <;> simp at h)
        | (simp [Option.bind_eq_some_iff] at h
           obtain ⟨_, _, h⟩ := h
           (repeat' split at h) <;> simp at h)
theorem compO_mm {P : Program} {ty : TypeId} {op : Op} {pl : Nat} (h : compO P ty op = some (.mm pl)) : ∃ t, op = .makeMap t none := by
  cases op
  case makeMap t r =>
    cases r with
    | none => exact ⟨t, rfl⟩
    | some r => simp only [compO] at h; cases h
  all_goals
    exfalso
    simp only [compO] at h
    repeat' split at h
    all_goals
      first
        | contradiction
        | (simp [Option.bind_eq_some_iff] at h; done)
        | (simp [Option.bind_eq_some_iff] at h
           obtain ⟨_, _, _, _, h⟩ := h
           (repeat' split at h) <;> simp at h)
        | (simp [Option.bind_eq_some_iff] at h
           obtain ⟨_, _, _, _, _, h⟩ := h
           (repeat' split at h) <;> simp at h)
        | (simp [Option.bind_eq_some_iff] at h
           obtain ⟨_, _, h⟩ := h
           (repeat' split at h) <;> simp at h)
def Ref1 (ρ : List Value) (i : Nat) : Prop := ∃ v, ρ[i]? = some v ∧ v ≠ undef
theorem RepK.ref {v : Value} {x : V} (h : RepK G w ρ v x) : ∀ i ∈ idc x, Ref1 ρ i := by
 cases h <;> simp only [idc, List.not_mem_nil, false_imp_iff, implies_true, List.mem_singleton, forall_eq] <;> (try exact ⟨_, ‹_›, by simp [undef]⟩)
theorem RepC.ref {v : Value} {x : V} (h : RepC G w ρ v x) : ∀ i ∈ id0 x, Ref1 ρ i := by
 cases h with
 | k h => intro i hi; exact h.ref i (by cases h <;> simpa [id0] using hi)
 | fc f u cs caps h0 h1 h2 =>
  intro i hi
  simp only [id0, List.mem_flatMap] at hi
  obtain ⟨x, hx, hi⟩ := hi
  obtain ⟨j, hxj⟩ := List.mem_iff_getElem?.1 hx
  exact (h2 j x hxj).ref i hi
theorem Rep1.ref {v : Value} {x : V} (h : Rep1 G w ρ v x) : ∀ i ∈ id1 x, Ref1 ρ i := by
 cases h with
 | c h =>
  intro i hi
  refine h.ref i ?_
  cases h with
  | k h => cases h <;> simpa [id1] using hi
  | fc => simpa [id1] using hi
 | ag cs vs h1 h2 =>
  intro i hi
  simp only [id1, List.mem_flatMap] at hi
  obtain ⟨x, hx, hi⟩ := hi
  obtain ⟨j, hxj⟩ := List.mem_iff_getElem?.1 hx
  exact (h2 j x hxj).ref i hi
theorem Rep2.ref {v : Value} {x : V} (h : Rep2 G w ρ v x) : ∀ i ∈ id2 x, Ref1 ρ i := by
 cases h with
 | o h =>
  intro i hi
  refine h.ref i ?_
  cases h with
  | c h => cases h with
   | k h => cases h <;> simpa [id2] using hi
   | fc => simpa [id2] using hi
  | ag cs vs h1 h2 => simpa [id2] using hi
 | tu cs vs h1 h2 =>
  intro i hi
  simp only [id2, List.mem_flatMap] at hi
  obtain ⟨x, hx, hi⟩ := hi
  obtain ⟨j, hxj⟩ := List.mem_iff_getElem?.1 hx
  exact (h2 j x hxj).ref i hi
theorem RepB.ref {hd : Value} {x : B} (h : RepB G w ρ hd x) : ∀ i ∈ idB x, Ref1 ρ i := by
 cases x with
 | no => simp [idB]
 | nw => simp [idB]
 | cells cs =>
  obtain ⟨b, arr, ty, rfl, h1, h2, h3⟩ := h
  intro i hi
  simp only [idB, List.mem_flatMap] at hi
  obtain ⟨x, hx, hi⟩ := hi
  obtain ⟨j, hxj⟩ := List.mem_iff_getElem?.1 hx
  exact (h3 j x hxj).ref i hi
 | mp es =>
  obtain ⟨r, arr, clk, rfl, h1, h2, h3, h4⟩ := h
  intro i hi
  simp only [idB, List.mem_flatMap] at hi
  obtain ⟨x, hx, hi⟩ := hi
  obtain ⟨j, hxj⟩ := List.mem_iff_getElem?.1 hx
  have hj : j < arr.size := by rw [h2]; exact (List.getElem?_eq_some_iff.1 hxj).1
  rcases List.mem_append.1 hi with hi | hi
  ·exact (h4 j _ x (Array.getElem?_eq_getElem hj) hxj).1.ref i hi
  ·exact (h4 j _ x (Array.getElem?_eq_getElem hj) hxj).2.ref i hi
 | dm es => simp [idB]
 | di es r l => simp [idB]
 | ms z es out it =>
  obtain ⟨⟨r, arr, clk, rfl, h1, h2, h3, h4, h5, h6, h7⟩, _⟩ := h
  intro i hi
  match out, hi, h6, h7 with
  | some (j, v), hi, h6, h7 =>
   have hj : j < arr.size := by rw [h2]; exact h6 j v rfl
   exact (h7 j v _ rfl (Array.getElem?_eq_getElem hj)).ref i hi
 | rows z rs => simp [idB]
 | rx z rs k r =>
  obtain ⟨b, cap, arr, ty, rfl, h1, h2, h3, h4, h0, h5, h6⟩ := h
  intro i hi
  simp only [idB, List.mem_flatMap] at hi
  obtain ⟨x, hx, hi⟩ := hi
  obtain ⟨j, hxj⟩ := List.mem_iff_getElem?.1 hx
  exact (h6 j x hxj).ref i hi
theorem Conc.place (hC : Conc E n G ρ t h a w) {id : Nat} (hx : h[id]? = some .nw) (hid : E.ρ.length ≤ id) {hd : Value} {x : B} (hb : RepB G w ρ hd x) (hf : ∀ b ∈ bks hd x, E.w.heap.size ≤ b ∧ ¬ G b ∧ ¬ own ρ h b) :
  Conc E n G (ρ.set id hd) t (h.set id x) a w := by
 have hO := hC.ok
 have hil : id < ρ.length := by rw [hO.hr.len]; exact (List.getElem?_eq_some_iff.1 hx).1
 have hihl : id < h.length := (List.getElem?_eq_some_iff.1 hx).1
 have hu : ρ[id]? = some undef := by
  have := hO.hr.rep id _ _ (List.getElem?_eq_getElem hil) hx
  rw [List.getElem?_eq_getElem hil]
  exact congrArg some this
 have hne : ∀ j, Ref1 ρ j → j ≠ id := by
  rintro j ⟨v, h1, h2⟩ rfl
  rw [hu] at h1
  cases h1
  exact h2 rfl
 have hg : ∀ j, Ref1 ρ j → (ρ.set id hd)[j]? = ρ[j]? := fun j hj => by rw [List.getElem?_set, if_neg (fun e => hne j hj e.symm)]
 have get : ∀ (j : Nat) (v : Value) (y : B), (ρ.set id hd)[j]? = some v → (h.set id x)[j]? = some y → (j ≠ id ∧ ρ[j]? = some v ∧ h[j]? = some y) ∨ (j = id ∧ v = hd ∧ y = x) := by
  intro j v y h1 h2
  rw [List.getElem?_set] at h1 h2
  split at h1
  ·rename_i hj
   subst hj
   rw [if_pos rfl, if_pos hihl] at h2
   cases h1; cases h2
   exact .inr ⟨rfl, rfl, rfl⟩
  ·rename_i hj
   rw [if_neg hj] at h2
   exact .inl ⟨fun e => hj e.symm, h1, h2⟩
 have hown : ∀ b, own (ρ.set id hd) (h.set id x) b → own ρ h b ∨ b ∈ bks hd x := by
  rintro b ⟨j, v, y, h1, h2, h3, h4⟩
  rcases get j v y h1 h2 with ⟨_, g1, g2⟩ | ⟨_, rfl, rfl⟩
  ·exact .inl ⟨j, v, y, g1, g2, h3, h4⟩
  ·exact .inr h4
 refine ⟨⟨⟨by simp [hO.hr.len], fun j v y h1 h2 => ?_, fun j j' v v' y y' b h1 h2 h3 h4 h5 h6 h7 h8 => ?_, hO.hr.gl, fun b hb ho => ?_, hO.hr.glb⟩, hO.gm, hO.go, fun b hb => ?_, hO.frame, hO.size, hO.os, hO.tape, hO.out, fun j v hv hs => ?_, by simpa using hO.hl, fun r hr => ?_⟩,
  hC.df, hC.sz, fun i => (hC.tm i).mono (fun _ h => h) (fun _ _ => rfl) (fun j hj => hg j ((hC.tm i).ref j hj))⟩
 ·rcases get j v y h1 h2 with ⟨_, g1, g2⟩ | ⟨rfl, rfl, rfl⟩
  ·have hr := hO.hr.rep j v y g1 g2
   exact hr.mono (fun _ h => h) (fun _ _ => rfl) (fun _ _ => rfl) (fun k hk => hg k (hr.ref k hk))
  ·exact hb.mono (fun _ h => h) (fun _ _ => rfl) (fun _ _ => rfl) (fun k hk => hg k (hb.ref k hk))
 ·rcases get j v y h1 h2 with ⟨hj, g1, g2⟩ | ⟨rfl, rfl, rfl⟩ <;> rcases get j' v' y' h4 h5 with ⟨hj', k1, k2⟩ | ⟨rfl, rfl, rfl⟩
  ·exact hO.hr.dis j j' v v' y y' b g1 g2 h3 k1 k2 h6 h7 h8
  ·exact absurd ⟨j, v, y, g1, g2, h3, h7⟩ (hf b h8).2.2
  ·exact absurd ⟨j', v', y', k1, k2, h6, h8⟩ (hf b h7).2.2
  ·rfl
 ·rcases hown b ho with h1 | h1
  ·exact hO.hr.gd b hb h1
  ·exact (hf b h1).2.1 hb
 ·rcases hown b hb with h1 | h1
  ·exact hO.oo b h1
  ·exact .inl (hf b h1).1
 ·have hj : j ≠ id := by
   have := (List.getElem?_eq_some_iff.1 hv).1
   omega
  rw [List.getElem?_set, if_neg (fun e => hj e.symm)]
  exact hO.hand j v hv hs
 ·obtain ⟨g1, g2, g3⟩ := hO.mks r hr
  refine ⟨g1, g2, fun g4 => ?_⟩
  obtain ⟨j, v, y, h1, h2, h3, h4⟩ := g4
  rcases get j v y h1 h2 with ⟨_, k1, k2⟩ | ⟨rfl, rfl, rfl⟩
  ·exact g3 ⟨j, v, y, k1, k2, h3, h4⟩
  ·exact hb.ndef h3 h4 g1
theorem Conc.room (hC : Conc E n G ρ t h a w) : ∀ k : Nat, ∃ ρ', Conc E n G ρ' t (h ++ List.replicate k .nw) a w
 | 0 => ⟨ρ, by simpa using hC⟩
 | k + 1 => by
  obtain ⟨ρ', h1⟩ := hC.room k
  refine ⟨ρ' ++ [undef], ?_⟩
  have := h1.push (Grw.refl w) undef .nw (by simp [blk, undef]) rfl
  rw [List.replicate_succ', ← List.append_assoc]
  exact this
end
end Go.Vx
