/- A good program is one that Check lets pass. Conditions: none. -/
import Derived.Test.YtoibcfioicdlhaaGreatDoorRBI
namespace Go.Proofs.YtoibcfioicdlhaaGreatDoor
open Go.Vx
set_option maxRecDepth 100000

theorem parts_pos {im : Im} (hI : GoodIm im) {f : Fn} (hf : GoodFn f) : 0 < f.code.length := by
  obtain ⟨tys, h1, h2, _⟩ := typed_good hI hf
  obtain ⟨_, _, p, k, n, hp, _, hk, n1, n2, hc⟩ := hf
  rw [hc]; simp
theorem okFn_good {im : Im} (hI : GoodIm im) {f : Fn} (hf : GoodFn f) : okFn f = true := by
  obtain ⟨tys, _, _, _, h, hl⟩ := typed_good hI hf
  have hp := parts_pos hI hf
  have h1 := hf.1
  have h2 := hf.2.1
  simp only [okFn, Bool.and_eq_true, decide_eq_true_eq, List.all_eq_true]
  exact ⟨by omega, by omega, by omega, by omega, by omega, hp, by omega, fun o ho => (h o ho).2⟩
theorem okIm_good {im : Im} (hI : GoodIm im) : OkIm im :=
  ⟨by rw [hI.1]; decide, by rw [hI.1]; exact cs16_ok, by rw [hI.2.1]; decide, by rw [hI.2.1]; decide, fun f hm => okFn_good hI (hI.2.2 f hm)⟩
theorem opsErr_of {im : Im} {fn : Fn} : ∀ {l : List Op} {x : Int}, (∀ o ∈ l, opErr im fn o = none) → opsErr im fn l x = none
  | [], _, _ => rfl
  | p :: r, x, h => by
    simp only [opsErr, h p (by simp)]
    exact opsErr_of fun o ho => h o (by simp [ho])
/-- What Trace reaches of a good function. -/
theorem trace_good {im : Im} (hI : GoodIm im) {f : Fn} (hf : GoodFn f) {N : Nat} (hN : 146 < N) : ∃ tys s, tys[0]? = some ((0 : Int), (0 : Int)) ∧ Typed im f.code tys ∧ (∀ (x : Nat) (o : Op) (i : Info) (d t : Int), f.code[x]? = some o → inf o.c = some i → tys[x]? = some (d, t) → ∀ q ∈ sucs im o i x d t, (x : Int) < q.1) ∧ traceV im f N = some (.ok s) ∧ Rch tys s [] ∧ Clo im f.code s [] ∧ (0, (0, 0)) ∈ s := by
  obtain ⟨tys, h1, h2, h3, h4, hl⟩ := typed_good hI hf
  obtain ⟨s, g1, g2, g3, g4⟩ := trace_ok h1 (by omega) h2 (opsErr_of fun o ho => (h4 o ho).1) (N := N) (by omega)
  exact ⟨tys, s, h2, h1, h3, g1, g2, g3, g4⟩
/-- Check lets a good program pass. -/
theorem checkV_good {im : Im} (hI : GoodIm im) {N : Nat} (hN : 146 < N) : ∀ {l : List Fn} {i : Int}, (∀ f ∈ l, GoodFn f) → checkV im N l i = some (0, 0, 0)
  | [], _, _ => rfl
  | f :: r, i, h => by
    obtain ⟨_, s, _, _, _, g, _⟩ := trace_good hI (h f (by simp)) hN
    simp only [checkV, g]
    exact checkV_good hI hN fun f' hf' => h f' (by simp [hf'])
theorem check_good {im : Im} (hI : GoodIm im) : checkV im 300 im.fs 0 = some (0, 0, 0) := checkV_good hI (by decide) hI.2.2
end Go.Proofs.YtoibcfioicdlhaaGreatDoor
namespace Go.Proofs.YtoibcfioicdlhaaGreatDoor
open Go.Vx
set_option maxRecDepth 100000

theorem lookI_of {x : Int} {t : Ty} : ∀ {s : Sn} {i : Nat}, (s.map (·.1)).Nodup → (x, t) ∈ s → ∃ j, lookI s x i = some (j, t)
  | [], _, _, h => by cases h
  | p :: q, i, hn, h => by
    rw [List.map_cons, List.nodup_cons] at hn
    simp only [lookI]
    rcases List.mem_cons.1 h with h | h
    · subst h
      simp
    · have : (x == p.1) = false := by
        rw [beq_eq_false_iff_ne]
        intro e
        exact hn.1 (e ▸ List.mem_map_of_mem (f := (·.1)) h)
      simp only [this, cond_false]
      exact lookI_of hn.2 h
theorem nodup_len : ∀ (n : Nat) (l : List Int), l.Nodup → (∀ x ∈ l, 0 ≤ x ∧ x < n) → l.length ≤ n
  | 0, [], _, _ => Nat.le_refl _
  | 0, x :: r, _, h => by have := h x (by simp); omega
  | n + 1, l, hn, h => by
    have h1 := nodup_len n (l.erase (n : Int)) (hn.erase _) (fun x hx => by
      rw [hn.mem_erase_iff] at hx
      have := h x hx.2
      have := hx.1
      omega)
    rw [List.length_erase] at h1
    split at h1 <;> omega
theorem depths_get {n : Nat} {s : Sn} {x : Nat} {t : Ty} (hn : (s.map (·.1)).Nodup) (h : ((x : Int), t) ∈ s) (hx : x < n) : (depthsV n s)[x]? = some t.1 := by
  obtain ⟨j, hj⟩ := lookI_of (i := 0) hn h
  simp [depthsV, hx, hj]
/-- Depths of a good function. -/
theorem depths_ok {im : Im} (hI : GoodIm im) {f : Nat} {fn : Fn} (hf : im.fs[f]? = some fn) : ∃ (s : Sn), SatP Tryz.prog 18 [agI im, .d (.int .i64 f)] (.d (.sl 1 (rowsI (depthsV fn.code.length s)))) ∧ (s.map (·.1)).Nodup ∧ (∀ p ∈ s, ∃ (x : Nat) (o : Op) (i : Info), p.1 = x ∧ fn.code[x]? = some o ∧ inf o.c = some i ∧ opErr im fn o = none ∧ rightB o = true ∧ (0 ≤ p.2.1 ∧ p.2.1 ≤ 32 ∧ 0 ≤ p.2.2 ∧ p.2.2 ≤ 16) ∧ (takes im o ≤ p.2.1 ∧ p.2.1 - takes im o + i.pu ≤ 32) ∧ (o.c = 21 → 0 < p.2.2) ∧ (o.c = 20 → p.2.2 < 16 ∧ p.2.1 < 32) ∧ ∀ q ∈ sucs im o i x p.2.1 p.2.2, q ∈ s ∧ (x : Int) < q.1) ∧ (0, (0, 0)) ∈ s ∧ fn.code.length ≤ 146 := by
  have hg := hI.2.2 fn (List.mem_of_getElem? hf)
  obtain ⟨tys, t1, t2, t3, t4, t5⟩ := typed_good hI hg
  obtain ⟨s, g1, g2, g3, g4⟩ := trace_ok t1 (by omega) t2 (opsErr_of fun o ho => (t4 o ho).1) (N := 300) (by omega)
  have key : ∀ p ∈ s, ∃ x : Nat, p.1 = x ∧ x < fn.code.length ∧ tys[x]? = some p.2 := by
    intro p hp
    obtain ⟨x, h1, h2⟩ := g2.sub p hp
    exact ⟨x, h1, by have := (List.getElem?_eq_some_iff.1 h2).1; have := t1.len; omega, h2⟩
  refine ⟨s, depths18 im (okIm_good hI) 300 f fn hf (check_good hI) s g1 ?_ ?_, g2.nd, ?_, g4, t5⟩
  · simp only [okKs, Bool.and_eq_true, decide_eq_true_eq, List.all_eq_true]
    have hr : ∀ x ∈ s.map (·.1), 0 ≤ x ∧ x < ((fn.code.length : Nat) : Int) := by
      intro x hx
      obtain ⟨p, hp, rfl⟩ := List.mem_map.1 hx
      obtain ⟨y, h1, h2, _⟩ := key p hp
      omega
    refine ⟨?_, g2.nd, fun x hx => ⟨(hr x hx).1, by have := (hr x hx).2; omega⟩⟩
    have := nodup_len _ _ g2.nd hr
    omega
  · intro p hp
    obtain ⟨y, h1, h2, _⟩ := key p hp
    omega
  · intro p hp
    obtain ⟨x, h1, h2, h3⟩ := key p hp
    obtain ⟨o, ho⟩ : ∃ o, fn.code[x]? = some o := ⟨_, List.getElem?_eq_getElem h2⟩
    obtain ⟨i, d, t, a1, a2, a3, a4, a5, a6, a7⟩ := t1.at' x o ho
    rw [h3, Option.some.injEq] at a2
    rw [a2]
    have hm := t4 o (List.mem_of_getElem? ho)
    refine ⟨x, o, i, h1, ho, a1, hm.1, hm.2, a3, a4, a5, a6, fun q hq => ⟨?_, t3 x o i d t ho a1 (by rw [h3, a2]) q hq⟩⟩
    exact g3 p hp (by simp) x o i h1 ho a1 q (by rw [a2]; exact hq)
end Go.Proofs.YtoibcfioicdlhaaGreatDoor
