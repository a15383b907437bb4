/- A function that is verified: verify.trace in the picture. Conditions: the program is right. -/
import Derived.Test.YtoibcfioicdlhaaGreatDoorQBD
import Derived.Test.YtoibcfioicdlhaaGreatDoorQAU
import Derived.Test.YtoibcfioicdlhaaGreatDoorQBB
namespace Go.Proofs.YtoibcfioicdlhaaGreatDoor
open Go.Vx
set_option maxRecDepth 100000
theorem through84 {K : Out → H → Prop} (im : Im) (fn : Fn) (x : Int) (o : Op) (i : Info) (s : Sn) (l : List Int) (hI : OkIm im) (h0 : 0 ≤ x ∧ x < 1000) (ho : fn.code[x.toNat]? = some o) (hi : inf o.c = some i) (hoe : opErr im fn o = none) (ha : 0 ≤ o.a) (j : Nat) (h : Int × Int) (hl : lookI s x 0 = some (j, h)) (hh : -1000 ≤ h.1 ∧ h.1 ≤ 1000 ∧ -1000 ≤ h.2 ∧ h.2 ≤ 1000)
    (hk : fin4 K im fn x (thr im fn.code.length o i x h s l)) : Sat Tryz.prog 84 [.p 0 0, .d (.int .i64 x)] (wB im fn s l) K := by
  obtain ⟨d, t⟩ := h
  by_cases h15 : o.c = 15
  · exact thr_jump im fn x o i s l h0 ho hi j d t hl hh h15 hk
  by_cases h16 : o.c = 16
  · exact thr_if im fn x o i s l h0 ho hi j d t hl hh h16 hk
  by_cases h17 : o.c = 17
  · have h4 : i.ar = 4 := by
      rw [h17] at hi
      have : inf 17 = some ⟨[99, 97, 108, 108], 4, 0, 1⟩ := rfl
      rw [this] at hi
      cases hi; rfl
    have hlt : o.a < im.fs.length := by
      simp only [opErr, hi, h4] at hoe
      cases hd : decide (o.a < (im.fs.length : Int)) with
      | true => simpa using hd
      | false =>
        unfold opErrA at hoe
        rw [hd] at hoe
        cases hoe
    obtain ⟨g, hg⟩ : ∃ g, im.fs[o.a.toNat]? = some g := ⟨_, List.getElem?_eq_getElem (by omega)⟩
    have hgo := hI.f3 g (List.mem_of_getElem? hg)
    simp only [okFn, Bool.and_eq_true, decide_eq_true_eq] at hgo
    exact thr_call im fn x o i s l h0 ho hi j d t hl hh h17 g ha hg ⟨hgo.1, hgo.2.1⟩ hk
  by_cases h18 : o.c = 18 ∨ o.c = 19
  · exact thr_last im fn x o i s l h0 ho hi j d t hl hh h18 hk
  by_cases h20 : o.c = 20
  · exact thr_try im fn x o i s l h0 ho hi j d t hl hh h20 hk
  by_cases h21 : o.c = 21
  · exact thr_end im fn x o i s l h0 ho hi j d t hl hh h21 hk
  · exact thr_norm im fn x o i s l h0 ho hi j d t hl hh ⟨h15, h16, h17, fun e => h18 (.inl e), fun e => h18 (.inr e), h20, h21⟩ hk
theorem through84e {K : Out → H → Prop} (im : Im) (fn : Fn) (x : Int) (o : Op) (i : Info) (s : Sn) (l : List Int) (ol : List (D × Bool × List D)) (hol : ol = openM l) (hI : OkIm im) (h0 : 0 ≤ x ∧ x < 1000) (ho : fn.code[x.toNat]? = some o) (hi : inf o.c = some i) (hoe : opErr im fn o = none) (ha : 0 ≤ o.a) (j : Nat) (h : Int × Int) (hl : lookI s x 0 = some (j, h)) (hh : -1000 ≤ h.1 ∧ h.1 ≤ 1000 ∧ -1000 ≤ h.2 ∧ h.2 ≤ 1000)
    (hk : fin4 K im fn x (thr im fn.code.length o i x h s l)) : Sat Tryz.prog 84 [.p 0 0, .d (.int .i64 x)] [.cells [.d (.sl 5 (im.cs.map encV)), .d (.sl 3 (im.fs.map encFn)), .d (.int .i64 fn.args), .d (.int .i64 fn.vars), .d (.sl 2 (fn.code.map encO)), .mp 1, .mp 2], .dm (seenM s), .dm ol] K := by
  subst hol
  exact through84 im fn x o i s l hI h0 ho hi hoe ha j h hl hh hk
theorem memI_mem {x : Int} : ∀ {l : List Int} (i : Nat), x ∈ l → ∃ j, memI l x i = some j
  | p :: r, i, h => by
    simp only [memI]
    cases hx : x == p with
    | true => exact ⟨i, rfl⟩
    | false =>
      rcases List.mem_cons.1 h with h | h
      · subst h; simp at hx
      · exact memI_mem (i + 1) h
theorem rec80m {K : H → Prop} (es : List (D × Bool × List D)) (a b : D) (hk : K [.cells [.mp 1], .dm es, .cells [.d a, .d b]]) : SatD Tryz.prog 80 [.p 0 0, .p 2 0] [.cells [.mp 1], .dm es, .cells [.d a, .d b]] none K := by
  refine s80 rfl ?_
  repeat' ((conv => whnf); first | exact zf | refine zg ?_ | intro _ | refine And.intro rfl ?_ | refine za ?_ | refine zl ?_ | fail)
  exact hk
theorem rec80s {K : H → Prop} (x a b : D) (p e : Int) (hk : K [.cells [.d .nm], .cells [.d (.int .i64 p), .d (.int .i64 e)], .cells [.d (.int .i64 p), .d (.int .i64 e)]]) : SatD Tryz.prog 80 [.p 0 0, .p 1 0] [.cells [.d x], .cells [.d a, .d b]] (some (flt p e)) K := by
  refine s80 rfl ?_
  repeat' ((conv => whnf); first | exact zf | refine zg ?_ | intro _ | refine And.intro rfl ?_ | refine za ?_ | refine zl ?_ | fail)
  exact hk
theorem keys83 {K : Out → H → Prop} (es : List (D × Bool × List D)) (hk : K (.ret (.fc 119 [.p 1 0])) [.dm es, .cells [.mp 0]]) : Sat Tryz.prog 83 [.mp 0] [.dm es] K := by
  refine s83 (keep := false) rfl ?_
  repeat' ((conv => whnf); first | exact zf | refine zg ?_ | intro _ | refine And.intro rfl ?_ | refine za ?_ | refine zl ?_ | fail)
  exact hk
theorem keys38 {K : Out → H → Prop} (es : List (D × Bool × List D)) (hk : K (.ret (.fc 87 [.p 1 0])) [.dm es, .cells [.mp 0]]) : Sat Tryz.prog 38 [.mp 0] [.dm es] K := by
  refine s38 (keep := false) rfl ?_
  repeat' ((conv => whnf); first | exact zf | refine zg ?_ | intro _ | refine And.intro rfl ?_ | refine za ?_ | refine zl ?_ | fail)
  exact hk
theorem eg119 : ∀ args w, (callFunc 119 args).run Tryz.prog w = .ok (.enter 119 args) w := Go.Proofs.enters_of Tryz.func119 (by kernel_rfl) rfl
theorem eg87 : ∀ args w, (callFunc 87 args).run Tryz.prog w = .ok (.enter 87 args) w := Go.Proofs.enters_of Tryz.func87 (by kernel_rfl) rfl
def okKs (l : List Int) : Bool := decide (l.length ≤ 1000) && (decide l.Nodup && l.all fun x => decide (0 ≤ x) && decide (x < 1000))
theorem sorted_open (l : List Int) (h : okKs l = true) : Sat Tryz.prog 37 [.fc 119 [.p 0 0]] [.cells [.mp 1], .dm (openM l)] fun out h => out = .ret (.os 2) ∧ h = [.cells [.mp 1], .dm (openM l), .rows 1 (rowsI (srt l))] := by
  simp only [okKs, Bool.and_eq_true, decide_eq_true_eq, List.all_eq_true] at h
  exact sorted37 keysB (by rfl) (by rfl) (by decide) eg119 (openM l) l (by simp [openM]) (fun n hn => by have := h.2.2 n hn; unfold inR; omega) h.2.1 (by omega)
theorem sorted_seen (s : Sn) (h : okKs (s.map (·.1)) = true) : Sat Tryz.prog 37 [.fc 87 [.p 0 0]] [.cells [.mp 1], .dm (seenM s)] fun out h => out = .ret (.os 2) ∧ h = [.cells [.mp 1], .dm (seenM s), .rows 1 (rowsI (srt (s.map (·.1))))] := by
  simp only [okKs, Bool.and_eq_true, decide_eq_true_eq, List.all_eq_true] at h
  exact sorted37 keysS (by rfl) (by rfl) (by decide) eg87 (seenM s) (s.map (·.1)) (by simp [seenM]) (fun n hn => by have := h.2.2 n hn; unfold inR; omega) h.2.1 (by omega)
def opsErr (im : Im) (fn : Fn) : List Op → Int → Option (Int × Int)
  | [], _ => none
  | o :: r, x => match opErr im fn o with
    | some e => some (x, e)
    | none => opsErr im fn r (x + 1)
def okHr (x : Int) (h : Int × Int) : Bool := decide (0 ≤ x) && (decide (x < 1000) && (decide (-1000 ≤ h.1) && (decide (h.1 ≤ 1000) && (decide (-1000 ≤ h.2) && decide (h.2 ≤ 1000)))))
def insI (x : Int) : List Int → List Int
  | [] => [x]
  | y :: r => bif decide (x ≤ y) then x :: y :: r else y :: insI x r
def isort : List Int → List Int
  | [] => []
  | x :: r => insI x (isort r)
theorem insI_perm (x : Int) : ∀ l, (insI x l).Perm (x :: l)
  | [] => .refl _
  | y :: r => by
    simp only [insI]
    cases decide (x ≤ y) with
    | true => exact .refl _
    | false => exact ((insI_perm x r).cons y).trans (.swap x y r)
theorem isort_perm : ∀ l, (isort l).Perm l
  | [] => .refl _
  | x :: r => (insI_perm x _).trans ((isort_perm r).cons x)
theorem insI_sorted (x : Int) : ∀ l : List Int, l.Pairwise (· ≤ ·) → (insI x l).Pairwise (· ≤ ·)
  | [], _ => by simp [insI]
  | y :: r, h => by
    obtain ⟨h1, h2⟩ := List.pairwise_cons.1 h
    simp only [insI]
    cases hd : decide (x ≤ y) with
    | true =>
      simp only [decide_eq_true_eq] at hd
      exact List.pairwise_cons.2 ⟨fun z hz => by
        rcases List.mem_cons.1 hz with rfl | hz
        · exact hd
        · exact Int.le_trans hd (h1 z hz), h⟩
    | false =>
      simp only [decide_eq_false_iff_not] at hd
      refine List.pairwise_cons.2 ⟨fun z hz => ?_, insI_sorted x r h2⟩
      rcases List.mem_cons.1 ((insI_perm x r).mem_iff.1 hz) with rfl | hz
      · omega
      · exact h1 z hz
theorem isort_sorted : ∀ l : List Int, (isort l).Pairwise (· ≤ ·)
  | [] => by simp [isort]
  | x :: r => insI_sorted x _ (isort_sorted r)
theorem srt_eq (l : List Int) : srt l = isort l := by
  have tr : ∀ a b c : Int, decide (a ≤ b) = true → decide (b ≤ c) = true → decide (a ≤ c) = true := fun a b c h1 h2 => by simp only [decide_eq_true_eq] at *; exact Int.le_trans h1 h2
  have to : ∀ a b : Int, (decide (a ≤ b) || decide (b ≤ a)) = true := fun a b => by simp only [Bool.or_eq_true, decide_eq_true_eq]; exact Int.le_total a b
  refine List.Perm.eq_of_pairwise (le := fun a b : Int => a ≤ b) (fun a b _ _ h1 h2 => Int.le_antisymm h1 h2) ?_ (isort_sorted l) ((List.mergeSort_perm _ _).trans (isort_perm l).symm)
  exact (List.pairwise_mergeSort tr to l).imp fun h => by simpa using h
def loopV (im : Im) (fn : Fn) : Nat → Sn → List Int → Option (Except (Int × Int) Sn)
  | 0, _, _ => none
  | n + 1, s, l => bif okKs l then (match isort l with
    | [] => some (.ok s)
    | x :: _ => (match lookI s x 0, fn.code[x.toNat]? with
      | some (_, h), some o => bif okHr x h then (match inf o.c with
        | some i => (match thr im fn.code.length o i x h s (era l x) with
          | .ok q => loopV im fn n q.1 q.2
          | .error e => some (.error (x, e)))
        | none => none) else none
      | _, _ => none)) else none
def traceV (im : Im) (fn : Fn) (n : Nat) : Option (Except (Int × Int) Sn) :=
  match opsErr im fn fn.code 0 with
  | some e => some (.error e)
  | none => loopV im fn n [(0, (0, 0))] [0]
theorem opsErr_none {im : Im} {fn : Fn} : ∀ {l : List Op} {x : Int}, opsErr im fn l x = none → ∀ o ∈ l, opErr im fn o = none
  | p :: r, x, h, o, ho => by
    simp only [opsErr] at h
    cases hp : opErr im fn p with
    | some e => rw [hp] at h; cases h
    | none =>
      rw [hp] at h
      rcases List.mem_cons.1 ho with ho | ho
      · subst ho; exact hp
      · exact opsErr_none h o ho
theorem fin4_cases {K : Out → H → Prop} {im : Im} {fn : Fn} {x : Int} {r : Except Int (Sn × List Int)} (h1 : ∀ q, r = .ok q → K (.ret (.tu [])) (wB im fn q.1 q.2)) (h2 : ∀ e, r = .error e → ∀ s l, K (.pan (flt x e)) (wB im fn s l)) : fin4 K im fn x r := by
  cases r with
  | ok q => exact h1 q rfl
  | error e => exact h2 e rfl
def fin5 (K : Out → H → Prop) (r : Except (Int × Int) Sn) : Prop :=
  match r with
  | .ok s => K (.ret (.tu [.mp 0, .ag [.d (.int .i64 0), .d (.int .i64 0)]])) [.dm (seenM s)]
  | .error e => K (.ret (.tu [.d .nm, .ag [.d (.int .i64 e.1), .d (.int .i64 e.2)]])) []
theorem srt_nil {l : List Int} (h : srt l = []) : l = [] := by
  have := congrArg List.length h
  simp only [srt, List.length_mergeSort, List.length_nil] at this
  exact List.eq_nil_of_length_eq_zero this
set_option maxRecDepth 100000 in
set_option maxHeartbeats 4000000 in
theorem trace36 {K : Out → H → Prop} (im : Im) (hI : OkIm im) (f : Nat) (fn : Fn) (hf : im.fs[f]? = some fn) (n : Nat) (R : Except (Int × Int) Sn) (hR : traceV im fn n = some R) (hk : fin5 K R) : Sat Tryz.prog 36 [agI im, .d (.int .i64 f)] [] K := by
  have hfn := hI.f3 fn (List.mem_of_getElem? hf)
  have hfn' := hfn
  simp only [okFn, Bool.and_eq_true, decide_eq_true_eq, List.all_eq_true] at hfn
  obtain ⟨f1, f2, f3, f4, f5, f6, f7, f8⟩ := hfn
  have hfl : f < im.fs.length := (List.getElem?_eq_some_iff.1 hf).1
  have hfl2 := hI.f2
  refine s36 (keep := false) rfl ?_
  unfold fdx
  repeat' ((conv => whnf); first | exact zf | refine zg ?_ | intro _ | refine And.intro rfl ?_ | refine za ?_ | refine zl ?_ | fail)
  refine ⟨encFn fn, ⟨by omega, by simp [hf], rfl⟩, ?_⟩
  repeat' ((conv => whnf); first | exact zf | refine zg ?_ | intro _ | refine And.intro rfl ?_ | refine za ?_ | refine zl ?_ | fail)
  conv => whnf
  refine loop_use2 [(4, .p 1 0), (5, .p 2 0), (6, .p 5 0), (22, .d (.int .i64 (fn.code.map encO).length))] (fun i : Nat => i ≤ fn.code.length ∧ opsErr im fn (fn.code.drop i) i = opsErr im fn fn.code 0) (fun i => [(23, .d (.int .i64 i))]) (fun _ => [.cells [.d (.sl 5 (im.cs.map encV)), .d (.sl 3 (im.fs.map encFn))], .cells [.d .nm], .cells [.d (.int .i64 0), .d (.int .i64 0)], .dm (seenM []), .dm (openM []), .cells [.d (.sl 5 (im.cs.map encV)), .d (.sl 3 (im.fs.map encFn)), .d (.int .i64 fn.args), .d (.int .i64 fn.vars), .d (.sl 2 (fn.code.map encO)), .mp 3, .mp 4]]) (fun i => fn.code.length - i) 0 ⟨Nat.zero_le _, by simp⟩ ?_ ?_ ?_ (fun i ⟨hi, he⟩ => ?_)
  · exact (by repeat' (first | exact trivial | exact rfl | exact Or.inl rfl | refine And.intro ?_ ?_ | refine Or.inr ?_))
  · exact (by repeat' (first | exact trivial | exact rfl | exact Or.inl rfl | refine And.intro ?_ ?_ | refine Or.inr ?_))
  · exact rfl
  repeat' ((conv => whnf); first | exact zf | refine zg ?_ | intro _ | refine And.intro rfl ?_ | refine za ?_ | refine zl ?_ | fail)
  refine sp_intro (fun hlt => ?_) (fun hge => ?_)
  · have hlt : i < fn.code.length := by simpa using hlt
    obtain ⟨o, ho⟩ : ∃ o, fn.code[i]? = some o := ⟨_, List.getElem?_eq_getElem hlt⟩
    have hdr : fn.code.drop i = o :: fn.code.drop (i + 1) := by
      rw [List.drop_eq_getElem_cons hlt]
      rw [List.getElem?_eq_getElem hlt] at ho
      cases ho
      rfl
    rw [hdr] at he
    simp only [opsErr] at he
    repeat' ((conv => whnf); first | exact zf | refine zg ?_ | intro _ | refine And.intro rfl ?_ | refine (.inr ?_ : (∃ _, _) ∨ _) | refine za ?_ | refine zl ?_ | fail)
    refine operand81 im fn i o [] [] (by omega) (by simpa using ho) (f8 o (List.mem_of_getElem? ho)) hfn' ?_
    cases hoe : opErr im fn o with
    | none =>
      rw [hoe] at he
      repeat' ((conv => whnf); first | exact zf | refine zg ?_ | intro _ | refine And.intro rfl ?_ | refine (.inl ⟨by unfold inR; omega, ?_⟩) | refine za ?_ | refine zl ?_ | fail)
      refine ⟨i + 1, ⟨hlt, by simpa using he⟩, Nat.sub_lt_sub_left hlt (Nat.lt_succ_self i), (by repeat' (first | exact trivial | exact rfl | exact Or.inl rfl | refine And.intro ?_ ?_ | refine Or.inr ?_)), (by repeat' (first | exact trivial | exact rfl | exact Or.inl rfl | refine And.intro ?_ ?_ | refine Or.inr ?_)), rfl⟩
    | some e =>
      rw [hoe] at he
      have hR' : R = .error (i, e) := by
        unfold traceV at hR
        rw [← he] at hR
        simpa using hR.symm
      rw [hR'] at hk
      repeat' ((conv => whnf); first | exact zf | refine zg ?_ | intro _ | refine And.intro rfl ?_ | refine za ?_ | refine zl ?_ | fail)
      refine rec80s _ _ _ _ _ ?_
      repeat' ((conv => whnf); first | exact zf | refine zg ?_ | intro _ | refine And.intro rfl ?_ | refine za ?_ | refine zl ?_ | fail)
      exact hk
  · have hge : i = fn.code.length := by
      have : ¬ i < fn.code.length := by simpa using hge
      omega
    have hno : opsErr im fn fn.code 0 = none := by
      rw [← he, hge, List.drop_length]
      rfl
    have hL : loopV im fn n [(0, (0, 0))] [0] = some R := by
      unfold traceV at hR
      rw [hno] at hR
      exact hR
    repeat' ((conv => whnf); first | exact zf | refine zg ?_ | intro _ | refine And.intro rfl ?_ | refine (.inr ?_ : (∃ _, _) ∨ _) | refine za ?_ | refine zl ?_ | fail)
    refine reach82' im fn [] [] 0 0 0 0 (fun q hq => ?_) (fun hq => by cases hq)
    obtain rfl : q = ([(0, (0, 0))], [0]) := (Option.some.inj hq).symm
    repeat' ((conv => whnf); first | exact zf | refine zg ?_ | intro _ | refine And.intro rfl ?_ | refine za ?_ | refine zl ?_ | fail)
    conv => whnf
    refine loop_use2 [(4, .p 1 0), (5, .p 2 0), (6, .p 5 0)] (fun p : Nat × Sn × List Int => loopV im fn p.1 p.2.1 p.2.2 = some R) (fun _ => []) (fun p => [.cells [.d (.sl 5 (im.cs.map encV)), .d (.sl 3 (im.fs.map encFn))], .cells [.d .nm], .cells [.d (.int .i64 0), .d (.int .i64 0)], .dm (seenM p.2.1), .dm (openM p.2.2), .cells [.d (.sl 5 (im.cs.map encV)), .d (.sl 3 (im.fs.map encFn)), .d (.int .i64 fn.args), .d (.int .i64 fn.vars), .d (.sl 2 (fn.code.map encO)), .mp 3, .mp 4]]) (fun p => p.1) (n, [(0, (0, 0))], [0]) hL ?_ ?_ ?_ (fun ⟨m, s, l⟩ hL => ?_)
    · exact (by repeat' (first | exact trivial | exact rfl | exact Or.inl rfl | refine And.intro ?_ ?_ | refine Or.inr ?_))
    · exact (by repeat' (first | exact trivial | exact rfl | exact Or.inl rfl | refine And.intro ?_ ?_ | refine Or.inr ?_))
    · exact rfl
    replace hL : loopV im fn m s l = some R := hL
    cases m with
    | zero => cases hL
    | succ m =>
      unfold loopV at hL
      cases hok : okKs l with
      | false => rw [hok] at hL; cases hL
      | true =>
        rw [hok] at hL
        simp only [cond_true] at hL
        rw [← srt_eq] at hL
        have hsl : (srt l).length = l.length := by simp only [srt, List.length_mergeSort]
        have hol : (openM l).length = l.length := by simp [openM]
        cases hs : srt l with
        | nil =>
          rw [hs] at hL
          simp only [Option.some.injEq] at hL
          subst hL
          have hl : l = [] := srt_nil hs
          subst hl
          repeat' ((conv => whnf); first | exact zf | refine zg ?_ | intro _ | refine And.intro rfl ?_ | refine za ?_ | refine zl ?_ | fail)
          refine rec80m _ _ _ ?_
          repeat' ((conv => whnf); first | exact zf | refine zg ?_ | intro _ | refine And.intro rfl ?_ | refine za ?_ | refine zl ?_ | fail)
          exact hk
        | cons x xs =>
          rw [hs] at hL
          simp only at hL
          have hlp : 0 < l.length := by rw [← hsl, hs]; simp
          have hsrt := sorted_open l hok
          rw [hs] at hsrt
          repeat' ((conv => whnf); first | exact zf | refine zg ?_ | intro _ | refine And.intro rfl ?_ | refine za ?_ | refine zl ?_ | fail)
          refine sp_t (decide_eq_true (by rw [hol]; omega)) ?_
          repeat' ((conv => whnf); first | exact zf | refine zg ?_ | intro _ | refine And.intro rfl ?_ | refine (.inr ?_ : (∃ _, _) ∨ _) | refine za ?_ | refine zl ?_ | fail)
          refine keys83 _ ?_
          repeat' ((conv => whnf); first | exact zf | refine zg ?_ | intro _ | refine And.intro rfl ?_ | refine (.inr ?_ : (∃ _, _) ∨ _) | refine za ?_ | refine zl ?_ | fail)
          refine hsrt.mono fun out h' hh => ?_
          obtain ⟨rfl, rfl⟩ := hh
          obtain ⟨j, hj⟩ : ∃ j, memI l x 0 = some j := memI_mem 0 ((List.mergeSort_perm l _).mem_iff.1 (show x ∈ srt l by rw [hs]; simp))
          have ho := fnd_open x l 0
          rw [hj] at ho
          have he : (openM l).eraseIdx j = openM (era l x) := by rw [open_erase]; simp only [era, hj]
          repeat' ((conv => whnf); first | exact zf | refine zg ?_ | intro _ | refine And.intro rfl ?_ | refine (And.intro ⟨Int.le_refl _, by simp only [rowsI, List.length_map, List.length_cons]; omega, rfl⟩ ?_) | refine ⟨_, ho, ?_⟩ | refine (ho).use ?_ | refine (.inr ?_ : (∃ _, _) ∨ _) | refine za ?_ | refine zl ?_ | refine ⟨_, ⟨by decide, rfl, rfl⟩, ?_⟩ | refine ⟨_, rfl, ?_⟩ | fail)
          split at hL
          · rename_i q h o hlk hoo
            cases hhr : okHr x h with
            | false => rw [hhr] at hL; cases hL
            | true =>
              rw [hhr] at hL
              simp only [okHr, Bool.and_eq_true, decide_eq_true_eq] at hhr
              simp only [cond_true] at hL
              split at hL
              · rename_i i hi
                have hoe : opErr im fn o = none := opsErr_none hno o (List.mem_of_getElem? hoo)
                obtain ⟨_, _, ha, _⟩ := rightB_is (f8 o (List.mem_of_getElem? hoo))
                refine through84e im fn x o i s (era l x) _ he hI ⟨hhr.1, hhr.2.1⟩ hoo hi hoe ha q h hlk hhr.2.2 (fin4_cases (fun r hr => ?_) (fun e hr s' l' => ?_))
                · rw [hr] at hL
                  repeat' ((conv => whnf); first | exact zf | refine zg ?_ | intro _ | refine And.intro rfl ?_ | refine za ?_ | refine zl ?_ | fail)
                  refine ⟨(m, r.1, r.2), hL, Nat.lt_succ_self m, (by repeat' (first | exact trivial | exact rfl | exact Or.inl rfl | refine And.intro ?_ ?_ | refine Or.inr ?_)), (by repeat' (first | exact trivial | exact rfl | exact Or.inl rfl | refine And.intro ?_ ?_ | refine Or.inr ?_)), rfl⟩
                · rw [hr] at hL
                  simp only [Option.some.injEq] at hL
                  subst hL
                  repeat' ((conv => whnf); first | exact zf | refine zg ?_ | intro _ | refine And.intro rfl ?_ | refine za ?_ | refine zl ?_ | fail)
                  refine rec80s _ _ _ _ _ ?_
                  repeat' ((conv => whnf); first | exact zf | refine zg ?_ | intro _ | refine And.intro rfl ?_ | refine za ?_ | refine zl ?_ | fail)
                  exact hk
              · cases hL
          · cases hL
end Go.Proofs.YtoibcfioicdlhaaGreatDoor
namespace Go.Proofs.YtoibcfioicdlhaaGreatDoor
open Go.Vx
set_option maxRecDepth 100000
def checkV (im : Im) (N : Nat) : List Fn → Int → Option (Int × Int × Int)
  | [], _ => some (0, 0, 0)
  | fn :: r, i => match traceV im fn N with
    | none => none
    | some (.ok _) => checkV im N r (i + 1)
    | some (.error e) => bif e.2 != 0 then some (i, e.1, e.2) else checkV im N r (i + 1)
def agR3 (r : Int × Int × Int) : V := .tu [.d (.int .i64 r.1), .d (.int .i64 r.2.1), .d (.int .i64 r.2.2)]
set_option maxRecDepth 100000 in
set_option maxHeartbeats 4000000 in
theorem check17 (im : Im) (hI : OkIm im) (N : Nat) (r : Int × Int × Int) (hr : checkV im N im.fs 0 = some r) : SatP Tryz.prog 17 [agI im] (agR3 r) := by
  have hc := check35 im hI
  have hfl := hI.f2
  refine s17 (keep := false) rfl ?_
  repeat' ((conv => whnf); first | exact zf | refine zg ?_ | intro _ | refine And.intro rfl ?_ | refine ⟨_, hc, ?_⟩ | refine (hc).use ?_ | refine za ?_ | refine zl ?_ | fail)
  conv => whnf
  refine loop_use2 [(1, .p 0 0), (16, .d (.int .i64 (im.fs.map encFn).length))] (fun i : Nat => i ≤ im.fs.length ∧ checkV im N (im.fs.drop i) i = some r) (fun i => [(17, .d (.int .i64 i))]) (fun _ => [.cells [.d (.sl 5 (im.cs.map encV)), .d (.sl 3 (im.fs.map encFn))]]) (fun i => im.fs.length - i) 0 ⟨Nat.zero_le _, by simpa using hr⟩ ?_ ?_ ?_ (fun i ⟨hi, he⟩ => ?_)
  · exact (by repeat' (first | exact trivial | exact rfl | exact Or.inl rfl | refine And.intro ?_ ?_ | refine Or.inr ?_))
  · exact (by repeat' (first | exact trivial | exact rfl | exact Or.inl rfl | refine And.intro ?_ ?_ | refine Or.inr ?_))
  · exact rfl
  repeat' ((conv => whnf); first | exact zf | refine zg ?_ | intro _ | refine And.intro rfl ?_ | refine za ?_ | refine zl ?_ | fail)
  refine sp_intro (fun hlt => ?_) (fun hge => ?_)
  · have hlt : i < im.fs.length := by simpa using hlt
    obtain ⟨fn, hf⟩ : ∃ fn, im.fs[i]? = some fn := ⟨_, List.getElem?_eq_getElem hlt⟩
    have hdr : im.fs.drop i = fn :: im.fs.drop (i + 1) := by
      rw [List.drop_eq_getElem_cons hlt]
      rw [List.getElem?_eq_getElem hlt] at hf
      cases hf
      rfl
    rw [hdr] at he
    simp only [checkV] at he
    cases hT : traceV im fn N with
    | none => rw [hT] at he; cases he
    | some R =>
      rw [hT] at he
      repeat' ((conv => whnf); first | exact zf | refine zg ?_ | intro _ | refine And.intro rfl ?_ | refine za ?_ | refine zl ?_ | fail)
      refine trace36 im hI i fn hf N R hT ?_
      cases R with
      | ok s =>
        repeat' ((conv => whnf); first | exact zf | refine zg ?_ | intro _ | refine And.intro rfl ?_ | refine (.inl ⟨by unfold inR; omega, ?_⟩) | refine za ?_ | refine zl ?_ | fail)
        refine ⟨i + 1, ⟨hlt, by simpa using he⟩, Nat.sub_lt_sub_left hlt (Nat.lt_succ_self i), (by repeat' (first | exact trivial | exact rfl | exact Or.inl rfl | refine And.intro ?_ ?_ | refine Or.inr ?_)), (by repeat' (first | exact trivial | exact rfl | exact Or.inl rfl | refine And.intro ?_ ?_ | refine Or.inr ?_)), rfl⟩
      | error e =>
        simp only at he
        cases hz : e.2 != 0 with
        | false =>
          rw [hz] at he
          repeat' ((conv => whnf); first | exact zf | refine zg ?_ | intro _ | refine And.intro rfl ?_ | refine (sp_f hz ?_) | refine (.inl ⟨by unfold inR; omega, ?_⟩) | refine za ?_ | refine zl ?_ | fail)
          refine ⟨i + 1, ⟨hlt, by simpa using he⟩, Nat.sub_lt_sub_left hlt (Nat.lt_succ_self i), (by repeat' (first | exact trivial | exact rfl | exact Or.inl rfl | refine And.intro ?_ ?_ | refine Or.inr ?_)), (by repeat' (first | exact trivial | exact rfl | exact Or.inl rfl | refine And.intro ?_ ?_ | refine Or.inr ?_)), rfl⟩
        | true =>
          rw [hz] at he
          simp only [cond_true, Option.some.injEq] at he
          subst he
          repeat' ((conv => whnf); first | exact zf | refine zg ?_ | intro _ | refine And.intro rfl ?_ | refine (sp_t hz ?_) | refine za ?_ | refine zl ?_ | fail)
  · have hge : i = im.fs.length := by
      have : ¬ i < im.fs.length := by simpa using hge
      omega
    rw [hge, List.drop_length] at he
    simp only [checkV, Option.some.injEq] at he
    subst he
    repeat' ((conv => whnf); first | exact zf | refine zg ?_ | intro _ | refine And.intro rfl ?_ | refine za ?_ | refine zl ?_ | fail)
def depthsV (n : Nat) (s : Sn) : List Int := (List.range n).map fun (p : Nat) => match lookI s (p : Int) 0 with
  | some r => r.2.1
  | none => -1
def toldA (n i : Nat) : List Int := List.replicate i (-1) ++ List.replicate (n - i) 0
theorem toldA_set {n i : Nat} (h : i < n) : (rowsI (toldA n i)).set i [.int .i64 (-1)] = rowsI (toldA n (i + 1)) := by
  have e1 : List.replicate (n - i) (0 : Int) = 0 :: List.replicate (n - (i + 1)) 0 := by
    rw [show n - i = (n - (i + 1)) + 1 by omega, List.replicate_succ]
  have e2 : (rowsI (toldA n i)) = List.replicate i [.int .i64 (-1)] ++ ([D.int .i64 0] :: List.replicate (n - (i + 1)) [.int .i64 0]) := by
    simp only [rowsI, toldA, e1, List.map_append, List.map_replicate, List.map_cons]
  have e3 : rowsI (toldA n (i + 1)) = List.replicate i [.int .i64 (-1)] ++ ([D.int .i64 (-1)] :: List.replicate (n - (i + 1)) [.int .i64 0]) := by
    simp only [rowsI, toldA, List.map_append, List.map_replicate]
    rw [List.replicate_succ', List.append_assoc]
    rfl
  rw [e2, e3, List.set_append, if_neg (by simp)]
  simp
theorem toldA_get {n i : Nat} (h : i < n) : (rowsI (toldA n i))[i]? = some [.int .i64 0] := by
  simp only [rowsI, toldA, List.map_append, List.map_replicate]
  rw [List.getElem?_append_right (by simp)]
  simp [List.getElem?_replicate]
  omega
def depV (s : Sn) (k : Int) : Int := match lookI s k 0 with
  | some r => r.2.1
  | none => -1
def toldK (n : Nat) (s : Sn) (ks : List Int) : List Int := (List.range n).map fun (p : Nat) => if (p : Int) ∈ ks then depV s p else -1
theorem toldA_end (n : Nat) (s : Sn) : rowsI (toldA n n) = rowsI (toldK n s []) := by
  congr 1
  simp [toldA, toldK, List.map_const']
theorem lookI_mem {x : Int} : ∀ {s : Sn} (i : Nat), x ∈ s.map (·.1) → ∃ r, lookI s x i = some r
  | p :: r, i, h => by
    simp only [lookI]
    cases hx : x == p.1 with
    | true => exact ⟨_, rfl⟩
    | false =>
      rw [List.map_cons] at h
      rcases List.mem_cons.1 h with h | h
      · subst h; simp at hx
      · exact lookI_mem (i + 1) h
theorem lookI_none {x : Int} : ∀ {s : Sn} (i : Nat), ¬ x ∈ s.map (·.1) → lookI s x i = none
  | [], _, _ => rfl
  | p :: r, i, h => by
    simp only [List.map_cons, List.mem_cons, not_or] at h
    have hx : (x == p.1) = false := by simpa using h.1
    simp only [lookI, hx, cond_false]
    exact lookI_none (i + 1) h.2
theorem told_step {s : Sn} {n i : Nat} {k : Int} (hk : (srt (s.map (·.1)))[i]? = some k) (h1 : okKs (s.map (·.1)) = true) (h2 : ∀ p ∈ s, p.1 < n) :
    ∃ r, lookI s k 0 = some r ∧ 0 ≤ k ∧ k < n ∧ (rowsI (toldK n s ((srt (s.map (·.1))).take i))).set k.toNat [.int .i64 r.2.1] = rowsI (toldK n s ((srt (s.map (·.1))).take (i + 1))) ∧ ∃ q, (rowsI (toldK n s ((srt (s.map (·.1))).take i)))[k.toNat]? = some [.int .i64 q] := by
  simp only [okKs, Bool.and_eq_true, decide_eq_true_eq, List.all_eq_true] at h1
  have hm : k ∈ s.map (·.1) := (List.mergeSort_perm _ _).mem_iff.1 (List.mem_of_getElem? hk)
  obtain ⟨r, hr⟩ := lookI_mem 0 hm
  have k0 := (h1.2.2 k hm).1
  obtain ⟨p, hp, rfl⟩ := List.mem_map.1 hm
  have k1 := h2 p hp
  refine ⟨r, hr, k0, k1, ?_, ?_⟩
  · refine List.ext_getElem? fun j => ?_
    rw [List.getElem?_set, List.take_add_one, hk]
    simp only [rowsI, toldK, List.getElem?_map, List.length_map, List.length_range, Option.toList_some, List.mem_append, List.mem_singleton]
    by_cases hj : p.1.toNat = j
    · subst hj
      have e : ((p.1.toNat : Nat) : Int) = p.1 := Int.toNat_of_nonneg k0
      have hd : depV s p.1 = r.2.1 := by simp only [depV, hr]
      rw [if_pos rfl, if_pos (by omega), List.getElem?_range (by omega)]
      simp only [Option.map_some, e, or_true, if_true, hd]
    · rw [if_neg hj]
      by_cases hjn : j < n
      · rw [List.getElem?_range hjn]
        have : ¬ (j : Int) = p.1 := by omega
        simp only [Option.map_some, this, or_false]
      · simp [hjn]
  · obtain ⟨v, hv⟩ : ∃ v, (toldK n s ((srt (s.map (·.1))).take i))[p.1.toNat]? = some v := ⟨_, List.getElem?_eq_getElem (by simp [toldK]; omega)⟩
    exact ⟨v, by simp only [rowsI, List.getElem?_map, hv, Option.map_some]⟩
theorem told0 (l : List Op) : B.rows 1 (List.replicate ((l.map encO).length : Int).toNat [D.int .i64 0]) = .rows 1 (rowsI (toldA l.length 0)) := by simp [rowsI, toldA]
theorem told0l (l : List Op) : V.d (.int .i64 (List.replicate ((l.map encO).length : Int).toNat [D.int .i64 0]).length) = .d (.int .i64 l.length) := by simp
set_option maxRecDepth 100000 in
set_option maxHeartbeats 4000000 in
theorem depths18 (im : Im) (hI : OkIm im) (N f : Nat) (fn : Fn) (hf : im.fs[f]? = some fn) (hc : checkV im N im.fs 0 = some (0, 0, 0)) (s : Sn) (hT : traceV im fn N = some (.ok s)) (hk1 : okKs (s.map (·.1)) = true) (hk2 : ∀ p ∈ s, p.1 < fn.code.length) :
    SatP Tryz.prog 18 [agI im, .d (.int .i64 f)] (.d (.sl 1 (rowsI (depthsV fn.code.length s)))) := by
  have hch := check17 im hI N _ hc
  have hfl := hI.f2
  have hlt : f < im.fs.length := (List.getElem?_eq_some_iff.1 hf).1
  have hfn := hI.f3 fn (List.mem_of_getElem? hf)
  simp only [okFn, Bool.and_eq_true, decide_eq_true_eq, List.all_eq_true] at hfn
  have f7 := hfn.2.2.2.2.2.2.1
  refine s18 (keep := false) rfl ?_
  repeat' ((conv => whnf); first | exact zf | refine zg ?_ | intro _ | refine And.intro rfl ?_ | refine ⟨_, hch, ?_⟩ | refine (hch).use ?_ | refine za ?_ | refine zl ?_ | refine sp_t (by first | (simp; done) | (simp; omega) | (simp at *; omega) | exact beq_eq_false_iff_ne.2 (by omega) | exact beq_eq_false_iff_ne.2 (by simp only [List.length_map]; omega) | exact beq_iff_eq.2 (by simp only [List.length_map]; omega) | exact bne_iff_ne.2 (by simp only [List.length_map]; omega)) ?_ | refine sp_f (by first | (simp; done) | (simp; omega) | (simp at *; omega) | exact beq_eq_false_iff_ne.2 (by omega) | exact beq_eq_false_iff_ne.2 (by simp only [List.length_map]; omega) | exact beq_iff_eq.2 (by simp only [List.length_map]; omega) | exact bne_iff_ne.2 (by simp only [List.length_map]; omega)) ?_ | fail)
  refine trace36 im hI f fn hf N _ hT ?_
  repeat' ((conv => whnf); first | exact zf | refine zg ?_ | intro _ | refine And.intro rfl ?_ | refine za ?_ | refine zl ?_ | fail)
  refine ⟨encFn fn, ⟨by omega, by simp [hf], rfl⟩, ?_⟩
  repeat' ((conv => whnf); first | exact zf | refine zg ?_ | intro _ | refine And.intro rfl ?_ | refine za ?_ | refine zl ?_ | fail)
  conv => whnf
  refine loop_use2 [(8, .mp 2), (10, .os 4), (48, .d (.int .i64 fn.code.length))] (fun i : Nat => i ≤ fn.code.length) (fun i => [(49, .d (.int .i64 i))]) (fun i => [.cells [.d (.sl 5 (im.cs.map encV)), .d (.sl 3 (im.fs.map encFn))], .rows 1 [], .dm (seenM s), .cells [.d (.int .i64 0), .d (.int .i64 0)], .rows 1 (rowsI (toldA fn.code.length i))]) (fun i => fn.code.length - i) 0 (Nat.zero_le _) ?_ ?_ ?_ (fun i hi => ?_)
  · exact ⟨wkb_of rfl, wkb_of rfl, wkb_of rfl, wkb_of (told0l fn.code), trivial⟩
  · exact ⟨wkB_of rfl, wkB_of rfl, wkB_of rfl, wkB_of rfl, wkB_of (told0 fn.code), trivial⟩
  · exact (by kernel_rfl)
  have htl : (rowsI (toldA fn.code.length i)).length = fn.code.length := by simp [rowsI, toldA]; omega
  repeat' ((conv => whnf); first | exact zf | refine zg ?_ | intro _ | refine And.intro rfl ?_ | refine za ?_ | refine zl ?_ | fail)
  refine sp_intro (fun hb => ?_) (fun hge => ?_)
  · have hlt : i < fn.code.length := by simpa using hb
    have hg := toldA_get hlt
    have hse := toldA_set hlt
    repeat' ((conv => whnf); first | exact zf | refine zg ?_ | intro _ | refine And.intro rfl ?_ | refine (And.intro ⟨by omega, by omega, rfl⟩ ?_) | refine ⟨_, hg, ?_⟩ | refine (hg).use ?_ | refine (.inl ⟨by unfold inR; omega, ?_⟩) | refine za ?_ | refine zl ?_ | fail)
    refine ⟨i + 1, hlt, Nat.sub_lt_sub_left hlt (Nat.lt_succ_self i), (by repeat' (first | exact trivial | exact rfl | exact Or.inl rfl | refine And.intro ?_ ?_ | refine Or.inr ?_)), ⟨wkB_of rfl, wkB_of rfl, wkB_of rfl, wkB_of rfl, wkB_of (congrArg (B.rows 1) hse), trivial⟩, rfl⟩
  · have hge : i = fn.code.length := by
      have : ¬ i < fn.code.length := by simpa using hge
      omega
    subst hge
    have hsrt := sorted_seen s hk1
    repeat' ((conv => whnf); first | exact zf | refine zg ?_ | intro _ | refine And.intro rfl ?_ | refine (.inr ?_ : (∃ _, _) ∨ _) | refine za ?_ | refine zl ?_ | fail)
    refine keys38 _ ?_
    repeat' ((conv => whnf); first | exact zf | refine zg ?_ | intro _ | refine And.intro rfl ?_ | refine (.inr ?_ : (∃ _, _) ∨ _) | refine za ?_ | refine zl ?_ | fail)
    refine hsrt.mono fun out h' hh => ?_
    obtain ⟨rfl, rfl⟩ := hh
    repeat' ((conv => whnf); first | exact zf | refine zg ?_ | intro _ | refine And.intro rfl ?_ | refine za ?_ | refine zl ?_ | fail)
    conv => whnf
    refine loop_use2 [(8, .mp 2), (10, .os 4), (58, .os 6), (59, .d (.int .i64 (rowsI (srt (s.map (·.1)))).length))] (fun i : Nat => i ≤ (srt (s.map (·.1))).length) (fun i => [(60, .d (.int .i64 i))]) (fun i => [.cells [.d (.sl 5 (im.cs.map encV)), .d (.sl 3 (im.fs.map encFn))], .rows 1 [], .dm (seenM s), .cells [.d (.int .i64 0), .d (.int .i64 0)], .rows 1 (rowsI (toldK fn.code.length s ((srt (s.map (·.1))).take i))), .cells [.mp 2], .rows 1 (rowsI (srt (s.map (·.1))))]) (fun i => (srt (s.map (·.1))).length - i) 0 (Nat.zero_le _) ?_ ?_ ?_ (fun i hi => ?_)
    · exact ⟨wkb_of rfl, wkb_of rfl, wkb_of rfl, wkb_of rfl, wkb_of rfl, trivial⟩
    · exact ⟨wkB_of rfl, wkB_of rfl, wkB_of rfl, wkB_of rfl, wkB_of (congrArg (B.rows 1) (toldA_end _ s)), wkB_of rfl, wkB_of rfl, trivial⟩
    · exact (by kernel_rfl)
    have htk : (rowsI (toldK fn.code.length s ((srt (s.map (·.1))).take i))).length = fn.code.length := by simp [rowsI, toldK]
    have hsl : (rowsI (srt (s.map (·.1)))).length = (srt (s.map (·.1))).length := by simp [rowsI]
    repeat' ((conv => whnf); first | exact zf | refine zg ?_ | intro _ | refine And.intro rfl ?_ | refine za ?_ | refine zl ?_ | fail)
    refine sp_intro (fun hb => ?_) (fun hge => ?_)
    · have hlt : i < (srt (s.map (·.1))).length := by
        have : (i : Int) < ((rowsI (srt (s.map (·.1)))).length : Int) := by simpa using hb
        omega
      obtain ⟨k, hk⟩ : ∃ k, (srt (s.map (·.1)))[i]? = some k := ⟨_, List.getElem?_eq_getElem hlt⟩
      obtain ⟨r, hr, k0, k1, hse, row, hrow⟩ := told_step (n := fn.code.length) hk hk1 hk2
      have hfn := fnd_seen k s 0
      rw [hr] at hfn
      have hrk : (rowsI (srt (s.map (·.1))))[i]? = some [.int .i64 k] := by simp [rowsI, hk]
      repeat' ((conv => whnf); first | exact zf | refine zg ?_ | intro _ | refine And.intro rfl ?_ | refine (And.intro ⟨by omega, by omega, rfl⟩ ?_) | refine ⟨_, hrk, ?_⟩ | refine (hrk).use ?_ | refine ⟨_, hfn, ?_⟩ | refine (hfn).use ?_ | refine ⟨_, hrow, ?_⟩ | refine (hrow).use ?_ | refine (.inl ⟨by unfold inR; omega, ?_⟩) | refine za ?_ | refine zl ?_ | fail)
      refine ⟨i + 1, hlt, Nat.sub_lt_sub_left hlt (Nat.lt_succ_self i), (by repeat' (first | exact trivial | exact rfl | exact Or.inl rfl | refine And.intro ?_ ?_ | refine Or.inr ?_)), ⟨wkB_of rfl, wkB_of rfl, wkB_of rfl, wkB_of rfl, wkB_of (congrArg (B.rows 1) hse), wkB_of rfl, wkB_of rfl, trivial⟩, rfl⟩
    · have hge : i = (srt (s.map (·.1))).length := by
        have : ¬ (i : Int) < ((rowsI (srt (s.map (·.1)))).length : Int) := by simpa using hge
        omega
      subst hge
      have hend : rowsI (toldK fn.code.length s ((srt (s.map (·.1))).take (srt (s.map (·.1))).length)) = rowsI (depthsV fn.code.length s) := by
        congr 1
        refine List.map_congr_left fun p _ => ?_
        rw [List.take_length]
        have hmem : (p : Int) ∈ srt (s.map (·.1)) ↔ (p : Int) ∈ s.map (·.1) := (List.mergeSort_perm _ _).mem_iff
        by_cases hm : (p : Int) ∈ s.map (·.1)
        · rw [if_pos (hmem.2 hm)]
          rfl
        · rw [if_neg (fun h => hm (hmem.1 h))]
          have : lookI s p 0 = none := lookI_none 0 hm
          rw [this]
      repeat' ((conv => whnf); first | exact zf | refine zg ?_ | intro _ | refine And.intro rfl ?_ | refine za ?_ | refine zl ?_ | fail)
      exact outs_eq (congrArg (fun r => V.d (.sl 1 r)) hend)
end Go.Proofs.YtoibcfioicdlhaaGreatDoor
namespace Go.Proofs.YtoibcfioicdlhaaGreatDoor
open Go.Vx
set_option maxRecDepth 100000
theorem modN {p : Int} (h : 0 ≤ p ∧ p ≤ 255) (k : Nat) (hk : 0 < k) : ∃ n : Nat, p.tmod k = n ∧ n < k := by
  refine ⟨p.toNat % k, ?_, Nat.mod_lt _ hk⟩
  have e : p = (p.toNat : Int) := (Int.toNat_of_nonneg h.1).symm
  rw [e, ← Int.ofNat_tmod]
  simp
end Go.Proofs.YtoibcfioicdlhaaGreatDoor
namespace Go.Proofs.YtoibcfioicdlhaaGreatDoor
open Go.Vx
set_option maxRecDepth 100000
def opk (c : Int) : Option (Int × Int × Int) := (inf c).map fun i => (i.ar, bif c == 17 then i.po + 1 else i.po, i.pu)
def ctl (c : Int) : Bool := c == 15 || (c == 16 || (c == 18 || (c == 19 || (c == 20 || (c == 21 || (c == 24 || c == 31))))))
def aOk (ar a : Int) : Bool :=
  bif ar == 0 then a == 0 else bif ar == 1 then decide (0 ≤ a) && decide (a < 16) else bif ar == 2 then decide (0 ≤ a) && decide (a < 8) else bif ar == 4 then decide (0 ≤ a) && decide (a < 3) else bif ar == 5 then decide (0 ≤ a) && decide (a ≤ 63) else false
inductive Str : Int → List Op → Int → Prop
  | nil (h : Int) : Str h [] h
  | cons {c a ar t p h h' : Int} {r : List Op} (hk : opk c = some (ar, t, p)) (hc : ctl c = false) (ha : aOk ar a = true) (h1 : t ≤ h) (h2 : h - t + p ≤ 8) (hr : Str (h - t + p) r h') : Str h (⟨c, a⟩ :: r) h'
def Deed (d : List Op) : Prop := (Str 0 d 0 ∧ d ≠ [] ∧ (d.getLast?.map (·.c)) ≠ some 19 ∧ d.length ≤ 8) ∨ ∃ n : Int, 0 ≤ n ∧ n < 8 ∧ d = [⟨1, n⟩, ⟨19, 0⟩]
def mkH (l : List Int) (a : Int) (c : List Op) : H := [.cells [.d (.sl 1 (rowsU l)), .d (.int .i64 a), .os 1], .rows 2 (c.map encO)]
def byts (l : List Int) : Prop := ∀ x ∈ l, 0 ≤ x ∧ x ≤ 255
theorem tm8 {n : Int} (h : 0 ≤ n ∧ n ≤ 255) (k : Int) (hk : 0 < k) : 0 ≤ n.tmod k ∧ n.tmod k < k := by
  rw [Int.tmod_eq_emod_of_nonneg h.1]
  exact ⟨Int.emod_nonneg _ (by omega), Int.emod_lt_of_pos _ hk⟩
theorem pick4 {x0 x1 x2 x3 i : Int} {Q : Prop} (hi : 0 ≤ i ∧ i < 4) (h0 : 0 ≤ x0 ∧ x0 < 8) (h1 : 0 ≤ x1 ∧ x1 < 8) (h2 : 0 ≤ x2 ∧ x2 < 8) (h3 : 0 ≤ x3 ∧ x3 < 8)
    (hQ : ∀ x, 0 ≤ x ∧ x < 8 → [[D.int .i64 x0], [D.int .i64 x1], [D.int .i64 x2], [D.int .i64 x3]][i.toNat]? = some [D.int .i64 x] → Q) : Q := by
  have h : i = 0 ∨ i = 1 ∨ i = 2 ∨ i = 3 := by omega
  rcases h with rfl | rfl | rfl | rfl
  · exact hQ x0 h0 rfl
  · exact hQ x1 h1 rfl
  · exact hQ x2 h2 rfl
  · exact hQ x3 h3 rfl
theorem pickE {x0 x1 x2 x3 i : Int} {K : List D → Prop} (hi : 0 ≤ i ∧ i < 4) (h0 : 0 ≤ x0 ∧ x0 < 8) (h1 : 0 ≤ x1 ∧ x1 < 8) (h2 : 0 ≤ x2 ∧ x2 < 8) (h3 : 0 ≤ x3 ∧ x3 < 8)
    (hQ : ∀ x, 0 ≤ x ∧ x < 8 → K [D.int .i64 x]) : ∃ row, (0 ≤ i ∧ [[D.int .i64 x0], [D.int .i64 x1], [D.int .i64 x2], [D.int .i64 x3]][i.toNat]? = some row ∧ Nat.beq 1 1 = true) ∧ K row :=
  pick4 hi h0 h1 h2 h3 fun x hx hr => ⟨_, ⟨hi.1, hr, rfl⟩, hQ x hx⟩
theorem opk_num {c : Int} (h : 7 ≤ c ∧ c ≤ 13) : opk c = some (0, 2, 1) ∧ ctl c = false := by
  have : c = 7 ∨ c = 8 ∨ c = 9 ∨ c = 10 ∨ c = 11 ∨ c = 12 ∨ c = 13 := by omega
  rcases this with rfl | rfl | rfl | rfl | rfl | rfl | rfl <;> exact ⟨rfl, rfl⟩
theorem opk_jm {c : Int} (h : 22 ≤ c ∧ c ≤ 23) : opk c = some (0, 2, 1) ∧ ctl c = false := by
  have : c = 22 ∨ c = 23 := by omega
  rcases this with rfl | rfl <;> exact ⟨rfl, rfl⟩
theorem opk_cc {c : Int} (h : 25 ≤ c ∧ c ≤ 26) : opk c = some (0, 0, 1) ∧ ctl c = false := by
  have : c = 25 ∨ c = 26 := by omega
  rcases this with rfl | rfl <;> exact ⟨rfl, rfl⟩
theorem opk_dl {c : Int} (h : 42 ≤ c ∧ c ≤ 43) : opk c = some (0, 1, 0) ∧ ctl c = false := by
  have : c = 42 ∨ c = 43 := by omega
  rcases this with rfl | rfl <;> exact ⟨rfl, rfl⟩
theorem Str.via {c a ar t p h h' : Int} {r : List Op} (hk : opk c = some (ar, t, p) ∧ ctl c = false) (ha : aOk ar a = true) (h1 : t ≤ h) (h2 : h - t + p ≤ 8) (hr : Str (h - t + p) r h') : Str h (⟨c, a⟩ :: r) h' := .cons hk.1 hk.2 ha h1 h2 hr
end Go.Proofs.YtoibcfioicdlhaaGreatDoor
namespace Go.Proofs.YtoibcfioicdlhaaGreatDoor
open Go.Vx
set_option maxRecDepth 100000
theorem int32 {k : Int} (h : 0 ≤ k ∧ k < 32) : k = 0 ∨ k = 1 ∨ k = 2 ∨ k = 3 ∨ k = 4 ∨ k = 5 ∨ k = 6 ∨ k = 7 ∨ k = 8 ∨ k = 9 ∨ k = 10 ∨ k = 11 ∨ k = 12 ∨ k = 13 ∨ k = 14 ∨ k = 15 ∨ k = 16 ∨ k = 17 ∨ k = 18 ∨ k = 19 ∨ k = 20 ∨ k = 21 ∨ k = 22 ∨ k = 23 ∨ k = 24 ∨ k = 25 ∨ k = 26 ∨ k = 27 ∨ k = 28 ∨ k = 29 ∨ k = 30 ∨ k = 31 := by omega
end Go.Proofs.YtoibcfioicdlhaaGreatDoor
namespace Go.Proofs.YtoibcfioicdlhaaGreatDoor
open Go.Vx
set_option maxRecDepth 100000
def Part (b : Int) (p : List Op) : Prop :=
  ∃ d, Deed d ∧ (p = d ∨ p = [⟨2, 1⟩, ⟨16, b + 2 + d.length⟩] ++ d ∨
    (d.getLast?.map (·.c) = some 19 ∧ p = [⟨20, b + 1 + d.length⟩] ++ d ++ [⟨3, 1⟩]) ∨
    (d.getLast?.map (·.c) ≠ some 19 ∧ p = [⟨20, b + 3 + d.length⟩] ++ d ++ [⟨21, 0⟩, ⟨15, b + 4 + d.length⟩, ⟨3, 1⟩]))
theorem Deed.ne {d : List Op} (h : Deed d) : d ≠ [] := by
  rcases h with h | ⟨n, _, _, rfl⟩
  · exact h.2.1
  · simp
theorem Deed.len {d : List Op} (h : Deed d) : 0 < d.length ∧ d.length ≤ 8 := by
  refine ⟨List.length_pos_iff.2 h.ne, ?_⟩
  rcases h with h | ⟨n, _, _, rfl⟩
  · exact h.2.2.2
  · simp
theorem Deed.last {d : List Op} (h : Deed d) : ∃ o, d.getLast? = some o ∧ ∀ c : List Op, ((c ++ d).map encO)[(((c ++ d).map encO).length - 1 : Int).toNat]? = some (encO o) := by
  have hl := h.len
  refine ⟨d.getLast h.ne, List.getLast?_eq_some_getLast h.ne, fun c => ?_⟩
  have e : ((((c ++ d).map encO).length : Int) - 1).toNat = (c ++ d).length - 1 := by simp only [List.length_map]; omega
  rw [e, List.getElem?_map, List.getElem?_append_right (by rw [List.length_append]; omega), List.length_append, show c.length + d.length - 1 - c.length = d.length - 1 by omega, List.getLast_eq_getElem, List.getElem?_eq_getElem (by omega)]
  rfl
theorem get_mid (c d : List Op) (x : Op) : ((c ++ ([x] ++ d)).map encO)[c.length]? = some (encO x) := by simp
theorem set_mid (c d : List Op) (x y : Op) : ((c ++ ([x] ++ d)).map encO).set c.length (encO y) = (c ++ ([y] ++ d)).map encO := by
  rw [List.map_append, List.map_append, List.set_append_right _ _ (by simp)]
  simp
end Go.Proofs.YtoibcfioicdlhaaGreatDoor
namespace Go.Proofs.YtoibcfioicdlhaaGreatDoor
open Go.Vx
set_option maxRecDepth 100000
structure Lbl where
  s : List UInt8
  i : List UInt8
def lbl8 : List Lbl := [⟨[], []⟩, ⟨[1], []⟩, ⟨[2], []⟩, ⟨[1, 2], []⟩, ⟨[3], []⟩, ⟨[], [1]⟩, ⟨[1], [1]⟩, ⟨[0], []⟩]
def rowL (l : Lbl) : List D := [.str l.s, .str l.i]
def mkV (l : Lbl) : Va := ⟨2, 0, [], l.s, l.i⟩
def num8 : List Int := [0, 1, 2, 3, 4, 5, 9, 14]
def cs16 : List Va := num8.map num ++ lbl8.map mkV
inductive Parts : List Op → Nat → Prop
  | nil : Parts [] 0
  | snoc {c p : List Op} {k : Nat} (h : Parts c k) (hp : Part c.length p) : Parts (c ++ p) (k + 1)
def GoodCode (c : List Op) : Prop := ∃ (p : List Op) (k : Nat) (n : Int), Parts p k ∧ 1 ≤ k ∧ k ≤ 12 ∧ 0 ≤ n ∧ n < 8 ∧ c = p ++ [⟨2, n⟩, ⟨18, 0⟩]
def GoodFn (f : Fn) : Prop := f.args = 1 ∧ f.vars = 7 ∧ GoodCode f.code
def GoodIm (im : Im) : Prop := im.cs = cs16 ∧ im.fs.length = 3 ∧ ∀ f ∈ im.fs, GoodFn f
def g1 (i : Nat) : H :=
  match i with
  | 0 => [.cells [.nl 5, .nl 3], .cells [.nl 5, .nl 3]]
  | i + 1 => [.cells [.nl 5, .nl 3], .cells [.os 2, .nl 3], .rows 5 (((num8.take (i + 1)).map num).map encV)]
theorem Part.len {b : Int} {p : List Op} (h : Part b p) : p.length ≤ 12 := by
  obtain ⟨d, hd, h⟩ := h
  have := hd.len
  rcases h with rfl | rfl | ⟨_, rfl⟩ | ⟨_, rfl⟩ <;> simp <;> omega
def cB : B := .rows 5 (cs16.map encV)
def g3 (i : Nat) (fs : List Fn) : H :=
  match i with
  | 0 => [.cells [.nl 5, .nl 3], .cells [.os 2, .nl 3], cB]
  | _ + 1 => [.cells [.nl 5, .nl 3], .cells [.os 2, .os 5], cB, .no, .no, .rows 3 (fs.map encFn)]
theorem fn_app (fs : List Fn) (f : Fn) {r : List (List D)} (h : r = fs.map encFn ++ [encFn f]) : B.rows 3 r = B.rows 3 ((fs ++ [f]).map encFn) := by
  rw [h, List.map_append]
  rfl
def gI0 (l : List Int) (k : Nat) (a : Int) (c : List Op) : H :=
  match k with
  | 0 => [.cells [.nl 5, .nl 3], .cells [.os 2, .nl 3], cB, .cells [.d (.sl 1 (rowsU l)), .d (.int .i64 0), .nl 2]]
  | _ + 1 => [.cells [.nl 5, .nl 3], .cells [.os 2, .nl 3], cB, .cells [.d (.sl 1 (rowsU l)), .d (.int .i64 a), .os 4], .rows 2 (c.map encO)]
def gI6 (fs : List Fn) (l : List Int) (k : Nat) (a : Int) (c : List Op) : H :=
  match k with
  | 0 => [.cells [.nl 5, .nl 3], .cells [.os 2, .os 5], cB, .no, .no, .rows 3 (fs.map encFn), .cells [.d (.sl 1 (rowsU l)), .d (.int .i64 0), .nl 2]]
  | _ + 1 => [.cells [.nl 5, .nl 3], .cells [.os 2, .os 5], cB, .no, .no, .rows 3 (fs.map encFn), .cells [.d (.sl 1 (rowsU l)), .d (.int .i64 a), .os 7], .rows 2 (c.map encO)]
def PI (q : Nat × Int × List Op) : Prop := Parts q.2.2 q.1 ∧ q.1 ≤ 12 ∧ 0 ≤ q.2.1 ∧ q.2.1 ≤ 20 * q.1 ∧ q.2.2.length ≤ 12 * q.1
theorem PI.step {k : Nat} {a a' : Int} {c c' : List Op} (h : PI (k, a, c)) (hk : k < 12) (hc : ∃ p, Part c.length p ∧ c' = c ++ p) (ha : a ≤ a' ∧ a' ≤ a + 20) : PI (k + 1, a', c') := by
  obtain ⟨h1, h2, h3, h4, h5⟩ := h
  obtain ⟨p, hp, rfl⟩ := hc
  have hpl := hp.len
  simp only at h1 h2 h3 h4 h5
  exact ⟨.snoc h1 hp, hk, by simp only; omega, by simp only; omega, by simp only [List.length_append]; omega⟩
theorem PI.good {k : Nat} {a : Int} {c : List Op} (h : PI (k + 1, a, c)) {n : Int} (hn : 0 ≤ n ∧ n < 8) : GoodFn ⟨1, 7, c ++ [⟨2, n⟩] ++ [⟨18, 0⟩]⟩ :=
  ⟨rfl, rfl, c, k + 1, n, h.1, Nat.le_add_left 1 k, h.2.1, hn.1, hn.2, by rw [List.append_assoc]; rfl⟩
end Go.Proofs.YtoibcfioicdlhaaGreatDoor
namespace Go.Proofs.YtoibcfioicdlhaaGreatDoor
open Go.Vx
set_option maxRecDepth 100000
theorem right78M (l : Lb) (hl : smL l) (hr : okL l = true) : SatP Tryz.prog 78 [agV ⟨2, 0, [], l.s, l.i⟩] (.d (.bool true)) := by
  have h1 := rightL116 l hl
  rw [hr] at h1
  refine s78 (keep := false) rfl ?_
  repeat' ((conv => whnf); first | exact zf | refine zg ?_ | intro _ | refine And.intro rfl ?_ | refine ⟨_, h1, ?_⟩ | refine (h1).use ?_ | refine (sp_t (by simp) ?_) | refine za ?_ | refine zl ?_ | fail)
def lb (l : Lbl) : Lb := ⟨l.s, l.i⟩
theorem lbl8_ok : lbl8.all (fun l => okL (lb l)) = true := by kernel_rfl
theorem okC_mk (l : Lbl) (h : l ∈ lbl8) : okC1 (mkV l) := by
  have h1 := List.all_eq_true.1 lbl8_ok l h
  have h2 : l.s.length ≤ 2 ∧ l.i.length ≤ 2 := by
    have : lbl8.all (fun l => decide (l.s.length ≤ 2) && decide (l.i.length ≤ 2)) = true := by kernel_rfl
    have := List.all_eq_true.1 this l h
    simpa using this
  exact ⟨.inr rfl, right78M (lb l) ⟨Nat.le_trans h2.1 (by decide), Nat.le_trans h2.2 (by decide)⟩ h1⟩
theorem cs16_ok : ∀ v ∈ cs16, okC1 v := by
  intro v hv
  rcases List.mem_append.1 hv with h | h
  · obtain ⟨x, _, rfl⟩ := List.mem_map.1 h
    exact ⟨.inl rfl, right78I x⟩
  · obtain ⟨x, hx, rfl⟩ := List.mem_map.1 h
    exact okC_mk x hx
theorem GoodIm.ok {im : Im} (h : GoodIm im) (hf : ∀ f, GoodFn f → okFn f = true) : OkIm im :=
  ⟨by rw [h.1]; decide, by rw [h.1]; exact cs16_ok, by rw [h.2.1]; decide, by rw [h.2.1]; decide, fun f hm => hf f (h.2.2 f hm)⟩
end Go.Proofs.YtoibcfioicdlhaaGreatDoor
