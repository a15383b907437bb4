/- A function that is verified: verify.trace in the picture. Conditions: the program is right. -/
import Derived.Test.YtoibcfioicdlhaaGreatDoorRBA
namespace Go.Proofs.YtoibcfioicdlhaaGreatDoor
open Go.Vx
set_option maxRecDepth 100000

theorem through84 {K : Out → H → Prop} (im : Im) (fn : Fn) (x : Int) (o : Op) (i : Info) (s : Sn) (l : List Int) (hI : OkIm im) (h0 : 0 ≤ x ∧ x < 1000) (ho : fn.code[x.toNat]? = some o) (hi : inf o.c = some i) (hoe : opErr im fn o = none) (ha : 0 ≤ o.a) (j : Nat) (h : Int × Int) (hl : lookI s x 0 = some (j, h)) (hh : -1000 ≤ h.1 ∧ h.1 ≤ 1000 ∧ -1000 ≤ h.2 ∧ h.2 ≤ 1000)
    (hk : fin4 K im fn x (thr im fn.code.length o i x h s l)) : Sat Tryz.prog 84 [.p 0 0, .d (.int .i64 x)] (wB im fn s l) K := by
  obtain ⟨d, t⟩ := h
  by_cases h15 : o.c = 15
  · exact thr_jump im fn x o i s l h0 ho hi j d t hl hh h15 hk
  by_cases h16 : o.c = 16
  · exact thr_if im fn x o i s l h0 ho hi j d t hl hh h16 hk
  by_cases h17 : o.c = 17
  · have h4 : i.ar = 4 := by
      rw [h17] at hi
      have : inf 17 = some ⟨[99, 97, 108, 108], 4, 0, 1⟩ := rfl
      rw [this] at hi
      cases hi; rfl
    have hlt : o.a < im.fs.length := by
      simp only [opErr, hi, h4] at hoe
      cases hd : decide (o.a < (im.fs.length : Int)) with
      | true => simpa using hd
      | false =>
        unfold opErrA at hoe
        rw [hd] at hoe
        cases hoe
    obtain ⟨g, hg⟩ : ∃ g, im.fs[o.a.toNat]? = some g := ⟨_, List.getElem?_eq_getElem (by omega)⟩
    have hgo := hI.f3 g (List.mem_of_getElem? hg)
    simp only [okFn, Bool.and_eq_true, decide_eq_true_eq] at hgo
    exact thr_call im fn x o i s l h0 ho hi j d t hl hh h17 g ha hg ⟨hgo.1, hgo.2.1⟩ hk
  by_cases h18 : o.c = 18 ∨ o.c = 19
  · exact thr_last im fn x o i s l h0 ho hi j d t hl hh h18 hk
  by_cases h20 : o.c = 20
  · exact thr_try im fn x o i s l h0 ho hi j d t hl hh h20 hk
  by_cases h21 : o.c = 21
  · exact thr_end im fn x o i s l h0 ho hi j d t hl hh h21 hk
  · exact thr_norm im fn x o i s l h0 ho hi j d t hl hh ⟨h15, h16, h17, fun e => h18 (.inl e), fun e => h18 (.inr e), h20, h21⟩ hk

theorem through84e {K : Out → H → Prop} (im : Im) (fn : Fn) (x : Int) (o : Op) (i : Info) (s : Sn) (l : List Int) (ol : List (D × Bool × List D)) (hol : ol = openM l) (hI : OkIm im) (h0 : 0 ≤ x ∧ x < 1000) (ho : fn.code[x.toNat]? = some o) (hi : inf o.c = some i) (hoe : opErr im fn o = none) (ha : 0 ≤ o.a) (j : Nat) (h : Int × Int) (hl : lookI s x 0 = some (j, h)) (hh : -1000 ≤ h.1 ∧ h.1 ≤ 1000 ∧ -1000 ≤ h.2 ∧ h.2 ≤ 1000)
    (hk : fin4 K im fn x (thr im fn.code.length o i x h s l)) : Sat Tryz.prog 84 [.p 0 0, .d (.int .i64 x)] [.cells [.d (.sl 5 (im.cs.map encV)), .d (.sl 3 (im.fs.map encFn)), .d (.int .i64 fn.args), .d (.int .i64 fn.vars), .d (.sl 2 (fn.code.map encO)), .mp 1, .mp 2], .dm (seenM s), .dm ol] K := by
  subst hol
  exact through84 im fn x o i s l hI h0 ho hi hoe ha j h hl hh hk
theorem memI_mem {x : Int} : ∀ {l : List Int} (i : Nat), x ∈ l → ∃ j, memI l x i = some j
  | p :: r, i, h => by
    simp only [memI]
    cases hx : x == p with
    | true => exact ⟨i, rfl⟩
    | false =>
      rcases List.mem_cons.1 h with h | h
      · subst h; simp at hx
      · exact memI_mem (i + 1) h

theorem rec80m {K : H → Prop} (es : List (D × Bool × List D)) (a b : D) (hk : K [.cells [.mp 1], .dm es, .cells [.d a, .d b]]) : SatD Tryz.prog 80 [.p 0 0, .p 2 0] [.cells [.mp 1], .dm es, .cells [.d a, .d b]] none K := by
  refine s80 rfl ?_
  repeat' ((conv => whnf); first | ((with_reducible refine And.intro (?_ : @Eq Out _ _) (?_ : @Eq H _ _)) <;> exact rfl) | ((with_reducible refine And.intro (?_ : @Eq Out _ _) (?_ : @Eq H _ _)); rotate_left; exact rfl) | intro _ | refine And.intro rfl ?_ | refine apn_own ?_ | refine bsn_data ?_ | refine fro_nil ?_ | refine cfo_old ?_ | ((first | refine .inl (And.intro ?_ ?_) | refine And.intro ?_ ?_); focus ((repeat' apply And.intro) <;> first | rfl | omega | (unfold inR; omega) | (simp; done) | (unfold inR; simp at *; omega) | (simp at *; omega) | (intros; contradiction))) | fail)
  exact hk
theorem rec80s {K : H → Prop} (x a b : D) (p e : Int) (hk : K [.cells [.d .nm], .cells [.d (.int .i64 p), .d (.int .i64 e)], .cells [.d (.int .i64 p), .d (.int .i64 e)]]) : SatD Tryz.prog 80 [.p 0 0, .p 1 0] [.cells [.d x], .cells [.d a, .d b]] (some (flt p e)) K := by
  refine s80 rfl ?_
  repeat' ((conv => whnf); first | ((with_reducible refine And.intro (?_ : @Eq Out _ _) (?_ : @Eq H _ _)) <;> exact rfl) | ((with_reducible refine And.intro (?_ : @Eq Out _ _) (?_ : @Eq H _ _)); rotate_left; exact rfl) | intro _ | refine And.intro rfl ?_ | refine apn_own ?_ | refine bsn_data ?_ | refine fro_nil ?_ | refine cfo_old ?_ | ((first | refine .inl (And.intro ?_ ?_) | refine And.intro ?_ ?_); focus ((repeat' apply And.intro) <;> first | rfl | omega | (unfold inR; omega) | (simp; done) | (unfold inR; simp at *; omega) | (simp at *; omega) | (intros; contradiction))) | fail)
  exact hk
theorem keys83 {K : Out → H → Prop} (es : List (D × Bool × List D)) (hk : K (.ret (.fc 119 [.p 1 0])) [.dm es, .cells [.mp 0]]) : Sat Tryz.prog 83 [.mp 0] [.dm es] K := by
  refine s83 (keep := false) rfl ?_
  repeat' ((conv => whnf); first | ((with_reducible refine And.intro (?_ : @Eq Out _ _) (?_ : @Eq H _ _)) <;> exact rfl) | ((with_reducible refine And.intro (?_ : @Eq Out _ _) (?_ : @Eq H _ _)); rotate_left; exact rfl) | intro _ | refine And.intro rfl ?_ | refine apn_own ?_ | refine bsn_data ?_ | refine fro_nil ?_ | refine cfo_old ?_ | ((first | refine .inl (And.intro ?_ ?_) | refine And.intro ?_ ?_); focus ((repeat' apply And.intro) <;> first | rfl | omega | (unfold inR; omega) | (simp; done) | (unfold inR; simp at *; omega) | (simp at *; omega) | (intros; contradiction))) | fail)
  exact hk
theorem keys38 {K : Out → H → Prop} (es : List (D × Bool × List D)) (hk : K (.ret (.fc 87 [.p 1 0])) [.dm es, .cells [.mp 0]]) : Sat Tryz.prog 38 [.mp 0] [.dm es] K := by
  refine s38 (keep := false) rfl ?_
  repeat' ((conv => whnf); first | ((with_reducible refine And.intro (?_ : @Eq Out _ _) (?_ : @Eq H _ _)) <;> exact rfl) | ((with_reducible refine And.intro (?_ : @Eq Out _ _) (?_ : @Eq H _ _)); rotate_left; exact rfl) | intro _ | refine And.intro rfl ?_ | refine apn_own ?_ | refine bsn_data ?_ | refine fro_nil ?_ | refine cfo_old ?_ | ((first | refine .inl (And.intro ?_ ?_) | refine And.intro ?_ ?_); focus ((repeat' apply And.intro) <;> first | rfl | omega | (unfold inR; omega) | (simp; done) | (unfold inR; simp at *; omega) | (simp at *; omega) | (intros; contradiction))) | fail)
  exact hk
theorem eg119 : ∀ args w, (callFunc 119 args).run Tryz.prog w = .ok (.enter 119 args) w := Go.Proofs.enters_of Tryz.func119 (by kernel_rfl) rfl
theorem eg87 : ∀ args w, (callFunc 87 args).run Tryz.prog w = .ok (.enter 87 args) w := Go.Proofs.enters_of Tryz.func87 (by kernel_rfl) rfl

/-- Keys that may be sorted. -/
def okKs (l : List Int) : Bool := decide (l.length ≤ 1000) && (decide l.Nodup && l.all fun x => decide (0 ≤ x) && decide (x < 1000))
theorem sorted_open (l : List Int) (h : okKs l = true) : Sat Tryz.prog 37 [.fc 119 [.p 0 0]] [.cells [.mp 1], .dm (openM l)] fun out h => out = .ret (.os 2) ∧ h = [.cells [.mp 1], .dm (openM l), .rows 1 (rowsI (srt l))] := by
  simp only [okKs, Bool.and_eq_true, decide_eq_true_eq, List.all_eq_true] at h
  exact sorted37 keysB (by rfl) (by rfl) (by decide) eg119 (openM l) l (by simp [openM]) (fun n hn => by have := h.2.2 n hn; unfold inR; omega) h.2.1 (by omega)
theorem sorted_seen (s : Sn) (h : okKs (s.map (·.1)) = true) : Sat Tryz.prog 37 [.fc 87 [.p 0 0]] [.cells [.mp 1], .dm (seenM s)] fun out h => out = .ret (.os 2) ∧ h = [.cells [.mp 1], .dm (seenM s), .rows 1 (rowsI (srt (s.map (·.1))))] := by
  simp only [okKs, Bool.and_eq_true, decide_eq_true_eq, List.all_eq_true] at h
  exact sorted37 keysS (by rfl) (by rfl) (by decide) eg87 (seenM s) (s.map (·.1)) (by simp [seenM]) (fun n hn => by have := h.2.2 n hn; unfold inR; omega) h.2.1 (by omega)

/-- The first operand that is wrong. -/
def opsErr (im : Im) (fn : Fn) : List Op → Int → Option (Int × Int)
  | [], _ => none
  | o :: r, x => match opErr im fn o with
    | some e => some (x, e)
    | none => opsErr im fn r (x + 1)
def okHr (x : Int) (h : Int × Int) : Bool := decide (0 ≤ x) && (decide (x < 1000) && (decide (-1000 ≤ h.1) && (decide (h.1 ≤ 1000) && (decide (-1000 ≤ h.2) && decide (h.2 ≤ 1000)))))
def insI (x : Int) : List Int → List Int
  | [] => [x]
  | y :: r => bif decide (x ≤ y) then x :: y :: r else y :: insI x r
def isort : List Int → List Int
  | [] => []
  | x :: r => insI x (isort r)
theorem insI_perm (x : Int) : ∀ l, (insI x l).Perm (x :: l)
  | [] => .refl _
  | y :: r => by
    simp only [insI]
    cases decide (x ≤ y) with
    | true => exact .refl _
    | false => exact ((insI_perm x r).cons y).trans (.swap x y r)
theorem isort_perm : ∀ l, (isort l).Perm l
  | [] => .refl _
  | x :: r => (insI_perm x _).trans ((isort_perm r).cons x)
theorem insI_sorted (x : Int) : ∀ l : List Int, l.Pairwise (· ≤ ·) → (insI x l).Pairwise (· ≤ ·)
  | [], _ => by simp [insI]
  | y :: r, h => by
    obtain ⟨h1, h2⟩ := List.pairwise_cons.1 h
    simp only [insI]
    cases hd : decide (x ≤ y) with
    | true =>
      simp only [decide_eq_true_eq] at hd
      exact List.pairwise_cons.2 ⟨fun z hz => by
        rcases List.mem_cons.1 hz with rfl | hz
        · exact hd
        · exact Int.le_trans hd (h1 z hz), h⟩
    | false =>
      simp only [decide_eq_false_iff_not] at hd
      refine List.pairwise_cons.2 ⟨fun z hz => ?_, insI_sorted x r h2⟩
      rcases List.mem_cons.1 ((insI_perm x r).mem_iff.1 hz) with rfl | hz
      · omega
      · exact h1 z hz
theorem isort_sorted : ∀ l : List Int, (isort l).Pairwise (· ≤ ·)
  | [] => by simp [isort]
  | x :: r => insI_sorted x _ (isort_sorted r)
theorem srt_eq (l : List Int) : srt l = isort l := by
  have tr : ∀ a b c : Int, decide (a ≤ b) = true → decide (b ≤ c) = true → decide (a ≤ c) = true := fun a b c h1 h2 => by simp only [decide_eq_true_eq] at *; exact Int.le_trans h1 h2
  have to : ∀ a b : Int, (decide (a ≤ b) || decide (b ≤ a)) = true := fun a b => by simp only [Bool.or_eq_true, decide_eq_true_eq]; exact Int.le_total a b
  refine List.Perm.eq_of_pairwise (le := fun a b : Int => a ≤ b) (fun a b _ _ h1 h2 => Int.le_antisymm h1 h2) ?_ (isort_sorted l) ((List.mergeSort_perm _ _).trans (isort_perm l).symm)
  exact (List.pairwise_mergeSort tr to l).imp fun h => by simpa using h
/-- The ops that are open are gone through, the least first; nothing of what takes longer. -/
def loopV (im : Im) (fn : Fn) : Nat → Sn → List Int → Option (Except (Int × Int) Sn)
  | 0, _, _ => none
  | n + 1, s, l => bif okKs l then (match isort l with
    | [] => some (.ok s)
    | x :: _ => (match lookI s x 0, fn.code[x.toNat]? with
      | some (_, h), some o => bif okHr x h then (match inf o.c with
        | some i => (match thr im fn.code.length o i x h s (era l x) with
          | .ok q => loopV im fn n q.1 q.2
          | .error e => some (.error (x, e)))
        | none => none) else none
      | _, _ => none)) else none
def traceV (im : Im) (fn : Fn) (n : Nat) : Option (Except (Int × Int) Sn) :=
  match opsErr im fn fn.code 0 with
  | some e => some (.error e)
  | none => loopV im fn n [(0, (0, 0))] [0]

theorem opsErr_none {im : Im} {fn : Fn} : ∀ {l : List Op} {x : Int}, opsErr im fn l x = none → ∀ o ∈ l, opErr im fn o = none
  | p :: r, x, h, o, ho => by
    simp only [opsErr] at h
    cases hp : opErr im fn p with
    | some e => rw [hp] at h; cases h
    | none =>
      rw [hp] at h
      rcases List.mem_cons.1 ho with ho | ho
      · subst ho; exact hp
      · exact opsErr_none h o ho
theorem fin4_cases {K : Out → H → Prop} {im : Im} {fn : Fn} {x : Int} {r : Except Int (Sn × List Int)} (h1 : ∀ q, r = .ok q → K (.ret (.tu [])) (wB im fn q.1 q.2)) (h2 : ∀ e, r = .error e → ∀ s l, K (.pan (flt x e)) (wB im fn s l)) : fin4 K im fn x r := by
  cases r with
  | ok q => exact h1 q rfl
  | error e => exact h2 e rfl
/-- What the frame's closure leaves. -/
def fin5 (K : Out → H → Prop) (r : Except (Int × Int) Sn) : Prop :=
  match r with
  | .ok s => K (.ret (.tu [.mp 0, .ag [.d (.int .i64 0), .d (.int .i64 0)]])) [.dm (seenM s)]
  | .error e => K (.ret (.tu [.d .nm, .ag [.d (.int .i64 e.1), .d (.int .i64 e.2)]])) []

theorem srt_nil {l : List Int} (h : srt l = []) : l = [] := by
  have := congrArg List.length h
  simp only [srt, List.length_mergeSort, List.length_nil] at this
  exact List.eq_nil_of_length_eq_zero this

set_option maxRecDepth 100000 in
set_option maxHeartbeats 4000000 in
theorem trace36 {K : Out → H → Prop} (im : Im) (hI : OkIm im) (f : Nat) (fn : Fn) (hf : im.fs[f]? = some fn) (n : Nat) (R : Except (Int × Int) Sn) (hR : traceV im fn n = some R) (hk : fin5 K R) : Sat Tryz.prog 36 [agI im, .d (.int .i64 f)] [] K := by
  have hfn := hI.f3 fn (List.mem_of_getElem? hf)
  have hfn' := hfn
  simp only [okFn, Bool.and_eq_true, decide_eq_true_eq, List.all_eq_true] at hfn
  obtain ⟨f1, f2, f3, f4, f5, f6, f7, f8⟩ := hfn
  have hfl : f < im.fs.length := (List.getElem?_eq_some_iff.1 hf).1
  have hfl2 := hI.f2
  refine s36 (keep := false) rfl ?_
  unfold fdx
  repeat' ((conv => whnf); first | ((with_reducible refine And.intro (?_ : @Eq Out _ _) (?_ : @Eq H _ _)) <;> exact rfl) | ((with_reducible refine And.intro (?_ : @Eq Out _ _) (?_ : @Eq H _ _)); rotate_left; exact rfl) | intro _ | refine And.intro rfl ?_ | refine apn_own ?_ | refine bsn_data ?_ | refine fro_nil ?_ | refine cfo_old ?_ | ((first | refine .inl (And.intro ?_ ?_) | refine And.intro ?_ ?_); focus ((repeat' apply And.intro) <;> first | rfl | omega | (unfold inR; omega) | (simp; done) | (unfold inR; simp at *; omega) | (simp at *; omega) | (intros; contradiction))) | fail)
  refine ⟨encFn fn, ⟨by omega, by simp [hf], rfl⟩, ?_⟩
  repeat' ((conv => whnf); first | ((with_reducible refine And.intro (?_ : @Eq Out _ _) (?_ : @Eq H _ _)) <;> exact rfl) | ((with_reducible refine And.intro (?_ : @Eq Out _ _) (?_ : @Eq H _ _)); rotate_left; exact rfl) | intro _ | refine And.intro rfl ?_ | refine apn_own ?_ | refine bsn_data ?_ | refine fro_nil ?_ | refine cfo_old ?_ | ((first | refine .inl (And.intro ?_ ?_) | refine And.intro ?_ ?_); focus ((repeat' apply And.intro) <;> first | rfl | omega | (unfold inR; omega) | (simp; done) | (unfold inR; simp at *; omega) | (simp at *; omega) | (intros; contradiction))) | fail)
  conv => whnf
  refine loop_use2 [(4, .p 1 0), (5, .p 2 0), (6, .p 5 0), (22, .d (.int .i64 (fn.code.map encO).length))] (fun i : Nat => i ≤ fn.code.length ∧ opsErr im fn (fn.code.drop i) i = opsErr im fn fn.code 0) (fun i => [(23, .d (.int .i64 i))]) (fun _ => [.cells [.d (.sl 5 (im.cs.map encV)), .d (.sl 3 (im.fs.map encFn))], .cells [.d .nm], .cells [.d (.int .i64 0), .d (.int .i64 0)], .dm (seenM []), .dm (openM []), .cells [.d (.sl 5 (im.cs.map encV)), .d (.sl 3 (im.fs.map encFn)), .d (.int .i64 fn.args), .d (.int .i64 fn.vars), .d (.sl 2 (fn.code.map encO)), .mp 3, .mp 4]]) (fun i => fn.code.length - i) 0 ⟨Nat.zero_le _, by simp⟩ ?_ ?_ ?_ (fun i ⟨hi, he⟩ => ?_)
  · exact (by repeat' (first | exact trivial | exact rfl | exact Or.inl rfl | refine And.intro ?_ ?_ | refine Or.inr ?_))
  · exact (by repeat' (first | exact trivial | exact rfl | exact Or.inl rfl | refine And.intro ?_ ?_ | refine Or.inr ?_))
  · exact rfl
  repeat' ((conv => whnf); first | ((with_reducible refine And.intro (?_ : @Eq Out _ _) (?_ : @Eq H _ _)) <;> exact rfl) | ((with_reducible refine And.intro (?_ : @Eq Out _ _) (?_ : @Eq H _ _)); rotate_left; exact rfl) | intro _ | refine And.intro rfl ?_ | refine apn_own ?_ | refine bsn_data ?_ | refine fro_nil ?_ | refine cfo_old ?_ | ((first | refine .inl (And.intro ?_ ?_) | refine And.intro ?_ ?_); focus ((repeat' apply And.intro) <;> first | rfl | omega | (unfold inR; omega) | (simp; done) | (unfold inR; simp at *; omega) | (simp at *; omega) | (intros; contradiction))) | fail)
  refine sp_intro (fun hlt => ?_) (fun hge => ?_)
  · have hlt : i < fn.code.length := by simpa using hlt
    obtain ⟨o, ho⟩ : ∃ o, fn.code[i]? = some o := ⟨_, List.getElem?_eq_getElem hlt⟩
    have hdr : fn.code.drop i = o :: fn.code.drop (i + 1) := by
      rw [List.drop_eq_getElem_cons hlt]
      rw [List.getElem?_eq_getElem hlt] at ho
      cases ho
      rfl
    rw [hdr] at he
    simp only [opsErr] at he
    repeat' ((conv => whnf); first | ((with_reducible refine And.intro (?_ : @Eq Out _ _) (?_ : @Eq H _ _)) <;> exact rfl) | ((with_reducible refine And.intro (?_ : @Eq Out _ _) (?_ : @Eq H _ _)); rotate_left; exact rfl) | intro _ | refine And.intro rfl ?_ | refine (.inr ?_ : (∃ _, _) ∨ _) | refine apn_own ?_ | refine bsn_data ?_ | refine fro_nil ?_ | refine cfo_old ?_ | ((first | refine .inl (And.intro ?_ ?_) | refine And.intro ?_ ?_); focus ((repeat' apply And.intro) <;> first | rfl | omega | (unfold inR; omega) | (simp; done) | (unfold inR; simp at *; omega) | (simp at *; omega) | (intros; contradiction))) | fail)
    refine operand81 im fn i o [] [] (by omega) (by simpa using ho) (f8 o (List.mem_of_getElem? ho)) hfn' ?_
    cases hoe : opErr im fn o with
    | none =>
      rw [hoe] at he
      repeat' ((conv => whnf); first | ((with_reducible refine And.intro (?_ : @Eq Out _ _) (?_ : @Eq H _ _)) <;> exact rfl) | ((with_reducible refine And.intro (?_ : @Eq Out _ _) (?_ : @Eq H _ _)); rotate_left; exact rfl) | intro _ | refine And.intro rfl ?_ | refine (.inl ⟨by unfold inR; omega, ?_⟩) | refine apn_own ?_ | refine bsn_data ?_ | refine fro_nil ?_ | refine cfo_old ?_ | ((first | refine .inl (And.intro ?_ ?_) | refine And.intro ?_ ?_); focus ((repeat' apply And.intro) <;> first | rfl | omega | (unfold inR; omega) | (simp; done) | (unfold inR; simp at *; omega) | (simp at *; omega) | (intros; contradiction))) | fail)
      refine ⟨i + 1, ⟨hlt, by simpa using he⟩, Nat.sub_lt_sub_left hlt (Nat.lt_succ_self i), (by repeat' (first | exact trivial | exact rfl | exact Or.inl rfl | refine And.intro ?_ ?_ | refine Or.inr ?_)), (by repeat' (first | exact trivial | exact rfl | exact Or.inl rfl | refine And.intro ?_ ?_ | refine Or.inr ?_)), rfl⟩
    | some e =>
      rw [hoe] at he
      have hR' : R = .error (i, e) := by
        unfold traceV at hR
        rw [← he] at hR
        simpa using hR.symm
      rw [hR'] at hk
      repeat' ((conv => whnf); first | ((with_reducible refine And.intro (?_ : @Eq Out _ _) (?_ : @Eq H _ _)) <;> exact rfl) | ((with_reducible refine And.intro (?_ : @Eq Out _ _) (?_ : @Eq H _ _)); rotate_left; exact rfl) | intro _ | refine And.intro rfl ?_ | refine apn_own ?_ | refine bsn_data ?_ | refine fro_nil ?_ | refine cfo_old ?_ | ((first | refine .inl (And.intro ?_ ?_) | refine And.intro ?_ ?_); focus ((repeat' apply And.intro) <;> first | rfl | omega | (unfold inR; omega) | (simp; done) | (unfold inR; simp at *; omega) | (simp at *; omega) | (intros; contradiction))) | fail)
      refine rec80s _ _ _ _ _ ?_
      repeat' ((conv => whnf); first | ((with_reducible refine And.intro (?_ : @Eq Out _ _) (?_ : @Eq H _ _)) <;> exact rfl) | ((with_reducible refine And.intro (?_ : @Eq Out _ _) (?_ : @Eq H _ _)); rotate_left; exact rfl) | intro _ | refine And.intro rfl ?_ | refine apn_own ?_ | refine bsn_data ?_ | refine fro_nil ?_ | refine cfo_old ?_ | ((first | refine .inl (And.intro ?_ ?_) | refine And.intro ?_ ?_); focus ((repeat' apply And.intro) <;> first | rfl | omega | (unfold inR; omega) | (simp; done) | (unfold inR; simp at *; omega) | (simp at *; omega) | (intros; contradiction))) | fail)
      exact hk
  · have hge : i = fn.code.length := by
      have : ¬ i < fn.code.length := by simpa using hge
      omega
    have hno : opsErr im fn fn.code 0 = none := by
      rw [← he, hge, List.drop_length]
      rfl
    have hL : loopV im fn n [(0, (0, 0))] [0] = some R := by
      unfold traceV at hR
      rw [hno] at hR
      exact hR
    repeat' ((conv => whnf); first | ((with_reducible refine And.intro (?_ : @Eq Out _ _) (?_ : @Eq H _ _)) <;> exact rfl) | ((with_reducible refine And.intro (?_ : @Eq Out _ _) (?_ : @Eq H _ _)); rotate_left; exact rfl) | intro _ | refine And.intro rfl ?_ | refine (.inr ?_ : (∃ _, _) ∨ _) | refine apn_own ?_ | refine bsn_data ?_ | refine fro_nil ?_ | refine cfo_old ?_ | ((first | refine .inl (And.intro ?_ ?_) | refine And.intro ?_ ?_); focus ((repeat' apply And.intro) <;> first | rfl | omega | (unfold inR; omega) | (simp; done) | (unfold inR; simp at *; omega) | (simp at *; omega) | (intros; contradiction))) | fail)
    refine reach82' im fn [] [] 0 0 0 0 (fun q hq => ?_) (fun hq => by cases hq)
    obtain rfl : q = ([(0, (0, 0))], [0]) := (Option.some.inj hq).symm
    repeat' ((conv => whnf); first | ((with_reducible refine And.intro (?_ : @Eq Out _ _) (?_ : @Eq H _ _)) <;> exact rfl) | ((with_reducible refine And.intro (?_ : @Eq Out _ _) (?_ : @Eq H _ _)); rotate_left; exact rfl) | intro _ | refine And.intro rfl ?_ | refine apn_own ?_ | refine bsn_data ?_ | refine fro_nil ?_ | refine cfo_old ?_ | ((first | refine .inl (And.intro ?_ ?_) | refine And.intro ?_ ?_); focus ((repeat' apply And.intro) <;> first | rfl | omega | (unfold inR; omega) | (simp; done) | (unfold inR; simp at *; omega) | (simp at *; omega) | (intros; contradiction))) | fail)
    conv => whnf
    refine loop_use2 [(4, .p 1 0), (5, .p 2 0), (6, .p 5 0)] (fun p : Nat × Sn × List Int => loopV im fn p.1 p.2.1 p.2.2 = some R) (fun _ => []) (fun p => [.cells [.d (.sl 5 (im.cs.map encV)), .d (.sl 3 (im.fs.map encFn))], .cells [.d .nm], .cells [.d (.int .i64 0), .d (.int .i64 0)], .dm (seenM p.2.1), .dm (openM p.2.2), .cells [.d (.sl 5 (im.cs.map encV)), .d (.sl 3 (im.fs.map encFn)), .d (.int .i64 fn.args), .d (.int .i64 fn.vars), .d (.sl 2 (fn.code.map encO)), .mp 3, .mp 4]]) (fun p => p.1) (n, [(0, (0, 0))], [0]) hL ?_ ?_ ?_ (fun ⟨m, s, l⟩ hL => ?_)
    · exact (by repeat' (first | exact trivial | exact rfl | exact Or.inl rfl | refine And.intro ?_ ?_ | refine Or.inr ?_))
    · exact (by repeat' (first | exact trivial | exact rfl | exact Or.inl rfl | refine And.intro ?_ ?_ | refine Or.inr ?_))
    · exact rfl
    replace hL : loopV im fn m s l = some R := hL
    cases m with
    | zero => cases hL
    | succ m =>
      unfold loopV at hL
      cases hok : okKs l with
      | false => rw [hok] at hL; cases hL
      | true =>
        rw [hok] at hL
        simp only [cond_true] at hL
        rw [← srt_eq] at hL
        have hsl : (srt l).length = l.length := by simp only [srt, List.length_mergeSort]
        have hol : (openM l).length = l.length := by simp [openM]
        cases hs : srt l with
        | nil =>
          rw [hs] at hL
          simp only [Option.some.injEq] at hL
          subst hL
          have hl : l = [] := srt_nil hs
          subst hl
          repeat' ((conv => whnf); first | ((with_reducible refine And.intro (?_ : @Eq Out _ _) (?_ : @Eq H _ _)) <;> exact rfl) | ((with_reducible refine And.intro (?_ : @Eq Out _ _) (?_ : @Eq H _ _)); rotate_left; exact rfl) | intro _ | refine And.intro rfl ?_ | refine apn_own ?_ | refine bsn_data ?_ | refine fro_nil ?_ | refine cfo_old ?_ | ((first | refine .inl (And.intro ?_ ?_) | refine And.intro ?_ ?_); focus ((repeat' apply And.intro) <;> first | rfl | omega | (unfold inR; omega) | (simp; done) | (unfold inR; simp at *; omega) | (simp at *; omega) | (intros; contradiction))) | fail)
          refine rec80m _ _ _ ?_
          repeat' ((conv => whnf); first | ((with_reducible refine And.intro (?_ : @Eq Out _ _) (?_ : @Eq H _ _)) <;> exact rfl) | ((with_reducible refine And.intro (?_ : @Eq Out _ _) (?_ : @Eq H _ _)); rotate_left; exact rfl) | intro _ | refine And.intro rfl ?_ | refine apn_own ?_ | refine bsn_data ?_ | refine fro_nil ?_ | refine cfo_old ?_ | ((first | refine .inl (And.intro ?_ ?_) | refine And.intro ?_ ?_); focus ((repeat' apply And.intro) <;> first | rfl | omega | (unfold inR; omega) | (simp; done) | (unfold inR; simp at *; omega) | (simp at *; omega) | (intros; contradiction))) | fail)
          exact hk
        | cons x xs =>
          rw [hs] at hL
          simp only at hL
          have hlp : 0 < l.length := by rw [← hsl, hs]; simp
          have hsrt := sorted_open l hok
          rw [hs] at hsrt
          repeat' ((conv => whnf); first | ((with_reducible refine And.intro (?_ : @Eq Out _ _) (?_ : @Eq H _ _)) <;> exact rfl) | ((with_reducible refine And.intro (?_ : @Eq Out _ _) (?_ : @Eq H _ _)); rotate_left; exact rfl) | intro _ | refine And.intro rfl ?_ | refine apn_own ?_ | refine bsn_data ?_ | refine fro_nil ?_ | refine cfo_old ?_ | ((first | refine .inl (And.intro ?_ ?_) | refine And.intro ?_ ?_); focus ((repeat' apply And.intro) <;> first | rfl | omega | (unfold inR; omega) | (simp; done) | (unfold inR; simp at *; omega) | (simp at *; omega) | (intros; contradiction))) | fail)
          refine sp_t (decide_eq_true (by rw [hol]; omega)) ?_
          repeat' ((conv => whnf); first | ((with_reducible refine And.intro (?_ : @Eq Out _ _) (?_ : @Eq H _ _)) <;> exact rfl) | ((with_reducible refine And.intro (?_ : @Eq Out _ _) (?_ : @Eq H _ _)); rotate_left; exact rfl) | intro _ | refine And.intro rfl ?_ | refine (.inr ?_ : (∃ _, _) ∨ _) | refine apn_own ?_ | refine bsn_data ?_ | refine fro_nil ?_ | refine cfo_old ?_ | ((first | refine .inl (And.intro ?_ ?_) | refine And.intro ?_ ?_); focus ((repeat' apply And.intro) <;> first | rfl | omega | (unfold inR; omega) | (simp; done) | (unfold inR; simp at *; omega) | (simp at *; omega) | (intros; contradiction))) | fail)
          refine keys83 _ ?_
          repeat' ((conv => whnf); first | ((with_reducible refine And.intro (?_ : @Eq Out _ _) (?_ : @Eq H _ _)) <;> exact rfl) | ((with_reducible refine And.intro (?_ : @Eq Out _ _) (?_ : @Eq H _ _)); rotate_left; exact rfl) | intro _ | refine And.intro rfl ?_ | refine (.inr ?_ : (∃ _, _) ∨ _) | refine apn_own ?_ | refine bsn_data ?_ | refine fro_nil ?_ | refine cfo_old ?_ | ((first | refine .inl (And.intro ?_ ?_) | refine And.intro ?_ ?_); focus ((repeat' apply And.intro) <;> first | rfl | omega | (unfold inR; omega) | (simp; done) | (unfold inR; simp at *; omega) | (simp at *; omega) | (intros; contradiction))) | fail)
          refine hsrt.mono fun out h' hh => ?_
          obtain ⟨rfl, rfl⟩ := hh
          obtain ⟨j, hj⟩ : ∃ j, memI l x 0 = some j := memI_mem 0 ((List.mergeSort_perm l _).mem_iff.1 (show x ∈ srt l by rw [hs]; simp))
          have ho := fnd_open x l 0
          rw [hj] at ho
          have he : (openM l).eraseIdx j = openM (era l x) := by rw [open_erase]; simp only [era, hj]
          repeat' ((conv => whnf); first | ((with_reducible refine And.intro (?_ : @Eq Out _ _) (?_ : @Eq H _ _)) <;> exact rfl) | ((with_reducible refine And.intro (?_ : @Eq Out _ _) (?_ : @Eq H _ _)); rotate_left; exact rfl) | intro _ | refine And.intro rfl ?_ | refine (And.intro ⟨Int.le_refl _, by simp only [rowsI, List.length_map, List.length_cons]; omega, rfl⟩ ?_) | refine ⟨_, ho, ?_⟩ | refine (ho).use ?_ | refine (.inr ?_ : (∃ _, _) ∨ _) | refine apn_own ?_ | refine bsn_data ?_ | refine fro_nil ?_ | refine cfo_old ?_ | ((first | refine .inl (And.intro ?_ ?_) | refine And.intro ?_ ?_); focus ((repeat' apply And.intro) <;> first | rfl | omega | (unfold inR; omega) | (simp; done) | (unfold inR; simp at *; omega) | (simp at *; omega) | (intros; contradiction))) | refine ⟨_, ⟨by decide, rfl, rfl⟩, ?_⟩ | refine ⟨_, rfl, ?_⟩ | fail)
          split at hL
          · rename_i q h o hlk hoo
            cases hhr : okHr x h with
            | false => rw [hhr] at hL; cases hL
            | true =>
              rw [hhr] at hL
              simp only [okHr, Bool.and_eq_true, decide_eq_true_eq] at hhr
              simp only [cond_true] at hL
              split at hL
              · rename_i i hi
                have hoe : opErr im fn o = none := opsErr_none hno o (List.mem_of_getElem? hoo)
                obtain ⟨_, _, ha, _⟩ := rightB_is (f8 o (List.mem_of_getElem? hoo))
                refine through84e im fn x o i s (era l x) _ he hI ⟨hhr.1, hhr.2.1⟩ hoo hi hoe ha q h hlk hhr.2.2 (fin4_cases (fun r hr => ?_) (fun e hr s' l' => ?_))
                · rw [hr] at hL
                  repeat' ((conv => whnf); first | ((with_reducible refine And.intro (?_ : @Eq Out _ _) (?_ : @Eq H _ _)) <;> exact rfl) | ((with_reducible refine And.intro (?_ : @Eq Out _ _) (?_ : @Eq H _ _)); rotate_left; exact rfl) | intro _ | refine And.intro rfl ?_ | refine apn_own ?_ | refine bsn_data ?_ | refine fro_nil ?_ | refine cfo_old ?_ | ((first | refine .inl (And.intro ?_ ?_) | refine And.intro ?_ ?_); focus ((repeat' apply And.intro) <;> first | rfl | omega | (unfold inR; omega) | (simp; done) | (unfold inR; simp at *; omega) | (simp at *; omega) | (intros; contradiction))) | fail)
                  refine ⟨(m, r.1, r.2), hL, Nat.lt_succ_self m, (by repeat' (first | exact trivial | exact rfl | exact Or.inl rfl | refine And.intro ?_ ?_ | refine Or.inr ?_)), (by repeat' (first | exact trivial | exact rfl | exact Or.inl rfl | refine And.intro ?_ ?_ | refine Or.inr ?_)), rfl⟩
                · rw [hr] at hL
                  simp only [Option.some.injEq] at hL
                  subst hL
                  repeat' ((conv => whnf); first | ((with_reducible refine And.intro (?_ : @Eq Out _ _) (?_ : @Eq H _ _)) <;> exact rfl) | ((with_reducible refine And.intro (?_ : @Eq Out _ _) (?_ : @Eq H _ _)); rotate_left; exact rfl) | intro _ | refine And.intro rfl ?_ | refine apn_own ?_ | refine bsn_data ?_ | refine fro_nil ?_ | refine cfo_old ?_ | ((first | refine .inl (And.intro ?_ ?_) | refine And.intro ?_ ?_); focus ((repeat' apply And.intro) <;> first | rfl | omega | (unfold inR; omega) | (simp; done) | (unfold inR; simp at *; omega) | (simp at *; omega) | (intros; contradiction))) | fail)
                  refine rec80s _ _ _ _ _ ?_
                  repeat' ((conv => whnf); first | ((with_reducible refine And.intro (?_ : @Eq Out _ _) (?_ : @Eq H _ _)) <;> exact rfl) | ((with_reducible refine And.intro (?_ : @Eq Out _ _) (?_ : @Eq H _ _)); rotate_left; exact rfl) | intro _ | refine And.intro rfl ?_ | refine apn_own ?_ | refine bsn_data ?_ | refine fro_nil ?_ | refine cfo_old ?_ | ((first | refine .inl (And.intro ?_ ?_) | refine And.intro ?_ ?_); focus ((repeat' apply And.intro) <;> first | rfl | omega | (unfold inR; omega) | (simp; done) | (unfold inR; simp at *; omega) | (simp at *; omega) | (intros; contradiction))) | fail)
                  exact hk
              · cases hL
          · cases hL
end Go.Proofs.YtoibcfioicdlhaaGreatDoor
