/- Whether lists of values, frames and tries are the same, in the picture. Conditions: none. -/
import Derived.Test.YtfllfllfeiaoeaaCore1
namespace Go.Proofs.Ytfllfllfeiaoeaa
open Go.Vx

structure Va where
  k : Int
  n : Int
  nm : List UInt8
  ls : List UInt8
  li : List UInt8
def encV (v : Va) : List D := [.int .i64 v.k, .int .i64 v.n, .str v.nm, .str v.ls, .str v.li]
def eqV (a b : Va) : Bool := (a.k == b.k) && ((a.n == b.n) && ((a.nm == b.nm) && ((a.ls == b.ls) && ((a.li == b.li) && true))))
def eqL {α : Type} (f : α → α → Bool) : List α → List α → Bool
  | [], [] => true
  | a :: l, b :: r => f a b && eqL f l r
  | _, _ => false

theorem eqL_len {α : Type} {f : α → α → Bool} : ∀ {a b : List α}, eqL f a b = true → a.length = b.length
  | [], [], _ => rfl
  | _ :: l, _ :: r, h => by
    simp only [eqL, Bool.and_eq_true] at h
    simp [eqL_len h.2]
theorem eqL_refl {α : Type} {f : α → α → Bool} (hf : ∀ x, f x x = true) : ∀ a : List α, eqL f a a = true
  | [] => rfl
  | x :: l => by simp [eqL, hf x, eqL_refl hf l]
theorem eqL_take {α : Type} {f : α → α → Bool} : ∀ {a b : List α} {i : Nat} {x y : α}, a[i]? = some x → b[i]? = some y → eqL f (a.take (i + 1)) (b.take (i + 1)) = (eqL f (a.take i) (b.take i) && f x y)
  | [], _, _, _, _, h, _ => by simp at h
  | _ :: _, [], _, _, _, _, h => by simp at h
  | u :: l, v :: r, 0, x, y, h1, h2 => by
    simp at h1 h2
    subst h1 h2
    simp [eqL]
  | u :: l, v :: r, i + 1, x, y, h1, h2 => by
    simp only [List.take_succ_cons, eqL]
    rw [eqL_take (by simpa using h1) (by simpa using h2), Bool.and_assoc]
theorem eqL_cut {α : Type} {f : α → α → Bool} : ∀ {a b : List α} {i : Nat}, eqL f a b = true → eqL f (a.take i) (b.take i) = true
  | [], [], _, _ => by simp [eqL]
  | _ :: l, _ :: r, 0, _ => by simp [eqL]
  | x :: l, y :: r, i + 1, h => by
    simp only [eqL, Bool.and_eq_true] at h
    simp only [List.take_succ_cons, eqL, Bool.and_eq_true]
    exact ⟨h.1, eqL_cut h.2⟩
theorem eqL_no {α : Type} {f : α → α → Bool} {a b : List α} {i : Nat} {x y : α} (h1 : a[i]? = some x) (h2 : b[i]? = some y) (h : f x y = false) : eqL f a b = false := by
  cases he : eqL f a b with
  | false => rfl
  | true =>
    have := eqL_cut (i := i + 1) he
    rw [eqL_take h1 h2, h] at this
    simp at this

theorem nt {b : Bool} (h : (!b) = true) : b = false := by cases b <;> simp_all
theorem nf {b : Bool} (h : (!b) = false) : b = true := by cases b <;> simp_all
theorem eqV_refl (x : Va) : eqV x x = true := by simp [eqV]

structure Tr where
  f : Int
  h : Int
  a : Int
def encT (v : Tr) : List D := [.int .i64 v.f, .int .i64 v.h, .int .i64 v.a]
def eqT (a b : Tr) : Bool := (a.f == b.f) && ((a.h == b.h) && ((a.a == b.a) && true))
theorem eqT_refl (x : Tr) : eqT x x = true := by simp [eqT]

theorem equal19 (a b : List Va) : SatP Try.prog 19 [.d (.sl 5 (a.map encV)), .d (.sl 5 (b.map encV))] (.d (.bool (eqL eqV a b))) := by
  refine s19 (keep := false) rfl ?_
  repeat' (conv => whnf
           first
             | (exact And.intro rfl rfl)
             | (refine And.intro (?_ : _ = Out.ret _) rfl)
             | (intro _)
             | (refine And.intro rfl ?_)
             | (refine apn_own ?_)
             | (refine .inl (And.intro ?_ ?_); focus ((repeat' apply And.intro) <;> first | rfl | omega | (unfold inR; omega) | (simp; done) | (unfold inR; simp at *; omega) | (simp at *; omega) | (intros; contradiction)))
             | (refine And.intro ?_ ?_; focus ((repeat' apply And.intro) <;> first | rfl | omega | (unfold inR; omega) | (simp; done) | (unfold inR; simp at *; omega) | (simp at *; omega) | (intros; contradiction)))
           )
  refine sp_intro (fun hne => ?_) (fun heq => ?_)
  · skip
    repeat' (conv => whnf
             first
               | (exact And.intro rfl rfl)
               | (refine And.intro (?_ : _ = Out.ret _) rfl)
               | (intro _)
               | (refine And.intro rfl ?_)
               | (refine apn_own ?_)
               | (refine .inl (And.intro ?_ ?_); focus ((repeat' apply And.intro) <;> first | rfl | omega | (unfold inR; omega) | (simp; done) | (unfold inR; simp at *; omega) | (simp at *; omega) | (intros; contradiction)))
               | (refine And.intro ?_ ?_; focus ((repeat' apply And.intro) <;> first | rfl | omega | (unfold inR; omega) | (simp; done) | (unfold inR; simp at *; omega) | (simp at *; omega) | (intros; contradiction)))
             )
    refine outs_eq (congrArg (fun x => V.d (.bool x)) ?_)
    cases he : eqL eqV a b with
    | false => rfl
    | true => simp [eqL_len he] at hne
  · have hl : a.length = b.length := by
      have : (a.length : Int) = b.length := by simpa using heq
      omega
    repeat' (conv => whnf
             first
               | (exact And.intro rfl rfl)
               | (refine And.intro (?_ : _ = Out.ret _) rfl)
               | (intro _)
               | (refine And.intro rfl ?_)
               | (refine apn_own ?_)
               | (refine .inl (And.intro ?_ ?_); focus ((repeat' apply And.intro) <;> first | rfl | omega | (unfold inR; omega) | (simp; done) | (unfold inR; simp at *; omega) | (simp at *; omega) | (intros; contradiction)))
               | (refine And.intro ?_ ?_; focus ((repeat' apply And.intro) <;> first | rfl | omega | (unfold inR; omega) | (simp; done) | (unfold inR; simp at *; omega) | (simp at *; omega) | (intros; contradiction)))
             )
    refine lx_intro ⟨Nat, fun i => i ≤ a.length ∧ eqL eqV (a.take i) (b.take i) = true, fun i => [(0, .d (.sl 5 (a.map encV))), (1, .d (.sl 5 (b.map encV))), (11, .d (.sl 5 (a.map encV))), (12, .d (.int .i64 (a.map encV).length)), (13, .d (.int .i64 i))], fun _ => [], fun i => a.length - i, 0,
      ⟨⟨Nat.zero_le _, rfl⟩, ⟨rfl, rfl, rfl, rfl, rfl, trivial⟩, trivial, rfl⟩, fun i ⟨hi, he⟩ => ?_⟩
    repeat' (conv => whnf
             first
               | (exact And.intro rfl rfl)
               | (refine And.intro (?_ : _ = Out.ret _) rfl)
               | (intro _)
               | (refine And.intro rfl ?_)
               | (refine apn_own ?_)
               | (refine .inl (And.intro ?_ ?_); focus ((repeat' apply And.intro) <;> first | rfl | omega | (unfold inR; omega) | (simp; done) | (unfold inR; simp at *; omega) | (simp at *; omega) | (intros; contradiction)))
               | (refine And.intro ?_ ?_; focus ((repeat' apply And.intro) <;> first | rfl | omega | (unfold inR; omega) | (simp; done) | (unfold inR; simp at *; omega) | (simp at *; omega) | (intros; contradiction)))
             )
    refine sp_intro (fun hlt => ?_) (fun hge => ?_)
    · have hlt : i < a.length := by simpa using hlt
      obtain ⟨x, hx⟩ : ∃ x, a[i]? = some x := ⟨_, List.getElem?_eq_getElem hlt⟩
      obtain ⟨y, hy⟩ : ∃ y, b[i]? = some y := ⟨_, List.getElem?_eq_getElem (by omega)⟩
      repeat' (conv => whnf
               first
                 | (exact And.intro rfl rfl)
                 | (refine And.intro (?_ : _ = Out.ret _) rfl)
                 | (intro _)
                 | (refine And.intro rfl ?_)
                 | (refine apn_own ?_)
                 | (refine .inl (And.intro ?_ ?_); focus ((repeat' apply And.intro) <;> first | rfl | omega | (unfold inR; omega) | (simp; done) | (unfold inR; simp at *; omega) | (simp at *; omega) | (intros; contradiction)))
                 | (refine And.intro ?_ ?_; focus ((repeat' apply And.intro) <;> first | rfl | omega | (unfold inR; omega) | (simp; done) | (unfold inR; simp at *; omega) | (simp at *; omega) | (intros; contradiction)))
               )
      refine ⟨encV x, ⟨by omega, by simp [hx], rfl⟩, ?_⟩
      repeat' (conv => whnf
               first
                 | (exact And.intro rfl rfl)
                 | (refine And.intro (?_ : _ = Out.ret _) rfl)
                 | (intro _)
                 | (refine And.intro rfl ?_)
                 | (refine apn_own ?_)
                 | (refine .inl (And.intro ?_ ?_); focus ((repeat' apply And.intro) <;> first | rfl | omega | (unfold inR; omega) | (simp; done) | (unfold inR; simp at *; omega) | (simp at *; omega) | (intros; contradiction)))
                 | (refine And.intro ?_ ?_; focus ((repeat' apply And.intro) <;> first | rfl | omega | (unfold inR; omega) | (simp; done) | (unfold inR; simp at *; omega) | (simp at *; omega) | (intros; contradiction)))
               )
      refine ⟨encV y, ⟨by omega, by simp [hy], rfl⟩, ?_⟩
      repeat' (conv => whnf
               first
                 | (exact And.intro rfl rfl)
                 | (refine And.intro (?_ : _ = Out.ret _) rfl)
                 | (intro _)
                 | (refine And.intro rfl ?_)
                 | (refine apn_own ?_)
                 | (refine .inl (And.intro ?_ ?_); focus ((repeat' apply And.intro) <;> first | rfl | omega | (unfold inR; omega) | (simp; done) | (unfold inR; simp at *; omega) | (simp at *; omega) | (intros; contradiction)))
                 | (refine And.intro ?_ ?_; focus ((repeat' apply And.intro) <;> first | rfl | omega | (unfold inR; omega) | (simp; done) | (unfold inR; simp at *; omega) | (simp at *; omega) | (intros; contradiction)))
               )
      refine sp_intro (fun hno => ?_) (fun hyes => ?_)
      · skip
        repeat' (conv => whnf
                 first
                   | (exact And.intro rfl rfl)
                   | (refine And.intro (?_ : _ = Out.ret _) rfl)
                   | (intro _)
                   | (refine And.intro rfl ?_)
                   | (refine apn_own ?_)
                   | (refine .inl (And.intro ?_ ?_); focus ((repeat' apply And.intro) <;> first | rfl | omega | (unfold inR; omega) | (simp; done) | (unfold inR; simp at *; omega) | (simp at *; omega) | (intros; contradiction)))
                   | (refine And.intro ?_ ?_; focus ((repeat' apply And.intro) <;> first | rfl | omega | (unfold inR; omega) | (simp; done) | (unfold inR; simp at *; omega) | (simp at *; omega) | (intros; contradiction)))
                 )
        refine outs_eq (congrArg (fun x => V.d (.bool x)) (eqL_no hx hy ?_).symm)
        exact nt hno
      · skip
        repeat' (conv => whnf
                 first
                   | (exact And.intro rfl rfl)
                   | (refine And.intro (?_ : _ = Out.ret _) rfl)
                   | (intro _)
                   | (refine And.intro rfl ?_)
                   | (refine apn_own ?_)
                   | (refine .inl (And.intro ?_ ?_); focus ((repeat' apply And.intro) <;> first | rfl | omega | (unfold inR; omega) | (simp; done) | (unfold inR; simp at *; omega) | (simp at *; omega) | (intros; contradiction)))
                   | (refine And.intro ?_ ?_; focus ((repeat' apply And.intro) <;> first | rfl | omega | (unfold inR; omega) | (simp; done) | (unfold inR; simp at *; omega) | (simp at *; omega) | (intros; contradiction)))
                 )
        refine ⟨i + 1, ⟨hlt, ?_⟩, Nat.sub_lt_sub_left hlt (Nat.lt_succ_self i), ⟨rfl, rfl, rfl, rfl, rfl, trivial⟩, trivial, rfl⟩
        rw [eqL_take hx hy, he]
        exact nf hyes
    · have hge : i = a.length := by
        have : ¬ i < a.length := by simpa using hge
        omega
      repeat' (conv => whnf
               first
                 | (exact And.intro rfl rfl)
                 | (refine And.intro (?_ : _ = Out.ret _) rfl)
                 | (intro _)
                 | (refine And.intro rfl ?_)
                 | (refine apn_own ?_)
                 | (refine .inl (And.intro ?_ ?_); focus ((repeat' apply And.intro) <;> first | rfl | omega | (unfold inR; omega) | (simp; done) | (unfold inR; simp at *; omega) | (simp at *; omega) | (intros; contradiction)))
                 | (refine And.intro ?_ ?_; focus ((repeat' apply And.intro) <;> first | rfl | omega | (unfold inR; omega) | (simp; done) | (unfold inR; simp at *; omega) | (simp at *; omega) | (intros; contradiction)))
               )
      refine outs_eq (congrArg (fun x => V.d (.bool x)) ?_)
      subst hge
      rw [List.take_length, hl, List.take_length] at he
      exact he.symm
theorem equal20 (a b : List Tr) : SatP Try.prog 20 [.d (.sl 3 (a.map encT)), .d (.sl 3 (b.map encT))] (.d (.bool (eqL eqT a b))) := by
  refine s20 (keep := false) rfl ?_
  repeat' (conv => whnf
           first
             | (exact And.intro rfl rfl)
             | (refine And.intro (?_ : _ = Out.ret _) rfl)
             | (intro _)
             | (refine And.intro rfl ?_)
             | (refine apn_own ?_)
             | (refine .inl (And.intro ?_ ?_); focus ((repeat' apply And.intro) <;> first | rfl | omega | (unfold inR; omega) | (simp; done) | (unfold inR; simp at *; omega) | (simp at *; omega) | (intros; contradiction)))
             | (refine And.intro ?_ ?_; focus ((repeat' apply And.intro) <;> first | rfl | omega | (unfold inR; omega) | (simp; done) | (unfold inR; simp at *; omega) | (simp at *; omega) | (intros; contradiction)))
           )
  refine sp_intro (fun hne => ?_) (fun heq => ?_)
  · skip
    repeat' (conv => whnf
             first
               | (exact And.intro rfl rfl)
               | (refine And.intro (?_ : _ = Out.ret _) rfl)
               | (intro _)
               | (refine And.intro rfl ?_)
               | (refine apn_own ?_)
               | (refine .inl (And.intro ?_ ?_); focus ((repeat' apply And.intro) <;> first | rfl | omega | (unfold inR; omega) | (simp; done) | (unfold inR; simp at *; omega) | (simp at *; omega) | (intros; contradiction)))
               | (refine And.intro ?_ ?_; focus ((repeat' apply And.intro) <;> first | rfl | omega | (unfold inR; omega) | (simp; done) | (unfold inR; simp at *; omega) | (simp at *; omega) | (intros; contradiction)))
             )
    refine outs_eq (congrArg (fun x => V.d (.bool x)) ?_)
    cases he : eqL eqT a b with
    | false => rfl
    | true => simp [eqL_len he] at hne
  · have hl : a.length = b.length := by
      have : (a.length : Int) = b.length := by simpa using heq
      omega
    repeat' (conv => whnf
             first
               | (exact And.intro rfl rfl)
               | (refine And.intro (?_ : _ = Out.ret _) rfl)
               | (intro _)
               | (refine And.intro rfl ?_)
               | (refine apn_own ?_)
               | (refine .inl (And.intro ?_ ?_); focus ((repeat' apply And.intro) <;> first | rfl | omega | (unfold inR; omega) | (simp; done) | (unfold inR; simp at *; omega) | (simp at *; omega) | (intros; contradiction)))
               | (refine And.intro ?_ ?_; focus ((repeat' apply And.intro) <;> first | rfl | omega | (unfold inR; omega) | (simp; done) | (unfold inR; simp at *; omega) | (simp at *; omega) | (intros; contradiction)))
             )
    refine lx_intro ⟨Nat, fun i => i ≤ a.length ∧ eqL eqT (a.take i) (b.take i) = true, fun i => [(0, .d (.sl 3 (a.map encT))), (1, .d (.sl 3 (b.map encT))), (11, .d (.sl 3 (a.map encT))), (12, .d (.int .i64 (a.map encT).length)), (13, .d (.int .i64 i))], fun _ => [], fun i => a.length - i, 0,
      ⟨⟨Nat.zero_le _, rfl⟩, ⟨rfl, rfl, rfl, rfl, rfl, trivial⟩, trivial, rfl⟩, fun i ⟨hi, he⟩ => ?_⟩
    repeat' (conv => whnf
             first
               | (exact And.intro rfl rfl)
               | (refine And.intro (?_ : _ = Out.ret _) rfl)
               | (intro _)
               | (refine And.intro rfl ?_)
               | (refine apn_own ?_)
               | (refine .inl (And.intro ?_ ?_); focus ((repeat' apply And.intro) <;> first | rfl | omega | (unfold inR; omega) | (simp; done) | (unfold inR; simp at *; omega) | (simp at *; omega) | (intros; contradiction)))
               | (refine And.intro ?_ ?_; focus ((repeat' apply And.intro) <;> first | rfl | omega | (unfold inR; omega) | (simp; done) | (unfold inR; simp at *; omega) | (simp at *; omega) | (intros; contradiction)))
             )
    refine sp_intro (fun hlt => ?_) (fun hge => ?_)
    · have hlt : i < a.length := by simpa using hlt
      obtain ⟨x, hx⟩ : ∃ x, a[i]? = some x := ⟨_, List.getElem?_eq_getElem hlt⟩
      obtain ⟨y, hy⟩ : ∃ y, b[i]? = some y := ⟨_, List.getElem?_eq_getElem (by omega)⟩
      repeat' (conv => whnf
               first
                 | (exact And.intro rfl rfl)
                 | (refine And.intro (?_ : _ = Out.ret _) rfl)
                 | (intro _)
                 | (refine And.intro rfl ?_)
                 | (refine apn_own ?_)
                 | (refine .inl (And.intro ?_ ?_); focus ((repeat' apply And.intro) <;> first | rfl | omega | (unfold inR; omega) | (simp; done) | (unfold inR; simp at *; omega) | (simp at *; omega) | (intros; contradiction)))
                 | (refine And.intro ?_ ?_; focus ((repeat' apply And.intro) <;> first | rfl | omega | (unfold inR; omega) | (simp; done) | (unfold inR; simp at *; omega) | (simp at *; omega) | (intros; contradiction)))
               )
      refine ⟨encT x, ⟨by omega, by simp [hx], rfl⟩, ?_⟩
      repeat' (conv => whnf
               first
                 | (exact And.intro rfl rfl)
                 | (refine And.intro (?_ : _ = Out.ret _) rfl)
                 | (intro _)
                 | (refine And.intro rfl ?_)
                 | (refine apn_own ?_)
                 | (refine .inl (And.intro ?_ ?_); focus ((repeat' apply And.intro) <;> first | rfl | omega | (unfold inR; omega) | (simp; done) | (unfold inR; simp at *; omega) | (simp at *; omega) | (intros; contradiction)))
                 | (refine And.intro ?_ ?_; focus ((repeat' apply And.intro) <;> first | rfl | omega | (unfold inR; omega) | (simp; done) | (unfold inR; simp at *; omega) | (simp at *; omega) | (intros; contradiction)))
               )
      refine ⟨encT y, ⟨by omega, by simp [hy], rfl⟩, ?_⟩
      repeat' (conv => whnf
               first
                 | (exact And.intro rfl rfl)
                 | (refine And.intro (?_ : _ = Out.ret _) rfl)
                 | (intro _)
                 | (refine And.intro rfl ?_)
                 | (refine apn_own ?_)
                 | (refine .inl (And.intro ?_ ?_); focus ((repeat' apply And.intro) <;> first | rfl | omega | (unfold inR; omega) | (simp; done) | (unfold inR; simp at *; omega) | (simp at *; omega) | (intros; contradiction)))
                 | (refine And.intro ?_ ?_; focus ((repeat' apply And.intro) <;> first | rfl | omega | (unfold inR; omega) | (simp; done) | (unfold inR; simp at *; omega) | (simp at *; omega) | (intros; contradiction)))
               )
      refine sp_intro (fun hno => ?_) (fun hyes => ?_)
      · skip
        repeat' (conv => whnf
                 first
                   | (exact And.intro rfl rfl)
                   | (refine And.intro (?_ : _ = Out.ret _) rfl)
                   | (intro _)
                   | (refine And.intro rfl ?_)
                   | (refine apn_own ?_)
                   | (refine .inl (And.intro ?_ ?_); focus ((repeat' apply And.intro) <;> first | rfl | omega | (unfold inR; omega) | (simp; done) | (unfold inR; simp at *; omega) | (simp at *; omega) | (intros; contradiction)))
                   | (refine And.intro ?_ ?_; focus ((repeat' apply And.intro) <;> first | rfl | omega | (unfold inR; omega) | (simp; done) | (unfold inR; simp at *; omega) | (simp at *; omega) | (intros; contradiction)))
                 )
        refine outs_eq (congrArg (fun x => V.d (.bool x)) (eqL_no hx hy ?_).symm)
        exact nt hno
      · skip
        repeat' (conv => whnf
                 first
                   | (exact And.intro rfl rfl)
                   | (refine And.intro (?_ : _ = Out.ret _) rfl)
                   | (intro _)
                   | (refine And.intro rfl ?_)
                   | (refine apn_own ?_)
                   | (refine .inl (And.intro ?_ ?_); focus ((repeat' apply And.intro) <;> first | rfl | omega | (unfold inR; omega) | (simp; done) | (unfold inR; simp at *; omega) | (simp at *; omega) | (intros; contradiction)))
                   | (refine And.intro ?_ ?_; focus ((repeat' apply And.intro) <;> first | rfl | omega | (unfold inR; omega) | (simp; done) | (unfold inR; simp at *; omega) | (simp at *; omega) | (intros; contradiction)))
                 )
        refine ⟨i + 1, ⟨hlt, ?_⟩, Nat.sub_lt_sub_left hlt (Nat.lt_succ_self i), ⟨rfl, rfl, rfl, rfl, rfl, trivial⟩, trivial, rfl⟩
        rw [eqL_take hx hy, he]
        exact nf hyes
    · have hge : i = a.length := by
        have : ¬ i < a.length := by simpa using hge
        omega
      repeat' (conv => whnf
               first
                 | (exact And.intro rfl rfl)
                 | (refine And.intro (?_ : _ = Out.ret _) rfl)
                 | (intro _)
                 | (refine And.intro rfl ?_)
                 | (refine apn_own ?_)
                 | (refine .inl (And.intro ?_ ?_); focus ((repeat' apply And.intro) <;> first | rfl | omega | (unfold inR; omega) | (simp; done) | (unfold inR; simp at *; omega) | (simp at *; omega) | (intros; contradiction)))
                 | (refine And.intro ?_ ?_; focus ((repeat' apply And.intro) <;> first | rfl | omega | (unfold inR; omega) | (simp; done) | (unfold inR; simp at *; omega) | (simp at *; omega) | (intros; contradiction)))
               )
      refine outs_eq (congrArg (fun x => V.d (.bool x)) ?_)
      subst hge
      rw [List.take_length, hl, List.take_length] at he
      exact he.symm
end Go.Proofs.Ytfllfllfeiaoeaa
