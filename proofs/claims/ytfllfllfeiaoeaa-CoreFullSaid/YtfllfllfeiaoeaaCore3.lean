/- Frames and cores that are the same; what is cut, and what is pushed. Conditions: what is pushed on is not too long. -/
import Derived.Test.YtfllfllfeiaoeaaCore2
namespace Go.Proofs.Ytfllfllfeiaoeaa
open Go.Vx

structure Fr where
  fu : Int
  pc : Int
  ba : Int
  ma : Int
  vars : List Va
def encF (f : Fr) : List D := [.int .i64 f.fu, .int .i64 f.pc, .int .i64 f.ba, .int .u8 f.ma, .sl 5 (f.vars.map encV)]
def eqF (a b : Fr) : Bool := (a.fu == b.fu) && ((a.pc == b.pc) && ((a.ba == b.ba) && ((a.ma == b.ma) && eqL eqV a.vars b.vars)))
theorem eqF_refl (x : Fr) : eqF x x = true := by simp [eqF, eqL_refl eqV_refl]
def agF (f : Fr) : V := .ag [.d (.int .i64 f.fu), .d (.int .i64 f.pc), .d (.int .i64 f.ba), .d (.int .u8 f.ma), .d (.sl 5 (f.vars.map encV))]
def agV (v : Va) : V := .ag [.d (.int .i64 v.k), .d (.int .i64 v.n), .d (.str v.nm), .d (.str v.ls), .d (.str v.li)]

structure Co where
  fr : List Fr
  st : List Va
  tr : List Tr
def agC (c : Co) : V := .ag [.d (.sl 5 (c.fr.map encF)), .d (.sl 5 (c.st.map encV)), .d (.sl 3 (c.tr.map encT))]

theorem alike18 (x y : Fr) : SatP Try.prog 18 [agF x, agF y] (.d (.bool (eqF x y))) := by
  refine s18 (keep := false) rfl ?_
  repeat' (conv => whnf
           first
             | (exact And.intro rfl rfl)
             | (refine And.intro (?_ : _ = Out.ret _) rfl)
             | (intro _)
             | (refine And.intro rfl ?_)
             | (refine ⟨_, equal19 _ _, ?_⟩)
             | (refine (equal19 _ _).use ?_)
             | (refine apn_own ?_)
             | (refine .inl (And.intro ?_ ?_); focus ((repeat' apply And.intro) <;> first | rfl | omega | (unfold inR; omega) | (simp; done) | (unfold inR; simp at *; omega) | (simp at *; omega) | (intros; contradiction)))
             | (refine And.intro ?_ ?_; focus ((repeat' apply And.intro) <;> first | rfl | omega | (unfold inR; omega) | (simp; done) | (unfold inR; simp at *; omega) | (simp at *; omega) | (intros; contradiction)))
             | (refine sp_intro (fun hb => ?_) (fun hb => ?_))
           )
  all_goals
    refine outs_eq (congrArg (fun x => V.d (.bool x)) ?_)
    simp_all [eqF]

theorem equal17 (a b : List Fr) : SatP Try.prog 17 [.d (.sl 5 (a.map encF)), .d (.sl 5 (b.map encF)), .d (.fn 18)] (.d (.bool (eqL eqF a b))) := by
  refine s17 (keep := false) rfl ?_
  repeat' (conv => whnf
           first
             | (exact And.intro rfl rfl)
             | (refine And.intro (?_ : _ = Out.ret _) rfl)
             | (intro _)
             | (refine And.intro rfl ?_)
             | (refine apn_own ?_)
             | (refine .inl (And.intro ?_ ?_); focus ((repeat' apply And.intro) <;> first | rfl | omega | (unfold inR; omega) | (simp; done) | (unfold inR; simp at *; omega) | (simp at *; omega) | (intros; contradiction)))
             | (refine And.intro ?_ ?_; focus ((repeat' apply And.intro) <;> first | rfl | omega | (unfold inR; omega) | (simp; done) | (unfold inR; simp at *; omega) | (simp at *; omega) | (intros; contradiction)))
           )
  refine sp_intro (fun hne => ?_) (fun heq => ?_)
  · skip
    repeat' (conv => whnf
             first
               | (exact And.intro rfl rfl)
               | (refine And.intro (?_ : _ = Out.ret _) rfl)
               | (intro _)
               | (refine And.intro rfl ?_)
               | (refine apn_own ?_)
               | (refine .inl (And.intro ?_ ?_); focus ((repeat' apply And.intro) <;> first | rfl | omega | (unfold inR; omega) | (simp; done) | (unfold inR; simp at *; omega) | (simp at *; omega) | (intros; contradiction)))
               | (refine And.intro ?_ ?_; focus ((repeat' apply And.intro) <;> first | rfl | omega | (unfold inR; omega) | (simp; done) | (unfold inR; simp at *; omega) | (simp at *; omega) | (intros; contradiction)))
             )
    refine outs_eq (congrArg (fun x => V.d (.bool x)) ?_)
    cases he : eqL eqF a b with
    | false => rfl
    | true => simp [eqL_len he] at hne
  · have hl : a.length = b.length := by
      have : (a.length : Int) = b.length := by simpa using heq
      omega
    repeat' (conv => whnf
             first
               | (exact And.intro rfl rfl)
               | (refine And.intro (?_ : _ = Out.ret _) rfl)
               | (intro _)
               | (refine And.intro rfl ?_)
               | (refine apn_own ?_)
               | (refine .inl (And.intro ?_ ?_); focus ((repeat' apply And.intro) <;> first | rfl | omega | (unfold inR; omega) | (simp; done) | (unfold inR; simp at *; omega) | (simp at *; omega) | (intros; contradiction)))
               | (refine And.intro ?_ ?_; focus ((repeat' apply And.intro) <;> first | rfl | omega | (unfold inR; omega) | (simp; done) | (unfold inR; simp at *; omega) | (simp at *; omega) | (intros; contradiction)))
             )
    refine lx_intro ⟨Nat, fun i => i ≤ a.length ∧ eqL eqF (a.take i) (b.take i) = true, fun i => [(0, .d (.sl 5 (a.map encF))), (1, .d (.sl 5 (b.map encF))), (2, .d (.fn 18)), (15, .d (.sl 5 (a.map encF))), (16, .d (.int .i64 (a.map encF).length)), (17, .d (.int .i64 i))], fun _ => [], fun i => a.length - i, 0,
      ⟨⟨Nat.zero_le _, rfl⟩, ⟨rfl, rfl, rfl, rfl, rfl, rfl, trivial⟩, trivial, rfl⟩, fun i ⟨hi, he⟩ => ?_⟩
    repeat' (conv => whnf
             first
               | (exact And.intro rfl rfl)
               | (refine And.intro (?_ : _ = Out.ret _) rfl)
               | (intro _)
               | (refine And.intro rfl ?_)
               | (refine apn_own ?_)
               | (refine .inl (And.intro ?_ ?_); focus ((repeat' apply And.intro) <;> first | rfl | omega | (unfold inR; omega) | (simp; done) | (unfold inR; simp at *; omega) | (simp at *; omega) | (intros; contradiction)))
               | (refine And.intro ?_ ?_; focus ((repeat' apply And.intro) <;> first | rfl | omega | (unfold inR; omega) | (simp; done) | (unfold inR; simp at *; omega) | (simp at *; omega) | (intros; contradiction)))
             )
    refine sp_intro (fun hlt => ?_) (fun hge => ?_)
    · have hlt : i < a.length := by simpa using hlt
      obtain ⟨x, hx⟩ : ∃ x, a[i]? = some x := ⟨_, List.getElem?_eq_getElem hlt⟩
      obtain ⟨y, hy⟩ : ∃ y, b[i]? = some y := ⟨_, List.getElem?_eq_getElem (by omega)⟩
      repeat' (conv => whnf
               first
                 | (exact And.intro rfl rfl)
                 | (refine And.intro (?_ : _ = Out.ret _) rfl)
                 | (intro _)
                 | (refine And.intro rfl ?_)
                 | (refine apn_own ?_)
                 | (refine .inl (And.intro ?_ ?_); focus ((repeat' apply And.intro) <;> first | rfl | omega | (unfold inR; omega) | (simp; done) | (unfold inR; simp at *; omega) | (simp at *; omega) | (intros; contradiction)))
                 | (refine And.intro ?_ ?_; focus ((repeat' apply And.intro) <;> first | rfl | omega | (unfold inR; omega) | (simp; done) | (unfold inR; simp at *; omega) | (simp at *; omega) | (intros; contradiction)))
               )
      refine ⟨encF x, ⟨by omega, by simp [hx], rfl⟩, ?_⟩
      repeat' (conv => whnf
               first
                 | (exact And.intro rfl rfl)
                 | (refine And.intro (?_ : _ = Out.ret _) rfl)
                 | (intro _)
                 | (refine And.intro rfl ?_)
                 | (refine apn_own ?_)
                 | (refine .inl (And.intro ?_ ?_); focus ((repeat' apply And.intro) <;> first | rfl | omega | (unfold inR; omega) | (simp; done) | (unfold inR; simp at *; omega) | (simp at *; omega) | (intros; contradiction)))
                 | (refine And.intro ?_ ?_; focus ((repeat' apply And.intro) <;> first | rfl | omega | (unfold inR; omega) | (simp; done) | (unfold inR; simp at *; omega) | (simp at *; omega) | (intros; contradiction)))
               )
      refine ⟨encF y, ⟨by omega, by simp [hy], rfl⟩, ?_⟩
      repeat' (conv => whnf
               first
                 | (exact And.intro rfl rfl)
                 | (refine And.intro (?_ : _ = Out.ret _) rfl)
                 | (intro _)
                 | (refine And.intro rfl ?_)
                 | (refine ⟨_, alike18 x y, ?_⟩)
                 | (refine (alike18 x y).use ?_)
                 | (refine apn_own ?_)
                 | (refine .inl (And.intro ?_ ?_); focus ((repeat' apply And.intro) <;> first | rfl | omega | (unfold inR; omega) | (simp; done) | (unfold inR; simp at *; omega) | (simp at *; omega) | (intros; contradiction)))
                 | (refine And.intro ?_ ?_; focus ((repeat' apply And.intro) <;> first | rfl | omega | (unfold inR; omega) | (simp; done) | (unfold inR; simp at *; omega) | (simp at *; omega) | (intros; contradiction)))
               )
      refine sp_intro (fun hno => ?_) (fun hyes => ?_)
      · skip
        repeat' (conv => whnf
                 first
                   | (exact And.intro rfl rfl)
                   | (refine And.intro (?_ : _ = Out.ret _) rfl)
                   | (intro _)
                   | (refine And.intro rfl ?_)
                   | (refine apn_own ?_)
                   | (refine .inl (And.intro ?_ ?_); focus ((repeat' apply And.intro) <;> first | rfl | omega | (unfold inR; omega) | (simp; done) | (unfold inR; simp at *; omega) | (simp at *; omega) | (intros; contradiction)))
                   | (refine And.intro ?_ ?_; focus ((repeat' apply And.intro) <;> first | rfl | omega | (unfold inR; omega) | (simp; done) | (unfold inR; simp at *; omega) | (simp at *; omega) | (intros; contradiction)))
                 )
        exact outs_eq (congrArg (fun x => V.d (.bool x)) (eqL_no hx hy (nt hno)).symm)
      · skip
        repeat' (conv => whnf
                 first
                   | (exact And.intro rfl rfl)
                   | (refine And.intro (?_ : _ = Out.ret _) rfl)
                   | (intro _)
                   | (refine And.intro rfl ?_)
                   | (refine apn_own ?_)
                   | (refine .inl (And.intro ?_ ?_); focus ((repeat' apply And.intro) <;> first | rfl | omega | (unfold inR; omega) | (simp; done) | (unfold inR; simp at *; omega) | (simp at *; omega) | (intros; contradiction)))
                   | (refine And.intro ?_ ?_; focus ((repeat' apply And.intro) <;> first | rfl | omega | (unfold inR; omega) | (simp; done) | (unfold inR; simp at *; omega) | (simp at *; omega) | (intros; contradiction)))
                 )
        refine ⟨i + 1, ⟨hlt, ?_⟩, Nat.sub_lt_sub_left hlt (Nat.lt_succ_self i), ⟨rfl, rfl, rfl, rfl, rfl, rfl, trivial⟩, trivial, rfl⟩
        rw [eqL_take hx hy, he]
        exact nf hyes
    · have hge : i = a.length := by
        have : ¬ i < a.length := by simpa using hge
        omega
      repeat' (conv => whnf
               first
                 | (exact And.intro rfl rfl)
                 | (refine And.intro (?_ : _ = Out.ret _) rfl)
                 | (intro _)
                 | (refine And.intro rfl ?_)
                 | (refine apn_own ?_)
                 | (refine .inl (And.intro ?_ ?_); focus ((repeat' apply And.intro) <;> first | rfl | omega | (unfold inR; omega) | (simp; done) | (unfold inR; simp at *; omega) | (simp at *; omega) | (intros; contradiction)))
                 | (refine And.intro ?_ ?_; focus ((repeat' apply And.intro) <;> first | rfl | omega | (unfold inR; omega) | (simp; done) | (unfold inR; simp at *; omega) | (simp at *; omega) | (intros; contradiction)))
               )
      refine outs_eq (congrArg (fun x => V.d (.bool x)) ?_)
      subst hge
      rw [List.take_length, hl, List.take_length] at he
      exact he.symm

def same (a b : Co) : Bool := eqL eqF a.fr b.fr && (eqL eqV a.st b.st && eqL eqT a.tr b.tr)
theorem same_refl (c : Co) : same c c = true := by simp [same, eqL_refl eqF_refl, eqL_refl eqV_refl, eqL_refl eqT_refl]
theorem same8 (a b : Co) : SatP Try.prog 8 [agC a, agC b] (.d (.bool (same a b))) := by
  refine s8 (keep := false) rfl ?_
  repeat' (conv => whnf
           first
             | (exact And.intro rfl rfl)
             | (refine And.intro (?_ : _ = Out.ret _) rfl)
             | (intro _)
             | (refine And.intro rfl ?_)
             | (refine ⟨_, equal17 _ _, ?_⟩)
             | (refine (equal17 _ _).use ?_)
             | (refine ⟨_, equal19 _ _, ?_⟩)
             | (refine (equal19 _ _).use ?_)
             | (refine ⟨_, equal20 _ _, ?_⟩)
             | (refine (equal20 _ _).use ?_)
             | (refine apn_own ?_)
             | (refine .inl (And.intro ?_ ?_); focus ((repeat' apply And.intro) <;> first | rfl | omega | (unfold inR; omega) | (simp; done) | (unfold inR; simp at *; omega) | (simp at *; omega) | (intros; contradiction)))
             | (refine And.intro ?_ ?_; focus ((repeat' apply And.intro) <;> first | rfl | omega | (unfold inR; omega) | (simp; done) | (unfold inR; simp at *; omega) | (simp at *; omega) | (intros; contradiction)))
             | (refine sp_intro (fun hb => ?_) (fun hb => ?_))
           )
  all_goals
    refine outs_eq (congrArg (fun x => V.d (.bool x)) ?_)
    simp_all [same]

def cutn {α : Type} (l : List α) (n : Int) : List α := l.take (min (max n 0) l.length).toNat
theorem cutn_map {α β : Type} (f : α → β) (l : List α) (n : Int) : cutn (l.map f) n = (cutn l n).map f := by simp [cutn, List.map_take]
def cutC (c : Co) (f h t : Int) : Co := ⟨cutn c.fr f, cutn c.st h, cutn c.tr t⟩
theorem cut9 (c : Co) (f h t : Int) : SatP Try.prog 9 [agC c, .d (.int .i64 f), .d (.int .i64 h), .d (.int .i64 t)] (agC (cutC c f h t)) := by
  refine s9 (keep := false) rfl ?_
  repeat' (conv => whnf
           first
             | (exact And.intro rfl rfl)
             | (refine And.intro (?_ : _ = Out.ret _) rfl)
             | (intro _)
             | (refine And.intro rfl ?_)
             | (refine ⟨_, cut21 _ _, ?_⟩)
             | (refine (cut21 _ _).use ?_)
             | (refine ⟨_, cut22 _ _, ?_⟩)
             | (refine (cut22 _ _).use ?_)
             | (refine ⟨_, cut23 _ _, ?_⟩)
             | (refine (cut23 _ _).use ?_)
             | (refine apn_own ?_)
             | (refine .inl (And.intro ?_ ?_); focus ((repeat' apply And.intro) <;> first | rfl | omega | (unfold inR; omega) | (simp; done) | (unfold inR; simp at *; omega) | (simp at *; omega) | (intros; contradiction)))
             | (refine And.intro ?_ ?_; focus ((repeat' apply And.intro) <;> first | rfl | omega | (unfold inR; omega) | (simp; done) | (unfold inR; simp at *; omega) | (simp at *; omega) | (intros; contradiction)))
           )
  show Out.ret (V.ag [V.d (.sl 5 (cutn (c.fr.map encF) f)), V.d (.sl 5 (cutn (c.st.map encV) h)), V.d (.sl 3 (cutn (c.tr.map encT) t))]) = _
  rw [cutn_map, cutn_map, cutn_map]
  rfl

def pushC (c : Co) (v : Va) : Co := ⟨c.fr, c.st ++ [v], c.tr⟩
theorem push11 (c : Co) (v : Va) (hl : c.st.length < 1000000000) : SatP Try.prog 11 [agC c, agV v] (agC (pushC c v)) := by
  refine s11 (keep := false) rfl ?_
  have hl' : (c.st.map encV).length < 1000000000 := by simpa using hl
  repeat' (conv => whnf
           first
             | (exact And.intro rfl rfl)
             | (refine And.intro (?_ : _ = Out.ret _) rfl)
             | (intro _)
             | (refine And.intro rfl ?_)
             | (refine ⟨_, add24 _ _ _ _ _ _ hl', ?_⟩)
             | (refine (add24 _ _ _ _ _ _ hl').use ?_)
             | (refine apn_own ?_)
             | (refine .inl (And.intro ?_ ?_); focus ((repeat' apply And.intro) <;> first | rfl | omega | (unfold inR; omega) | (simp; done) | (unfold inR; simp at *; omega) | (simp at *; omega) | (intros; contradiction)))
             | (refine And.intro ?_ ?_; focus ((repeat' apply And.intro) <;> first | rfl | omega | (unfold inR; omega) | (simp; done) | (unfold inR; simp at *; omega) | (simp at *; omega) | (intros; contradiction)))
           )
  show Out.ret (V.ag [V.d (.sl 5 (c.fr.map encF)), V.d (.sl 5 (c.st.map encV ++ [encV v])), V.d (.sl 3 (c.tr.map encT))]) = _
  simp [agC, pushC]

/-- Where the last frame's part of the stack begins. -/
def base (c : Co) : Int := match c.fr.getLast? with
  | some f => f.ba
  | none => 0
def popOk (c : Co) (n : Int) : Bool := decide (0 ≤ n) && (decide (0 ≤ base c) && (decide (base c ≤ c.st.length) && decide (n ≤ c.st.length - base c)))
/-- What is popped. -/
def popC (c : Co) (n : Int) : Co := ⟨c.fr, cutn c.st (c.st.length - n), c.tr⟩
def popL (c : Co) (n : Int) : List Va := c.st.drop (c.st.length - n).toNat
def popR (c : Co) (n : Int) : V :=
  bif popOk c n then .tu [agC (popC c n), .d (.sl 5 ((popL c n).map encV)), .d (.bool true)]
  else .tu [agC c, .d (.sl 5 []), .d (.bool false)]
theorem popR_yes {c : Co} {n : Int} (h : popOk c n = true) : popR c n = .tu [agC (popC c n), .d (.sl 5 ((popL c n).map encV)), .d (.bool true)] := by simp [popR, h]
theorem popR_no {c : Co} {n : Int} (h : popOk c n = false) : popR c n = .tu [agC c, .d (.sl 5 []), .d (.bool false)] := by simp [popR, h]
theorem pop10 (c : Co) (n : Int) (hl : c.st.length < 1000000000) : SatP Try.prog 10 [agC c, .d (.int .i64 n)] (popR c n) := by
  refine s10 (keep := false) rfl ?_
  have hl' : (c.st.map encV).length < 1000000000 := by simpa using hl
  have yes : ∀ (b : Int), base c = b → ¬ n < 0 → ¬ b < 0 → ¬ (c.st.length : Int) < b → ¬ (c.st.length : Int) - b < n → popOk c n = true := by
    intro b hb h1 h2 h3 h4
    simp [popOk, hb]
    omega
  have no : ∀ (b : Int), base c = b → (n < 0 ∨ b < 0 ∨ (c.st.length : Int) < b ∨ (c.st.length : Int) - b < n) → popOk c n = false := by
    intro b hb h
    cases he : popOk c n with
    | false => rfl
    | true =>
      simp [popOk, hb] at he
      omega
  repeat' (conv => whnf
           first
             | (exact And.intro rfl rfl)
             | (refine And.intro (?_ : _ = Out.ret _) rfl)
             | (intro _)
             | (refine And.intro rfl ?_)
             | (refine apn_own ?_)
             | (refine .inl (And.intro ?_ ?_); focus ((repeat' apply And.intro) <;> first | rfl | omega | (unfold inR; omega) | (simp; done) | (unfold inR; simp at *; omega) | (simp at *; omega) | (intros; contradiction)))
             | (refine And.intro ?_ ?_; focus ((repeat' apply And.intro) <;> first | rfl | omega | (unfold inR; omega) | (simp; done) | (unfold inR; simp at *; omega) | (simp at *; omega) | (intros; contradiction)))
           )
  refine sp_intro (fun hpos => ?_) (fun hzero => ?_)
  · have hpos : 0 < c.fr.length := by simpa using hpos
    obtain ⟨f, hf1⟩ : ∃ f, c.fr[c.fr.length - 1]? = some f := ⟨_, List.getElem?_eq_getElem (by omega)⟩
    have hb : base c = f.ba := by simp [base, List.getLast?_eq_getElem?, hf1]
    replace yes := yes _ hb
    replace no := no _ hb
    repeat' (conv => whnf
             first
               | (exact And.intro rfl rfl)
               | (refine And.intro (?_ : _ = Out.ret _) rfl)
               | (intro _)
               | (refine And.intro rfl ?_)
               | (refine apn_own ?_)
               | (refine .inl (And.intro ?_ ?_); focus ((repeat' apply And.intro) <;> first | rfl | omega | (unfold inR; omega) | (simp; done) | (unfold inR; simp at *; omega) | (simp at *; omega) | (intros; contradiction)))
               | (refine And.intro ?_ ?_; focus ((repeat' apply And.intro) <;> first | rfl | omega | (unfold inR; omega) | (simp; done) | (unfold inR; simp at *; omega) | (simp at *; omega) | (intros; contradiction)))
             )
    refine ⟨encF f, ⟨by simp; omega, by simp [hf1], rfl⟩, ?_⟩
    repeat' (conv => whnf
             first
               | (exact And.intro rfl rfl)
               | (refine And.intro (?_ : _ = Out.ret _) rfl)
               | (intro _)
               | (refine And.intro rfl ?_)
               | (refine clone15 _ (by simp; omega) ?_)
               | (refine ⟨_, cut22 _ _, ?_⟩)
               | (refine (cut22 _ _).use ?_)
               | (refine apn_own ?_)
               | (refine .inl (And.intro ?_ ?_); focus ((repeat' apply And.intro) <;> first | rfl | omega | (unfold inR; omega) | (simp; done) | (unfold inR; simp at *; omega) | (simp at *; omega) | (intros; contradiction)))
               | (refine And.intro ?_ ?_; focus ((repeat' apply And.intro) <;> first | rfl | omega | (unfold inR; omega) | (simp; done) | (unfold inR; simp at *; omega) | (simp at *; omega) | (intros; contradiction)))
               | (refine sp_intro (fun hb => ?_) (fun hb => ?_))
             )
    all_goals
      first
        | (refine (outs_eq (popR_no (no ?_))).symm; simp at *; omega)
        | (have hy := yes (by simp at * <;> omega) (by simp at * <;> omega) (by simp at * <;> omega) (by simp at * <;> omega)
           rw [popR_yes hy]
           show Out.ret (V.tu [V.ag [V.d (.sl 5 (c.fr.map encF)), V.d (.sl 5 (cutn (c.st.map encV) ((c.st.map encV).length - n))), V.d (.sl 3 (c.tr.map encT))], V.d (.sl 5 ((c.st.map encV).drop (((c.st.map encV).length : Int) - n).toNat)), V.d (.bool true)]) = _
           rw [cutn_map]
           simp [agC, popC, popL, List.map_drop])
  · have hz : c.fr = [] := by
      have : ¬ 0 < c.fr.length := by simpa using hzero
      exact List.eq_nil_of_length_eq_zero (by omega)
    have hb : base c = 0 := by simp [base, hz]
    replace yes := yes _ hb
    replace no := no _ hb
    repeat' (conv => whnf
             first
               | (exact And.intro rfl rfl)
               | (refine And.intro (?_ : _ = Out.ret _) rfl)
               | (intro _)
               | (refine And.intro rfl ?_)
               | (refine clone15 _ (by simp; omega) ?_)
               | (refine ⟨_, cut22 _ _, ?_⟩)
               | (refine (cut22 _ _).use ?_)
               | (refine apn_own ?_)
               | (refine .inl (And.intro ?_ ?_); focus ((repeat' apply And.intro) <;> first | rfl | omega | (unfold inR; omega) | (simp; done) | (unfold inR; simp at *; omega) | (simp at *; omega) | (intros; contradiction)))
               | (refine And.intro ?_ ?_; focus ((repeat' apply And.intro) <;> first | rfl | omega | (unfold inR; omega) | (simp; done) | (unfold inR; simp at *; omega) | (simp at *; omega) | (intros; contradiction)))
               | (refine sp_intro (fun hb => ?_) (fun hb => ?_))
             )
    all_goals
      first
        | (refine (outs_eq (popR_no (no ?_))).symm; simp at *; omega)
        | (have hy := yes (by simp at * <;> omega) (by simp at * <;> omega) (by simp at * <;> omega) (by simp at * <;> omega)
           rw [popR_yes hy]
           show Out.ret (V.tu [V.ag [V.d (.sl 5 (c.fr.map encF)), V.d (.sl 5 (cutn (c.st.map encV) ((c.st.map encV).length - n))), V.d (.sl 3 (c.tr.map encT))], V.d (.sl 5 ((c.st.map encV).drop (((c.st.map encV).length : Int) - n).toNat)), V.d (.bool true)]) = _
           rw [cutn_map]
           simp [agC, popC, popL, List.map_drop])
end Go.Proofs.Ytfllfllfeiaoeaa
