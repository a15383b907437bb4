/- The maker of programs in the picture: what it reads, emits; deeds; parts. Conditions: the bytes are bytes. -/
import Derived.Test.YtoibcfioicdlhaaGreatDoorRAV
import Derived.Test.YtoibcfioicdlhaaGreatDoorRBF
namespace Go.Proofs.YtoibcfioicdlhaaGreatDoor
open Go.Vx
set_option maxRecDepth 100000

/-- How an op's operand is meant, what it takes and lays, in a program of sixteen constants, three functions of one argument and eight locals. -/
def opk (c : Int) : Option (Int × Int × Int) := (inf c).map fun i => (i.ar, bif c == 17 then i.po + 1 else i.po, i.pu)
def ctl (c : Int) : Bool := c == 15 || (c == 16 || (c == 18 || (c == 19 || (c == 20 || c == 21))))
def aOk (ar a : Int) : Bool :=
  bif ar == 0 then a == 0 else bif ar == 1 then decide (0 ≤ a) && decide (a < 16) else bif ar == 2 then decide (0 ≤ a) && decide (a < 8) else bif ar == 4 then decide (0 ≤ a) && decide (a < 3) else bif ar == 5 then decide (0 ≤ a) && decide (a ≤ 63) else false
/-- Straight code, from a depth to a depth. -/
inductive Str : Int → List Op → Int → Prop
  | nil (h : Int) : Str h [] h
  | cons {c a ar t p h h' : Int} {r : List Op} (hk : opk c = some (ar, t, p)) (hc : ctl c = false) (ha : aOk ar a = true) (h1 : t ≤ h) (h2 : h - t + p ≤ 8) (hr : Str (h - t + p) r h') : Str h (⟨c, a⟩ :: r) h'
def Deed (d : List Op) : Prop := (Str 0 d 0 ∧ d ≠ [] ∧ (d.getLast?.map (·.c)) ≠ some 19 ∧ d.length ≤ 8) ∨ ∃ n : Int, 0 ≤ n ∧ n < 8 ∧ d = [⟨1, n⟩, ⟨19, 0⟩]

/-- A maker: its bytes, its place, its code. -/
def mkH (l : List Int) (a : Int) (c : List Op) : H := [.cells [.d (.sl 1 (rowsU l)), .d (.int .i64 a), .os 1], .rows 2 (c.map encO)]
def byts (l : List Int) : Prop := ∀ x ∈ l, 0 ≤ x ∧ x ≤ 255
theorem next34 {K : Out → H → Prop} (l : List Int) (a : Int) (c : List Op) (hl : byts l) (ha : 0 ≤ a ∧ a < 1000000) (hk : ∀ n, 0 ≤ n ∧ n ≤ 255 → K (.ret (.d (.int .i64 n))) (mkH l (a + 1) c)) : Sat Tryz.prog 34 [.p 0 0] (mkH l a c) K := by
  have hrl := rowsU_len l
  refine s34 (keep := false) rfl ?_
  repeat' ((conv => whnf); first | ((with_reducible refine And.intro (?_ : @Eq Out _ _) (?_ : @Eq H _ _)) <;> exact rfl) | ((with_reducible refine And.intro (?_ : @Eq Out _ _) (?_ : @Eq H _ _)); rotate_left; exact rfl) | intro _ | refine And.intro rfl ?_ | refine (.inl ⟨by unfold inR; omega, ?_⟩) | refine apn_own ?_ | refine bsn_data ?_ | refine fro_nil ?_ | refine cfo_old ?_ | ((first | refine .inl (And.intro ?_ ?_) | refine And.intro ?_ ?_); focus ((repeat' apply And.intro) <;> first | rfl | omega | (unfold inR; omega) | (simp; done) | (unfold inR; simp at *; omega) | (simp at *; omega) | (intros; contradiction))) | fail)
  refine sp_intro (fun hgt => ?_) (fun hle => ?_)
  · skip
    repeat' ((conv => whnf); first | ((with_reducible refine And.intro (?_ : @Eq Out _ _) (?_ : @Eq H _ _)) <;> exact rfl) | ((with_reducible refine And.intro (?_ : @Eq Out _ _) (?_ : @Eq H _ _)); rotate_left; exact rfl) | intro _ | refine And.intro rfl ?_ | refine apn_own ?_ | refine bsn_data ?_ | refine fro_nil ?_ | refine cfo_old ?_ | ((first | refine .inl (And.intro ?_ ?_) | refine And.intro ?_ ?_); focus ((repeat' apply And.intro) <;> first | rfl | omega | (unfold inR; omega) | (simp; done) | (unfold inR; simp at *; omega) | (simp at *; omega) | (intros; contradiction))) | fail)
    exact hk 0 ⟨by omega, by omega⟩
  · have hle : a + 1 ≤ l.length := by have := of_decide_eq_false hle; omega
    obtain ⟨x, hx⟩ : ∃ x, l[a.toNat]? = some x := ⟨_, List.getElem?_eq_getElem (by omega)⟩
    have hb := hl x (List.mem_of_getElem? hx)
    repeat' ((conv => whnf); first | ((with_reducible refine And.intro (?_ : @Eq Out _ _) (?_ : @Eq H _ _)) <;> exact rfl) | ((with_reducible refine And.intro (?_ : @Eq Out _ _) (?_ : @Eq H _ _)); rotate_left; exact rfl) | intro _ | refine And.intro rfl ?_ | refine (.inl ⟨by unfold inR; omega, ?_⟩) | refine apn_own ?_ | refine bsn_data ?_ | refine fro_nil ?_ | refine cfo_old ?_ | ((first | refine .inl (And.intro ?_ ?_) | refine And.intro ?_ ?_); focus ((repeat' apply And.intro) <;> first | rfl | omega | (unfold inR; omega) | (simp; done) | (unfold inR; simp at *; omega) | (simp at *; omega) | (intros; contradiction))) | fail)
    refine ⟨[D.int .u8 x], ⟨by omega, by rw [show a + 1 - 1 = a by omega]; simp [rowsU, hx], rfl⟩, ?_⟩
    repeat' ((conv => whnf); first | ((with_reducible refine And.intro (?_ : @Eq Out _ _) (?_ : @Eq H _ _)) <;> exact rfl) | ((with_reducible refine And.intro (?_ : @Eq Out _ _) (?_ : @Eq H _ _)); rotate_left; exact rfl) | intro _ | refine And.intro rfl ?_ | refine (.inl ⟨by unfold inR; omega, ?_⟩) | refine apn_own ?_ | refine bsn_data ?_ | refine fro_nil ?_ | refine cfo_old ?_ | ((first | refine .inl (And.intro ?_ ?_) | refine And.intro ?_ ?_); focus ((repeat' apply And.intro) <;> first | rfl | omega | (unfold inR; omega) | (simp; done) | (unfold inR; simp at *; omega) | (simp at *; omega) | (intros; contradiction))) | fail)
    exact hk x hb
theorem emit33 {K : Out → H → Prop} (l : List Int) (a : Int) (c : List Op) (x y : Int) (hc : c.length ≤ 1000000) (hk : K (.ret (.tu [])) (mkH l a (c ++ [⟨x, y⟩]))) : Sat Tryz.prog 33 [.p 0 0, .d (.int .i64 x), .d (.int .i64 y)] (mkH l a c) K := by
  have hcl : (c.map encO).length = c.length := by simp
  have he : (c ++ [(⟨x, y⟩ : Op)]).map encO = c.map encO ++ [[.int .i64 x, .int .i64 y]] := by simp [encO]
  unfold mkH at hk
  rw [he] at hk
  refine s33 (keep := false) rfl ?_
  repeat' ((conv => whnf); first | ((with_reducible refine And.intro (?_ : @Eq Out _ _) (?_ : @Eq H _ _)) <;> exact rfl) | ((with_reducible refine And.intro (?_ : @Eq Out _ _) (?_ : @Eq H _ _)); rotate_left; exact rfl) | intro _ | refine And.intro rfl ?_ | refine apn_own ?_ | refine bsn_data ?_ | refine fro_nil ?_ | refine cfo_old ?_ | ((first | refine .inl (And.intro ?_ ?_) | refine And.intro ?_ ?_); focus ((repeat' apply And.intro) <;> first | rfl | omega | (unfold inR; omega) | (simp; done) | (unfold inR; simp at *; omega) | (simp at *; omega) | (intros; contradiction))) | fail)
  exact hk
theorem tm8 {n : Int} (h : 0 ≤ n ∧ n ≤ 255) (k : Int) (hk : 0 < k) : 0 ≤ n.tmod k ∧ n.tmod k < k := by
  rw [Int.tmod_eq_emod_of_nonneg h.1]
  exact ⟨Int.emod_nonneg _ (by omega), Int.emod_lt_of_pos _ hk⟩
theorem number114 {K : Out → H → Prop} (l : List Int) (a : Int) (c : List Op) (hl : byts l) (ha : 0 ≤ a ∧ a < 1000000) (hc : c.length ≤ 1000000) (hk : ∀ n, 0 ≤ n ∧ n < 8 → K (.ret (.tu [])) (mkH l (a + 1) (c ++ [⟨1, n⟩]))) : Sat Tryz.prog 114 [.p 0 0] (mkH l a c) K := by
  refine s114 (keep := false) rfl ?_
  repeat' ((conv => whnf); first | ((with_reducible refine And.intro (?_ : @Eq Out _ _) (?_ : @Eq H _ _)) <;> exact rfl) | ((with_reducible refine And.intro (?_ : @Eq Out _ _) (?_ : @Eq H _ _)); rotate_left; exact rfl) | intro _ | refine And.intro rfl ?_ | refine (.inr ?_ : (∃ _, _) ∨ _) | refine (next34 l _ _ hl ha (fun n hn => ?_)) | refine (emit33 l _ _ _ _ hc ?_) | refine apn_own ?_ | refine bsn_data ?_ | refine fro_nil ?_ | refine cfo_old ?_ | ((first | refine .inl (And.intro ?_ ?_) | refine And.intro ?_ ?_); focus ((repeat' apply And.intro) <;> first | rfl | omega | (unfold inR; omega) | (simp; done) | (unfold inR; simp at *; omega) | (simp at *; omega) | (intros; contradiction))) | fail)
  exact hk _ (tm8 ‹_› 8 (by decide))
theorem mark115 {K : Out → H → Prop} (l : List Int) (a : Int) (c : List Op) (hl : byts l) (ha : 0 ≤ a ∧ a < 1000000) (hc : c.length ≤ 1000000) (hk : ∀ n, 8 ≤ n ∧ n < 16 → K (.ret (.tu [])) (mkH l (a + 1) (c ++ [⟨1, n⟩]))) : Sat Tryz.prog 115 [.p 0 0] (mkH l a c) K := by
  refine s115 (keep := false) rfl ?_
  repeat' ((conv => whnf); first | ((with_reducible refine And.intro (?_ : @Eq Out _ _) (?_ : @Eq H _ _)) <;> exact rfl) | ((with_reducible refine And.intro (?_ : @Eq Out _ _) (?_ : @Eq H _ _)); rotate_left; exact rfl) | intro _ | refine And.intro rfl ?_ | refine (.inr ?_ : (∃ _, _) ∨ _) | refine (next34 l _ _ hl ha (fun n hn => ?_)) | refine (emit33 l _ _ _ _ hc ?_) | refine (.inl ⟨by have := tm8 ‹_› 8 (by decide); unfold inR; omega, ?_⟩) | refine apn_own ?_ | refine bsn_data ?_ | refine fro_nil ?_ | refine cfo_old ?_ | ((first | refine .inl (And.intro ?_ ?_) | refine And.intro ?_ ?_); focus ((repeat' apply And.intro) <;> first | rfl | omega | (unfold inR; omega) | (simp; done) | (unfold inR; simp at *; omega) | (simp at *; omega) | (intros; contradiction))) | fail)
  exact hk _ (by have := tm8 hn 8 (by decide); omega)
theorem local77 {K : Out → H → Prop} (l : List Int) (a : Int) (c : List Op) (x : Int) (hc : c.length ≤ 1000000) (hk : K (.ret (.tu [])) (mkH l a (c ++ [⟨2, x⟩]))) : Sat Tryz.prog 77 [.p 0 0, .d (.int .i64 x)] (mkH l a c) K := by
  refine s77 (keep := false) rfl ?_
  repeat' ((conv => whnf); first | ((with_reducible refine And.intro (?_ : @Eq Out _ _) (?_ : @Eq H _ _)) <;> exact rfl) | ((with_reducible refine And.intro (?_ : @Eq Out _ _) (?_ : @Eq H _ _)); rotate_left; exact rfl) | intro _ | refine And.intro rfl ?_ | refine (.inr ?_ : (∃ _, _) ∨ _) | refine (emit33 l _ _ _ _ hc ?_) | refine apn_own ?_ | refine bsn_data ?_ | refine fro_nil ?_ | refine cfo_old ?_ | ((first | refine .inl (And.intro ?_ ?_) | refine And.intro ?_ ?_); focus ((repeat' apply And.intro) <;> first | rfl | omega | (unfold inR; omega) | (simp; done) | (unfold inR; simp at *; omega) | (simp at *; omega) | (intros; contradiction))) | fail)
  exact hk
/-- What a byte leaves. -/
theorem next34' {K : Out → H → Prop} (l : List Int) (a : Int) (c : List Op) (hl : byts l) (ha : 0 ≤ a ∧ a < 1000000)
    (hk : ∀ n, 0 ≤ n ∧ n ≤ 255 ∧ 0 ≤ n.tmod 8 ∧ n.tmod 8 < 8 ∧ 0 ≤ n.tmod 7 ∧ n.tmod 7 < 7 ∧ 0 ≤ n.tmod 2 ∧ n.tmod 2 < 2 ∧ 0 ≤ n.tmod 4 ∧ n.tmod 4 < 4 ∧ 0 ≤ n.tmod 32 ∧ n.tmod 32 < 32 → K (.ret (.d (.int .i64 n))) (mkH l (a + 1) c)) : Sat Tryz.prog 34 [.p 0 0] (mkH l a c) K := by
  refine next34 l a c hl ha fun n hn => hk n ?_
  have h8 := tm8 hn 8 (by decide)
  have h7 := tm8 hn 7 (by decide)
  have h2 := tm8 hn 2 (by decide)
  have h4 := tm8 hn 4 (by decide)
  have h32 := tm8 hn 32 (by decide)
  exact ⟨hn.1, hn.2, h8.1, h8.2, h7.1, h7.2, h2.1, h2.2, h4.1, h4.2, h32.1, h32.2⟩
theorem pick4 {x0 x1 x2 x3 i : Int} {Q : Prop} (hi : 0 ≤ i ∧ i < 4) (h0 : 0 ≤ x0 ∧ x0 < 8) (h1 : 0 ≤ x1 ∧ x1 < 8) (h2 : 0 ≤ x2 ∧ x2 < 8) (h3 : 0 ≤ x3 ∧ x3 < 8)
    (hQ : ∀ x, 0 ≤ x ∧ x < 8 → [[D.int .i64 x0], [D.int .i64 x1], [D.int .i64 x2], [D.int .i64 x3]][i.toNat]? = some [D.int .i64 x] → Q) : Q := by
  have h : i = 0 ∨ i = 1 ∨ i = 2 ∨ i = 3 := by omega
  rcases h with rfl | rfl | rfl | rfl
  · exact hQ x0 h0 rfl
  · exact hQ x1 h1 rfl
  · exact hQ x2 h2 rfl
  · exact hQ x3 h3 rfl
theorem pickE {x0 x1 x2 x3 i : Int} {K : List D → Prop} (hi : 0 ≤ i ∧ i < 4) (h0 : 0 ≤ x0 ∧ x0 < 8) (h1 : 0 ≤ x1 ∧ x1 < 8) (h2 : 0 ≤ x2 ∧ x2 < 8) (h3 : 0 ≤ x3 ∧ x3 < 8)
    (hQ : ∀ x, 0 ≤ x ∧ x < 8 → K [D.int .i64 x]) : ∃ row, (0 ≤ i ∧ [[D.int .i64 x0], [D.int .i64 x1], [D.int .i64 x2], [D.int .i64 x3]][i.toNat]? = some row ∧ Nat.beq 1 1 = true) ∧ K row :=
  pick4 hi h0 h1 h2 h3 fun x hx hr => ⟨_, ⟨hi.1, hr, rfl⟩, hQ x hx⟩
theorem opk_num {c : Int} (h : 7 ≤ c ∧ c ≤ 13) : opk c = some (0, 2, 1) ∧ ctl c = false := by
  have : c = 7 ∨ c = 8 ∨ c = 9 ∨ c = 10 ∨ c = 11 ∨ c = 12 ∨ c = 13 := by omega
  rcases this with rfl | rfl | rfl | rfl | rfl | rfl | rfl <;> exact ⟨rfl, rfl⟩
theorem opk_jm {c : Int} (h : 22 ≤ c ∧ c ≤ 23) : opk c = some (0, 2, 1) ∧ ctl c = false := by
  have : c = 22 ∨ c = 23 := by omega
  rcases this with rfl | rfl <;> exact ⟨rfl, rfl⟩
theorem opk_cc {c : Int} (h : 25 ≤ c ∧ c ≤ 26) : opk c = some (0, 0, 1) ∧ ctl c = false := by
  have : c = 25 ∨ c = 26 := by omega
  rcases this with rfl | rfl <;> exact ⟨rfl, rfl⟩
theorem opk_dl {c : Int} (h : 42 ≤ c ∧ c ≤ 43) : opk c = some (0, 1, 0) ∧ ctl c = false := by
  have : c = 42 ∨ c = 43 := by omega
  rcases this with rfl | rfl <;> exact ⟨rfl, rfl⟩
theorem Str.via {c a ar t p h h' : Int} {r : List Op} (hk : opk c = some (ar, t, p) ∧ ctl c = false) (ha : aOk ar a = true) (h1 : t ≤ h) (h2 : h - t + p ≤ 8) (hr : Str (h - t + p) r h') : Str h (⟨c, a⟩ :: r) h' := .cons hk.1 hk.2 ha h1 h2 hr
end Go.Proofs.YtoibcfioicdlhaaGreatDoor
namespace Go.Proofs.YtoibcfioicdlhaaGreatDoor
open Go.Vx
set_option maxRecDepth 100000

theorem int32 {k : Int} (h : 0 ≤ k ∧ k < 32) : k = 0 ∨ k = 1 ∨ k = 2 ∨ k = 3 ∨ k = 4 ∨ k = 5 ∨ k = 6 ∨ k = 7 ∨ k = 8 ∨ k = 9 ∨ k = 10 ∨ k = 11 ∨ k = 12 ∨ k = 13 ∨ k = 14 ∨ k = 15 ∨ k = 16 ∨ k = 17 ∨ k = 18 ∨ k = 19 ∨ k = 20 ∨ k = 21 ∨ k = 22 ∨ k = 23 ∨ k = 24 ∨ k = 25 ∨ k = 26 ∨ k = 27 ∨ k = 28 ∨ k = 29 ∨ k = 30 ∨ k = 31 := by omega
set_option maxRecDepth 100000 in
set_option maxHeartbeats 4000000 in
theorem deed76 {K : Out → H → Prop} (l : List Int) (a : Int) (c : List Op) (ab : Int) (hl : byts l) (ha : 0 ≤ a ∧ a < 100000) (hc : c.length ≤ 100000) (hab : 0 ≤ ab ∧ ab < 3)
    (hk : ∀ a' c', (∃ d, Deed d ∧ c' = c ++ d) → a ≤ a' ∧ a' ≤ a + 8 → K (.ret (.tu [])) (mkH l a' c')) : Sat Tryz.prog 76 [.p 0 0, .d (.int .i64 ab)] (mkH l a c) K := by
  refine s76 (keep := false) rfl ?_
  repeat' ((conv => whnf); first | ((with_reducible refine And.intro (?_ : @Eq Out _ _) (?_ : @Eq H _ _)) <;> exact rfl) | ((with_reducible refine And.intro (?_ : @Eq Out _ _) (?_ : @Eq H _ _)); rotate_left; exact rfl) | intro _ | refine And.intro rfl ?_ | refine (.inr ?_ : (∃ _, _) ∨ _) | refine (next34' l _ _ hl ⟨by omega, by omega⟩ (fun n hn => ?_)) | refine apn_own ?_ | refine bsn_data ?_ | refine fro_nil ?_ | refine cfo_old ?_ | ((first | refine .inl (And.intro ?_ ?_) | refine And.intro ?_ ?_); focus ((repeat' apply And.intro) <;> first | rfl | omega | (unfold inR; omega) | (simp; done) | (unfold inR; simp at *; omega) | (simp at *; omega) | (intros; contradiction))) | fail)
  rename_i n1 hn1
  conv => whnf
  have h := int32 (k := n.tmod 32) ⟨by omega, by omega⟩
  generalize n.tmod 32 = k at h ⊢
  replace hn1 : 0 ≤ n1.tmod 8 ∧ n1.tmod 8 < 8 := by omega
  clear hn
  rcases h with rfl | rfl | rfl | rfl | rfl | rfl | rfl | rfl | rfl | rfl | rfl | rfl | rfl | rfl | rfl | rfl | rfl | rfl | rfl | rfl | rfl | rfl | rfl | rfl | rfl | rfl | rfl | rfl | rfl | rfl | rfl | rfl
  all_goals
    repeat' ((conv => whnf); first | ((with_reducible refine And.intro (?_ : @Eq Out _ _) (?_ : @Eq H _ _)) <;> exact rfl) | ((with_reducible refine And.intro (?_ : @Eq Out _ _) (?_ : @Eq H _ _)); rotate_left; exact rfl) | intro _ | refine And.intro rfl ?_ | refine (.inr ?_ : (∃ _, _) ∨ _) | refine (next34' l _ _ hl ⟨by omega, by omega⟩ (fun n hn => ?_)) | refine (emit33 l _ _ _ _ (by (try simp only [List.length_append, List.length_cons, List.length_nil]); omega) ?_) | refine (number114 l _ _ hl ⟨by omega, by omega⟩ (by (try simp only [List.length_append, List.length_cons, List.length_nil]); omega) (fun n hn => ?_)) | refine (mark115 l _ _ hl ⟨by omega, by omega⟩ (by (try simp only [List.length_append, List.length_cons, List.length_nil]); omega) (fun n hn => ?_)) | refine (local77 l _ _ _ (by (try simp only [List.length_append, List.length_cons, List.length_nil]); omega) ?_) | refine (.inl ⟨by unfold inR; omega, ?_⟩) | refine (pickE (by omega) (by omega) (by omega) (by omega) (by omega) (fun x hx => ?_)) | refine apn_own ?_ | refine bsn_data ?_ | refine fro_nil ?_ | refine cfo_old ?_ | ((first | refine .inl (And.intro ?_ ?_) | refine And.intro ?_ ?_); focus ((repeat' apply And.intro) <;> first | rfl | omega | (unfold inR; omega) | (simp; done) | (unfold inR; simp at *; omega) | (simp at *; omega) | (intros; contradiction))) | refine sp_intro (fun hb => ?_) (fun hb => ?_) | fail)
  all_goals conv => whnf
  all_goals first
    | (refine hk _ _ ⟨_, ?_, by first | (simp only [List.append_assoc]; rfl) | rfl⟩ ⟨by omega, by omega⟩
       refine .inl ⟨?_, by simp, by first | (simp; done) | (simp; omega), by simp⟩
       repeat (first | exact .nil _ | refine .cons rfl rfl (by first | rfl | (simp [aOk]; omega)) (by decide) (by decide) ?_ | refine .via (opk_num (by omega)) rfl (by decide) (by decide) ?_ | refine .via (opk_jm (by omega)) rfl (by decide) (by decide) ?_ | refine .via (opk_cc (by omega)) rfl (by decide) (by decide) ?_ | refine .via (opk_dl (by omega)) rfl (by decide) (by decide) ?_))
    | (refine hk _ _ ⟨[⟨1, _⟩, ⟨19, 0⟩], .inr ⟨_, ?_, ?_, rfl⟩, List.append_assoc c [⟨1, _⟩] [⟨19, 0⟩]⟩ ⟨by omega, by omega⟩ <;> omega)
    | fail
end Go.Proofs.YtoibcfioicdlhaaGreatDoor
namespace Go.Proofs.YtoibcfioicdlhaaGreatDoor
open Go.Vx
set_option maxRecDepth 100000

/-- A part, behind so many ops. -/
def Part (b : Int) (p : List Op) : Prop :=
  ∃ d, Deed d ∧ (p = d ∨ p = [⟨2, 1⟩, ⟨16, b + 2 + d.length⟩] ++ d ∨
    (d.getLast?.map (·.c) = some 19 ∧ p = [⟨20, b + 1 + d.length⟩] ++ d ++ [⟨3, 1⟩]) ∨
    (d.getLast?.map (·.c) ≠ some 19 ∧ p = [⟨20, b + 3 + d.length⟩] ++ d ++ [⟨21, 0⟩, ⟨15, b + 4 + d.length⟩, ⟨3, 1⟩]))
theorem Deed.ne {d : List Op} (h : Deed d) : d ≠ [] := by
  rcases h with h | ⟨n, _, _, rfl⟩
  · exact h.2.1
  · simp
theorem Deed.len {d : List Op} (h : Deed d) : 0 < d.length ∧ d.length ≤ 8 := by
  refine ⟨List.length_pos_iff.2 h.ne, ?_⟩
  rcases h with h | ⟨n, _, _, rfl⟩
  · exact h.2.2.2
  · simp
theorem emit33r {K : Out → H → Prop} (l : List Int) (a : Int) (c : List Op) (x y : Int) {rows : List (List D)} (hr : rows = c.map encO) (hc : c.length ≤ 1000000) (hk : K (.ret (.tu [])) (mkH l a (c ++ [⟨x, y⟩]))) : Sat Tryz.prog 33 [.p 0 0, .d (.int .i64 x), .d (.int .i64 y)] [.cells [.d (.sl 1 (rowsU l)), .d (.int .i64 a), .os 1], .rows 2 rows] K := by
  subst hr
  exact emit33 l a c x y hc hk
/-- The last op of a deed. -/
theorem Deed.last {d : List Op} (h : Deed d) : ∃ o, d.getLast? = some o ∧ ∀ c : List Op, ((c ++ d).map encO)[(((c ++ d).map encO).length - 1 : Int).toNat]? = some (encO o) := by
  have hl := h.len
  refine ⟨d.getLast h.ne, List.getLast?_eq_some_getLast h.ne, fun c => ?_⟩
  have e : ((((c ++ d).map encO).length : Int) - 1).toNat = (c ++ d).length - 1 := by simp only [List.length_map]; omega
  rw [e, List.getElem?_map, List.getElem?_append_right (by rw [List.length_append]; omega), List.length_append, show c.length + d.length - 1 - c.length = d.length - 1 by omega, List.getLast_eq_getElem, List.getElem?_eq_getElem (by omega)]
  rfl
theorem get_mid (c d : List Op) (x : Op) : ((c ++ ([x] ++ d)).map encO)[c.length]? = some (encO x) := by simp
theorem set_mid (c d : List Op) (x y : Op) : ((c ++ ([x] ++ d)).map encO).set c.length (encO y) = (c ++ ([y] ++ d)).map encO := by
  rw [List.map_append, List.map_append, List.set_append_right _ _ (by simp)]
  simp
set_option maxRecDepth 100000 in
set_option maxHeartbeats 4000000 in
theorem part32 {K : Out → H → Prop} (l : List Int) (a : Int) (c : List Op) (ab : Int) (hl : byts l) (ha : 0 ≤ a ∧ a < 10000) (hc : c.length ≤ 10000) (hab : 0 ≤ ab ∧ ab < 3)
    (hk : ∀ a' c', (∃ p, Part c.length p ∧ c' = c ++ p) → a ≤ a' ∧ a' ≤ a + 20 → K (.ret (.tu [])) (mkH l a' c')) : Sat Tryz.prog 32 [.p 0 0, .d (.int .i64 ab)] (mkH l a c) K := by
  have hcl : (c.map encO).length = c.length := by simp
  refine s32 (keep := false) rfl ?_
  repeat' ((conv => whnf); first | ((with_reducible refine And.intro (?_ : @Eq Out _ _) (?_ : @Eq H _ _)) <;> exact rfl) | ((with_reducible refine And.intro (?_ : @Eq Out _ _) (?_ : @Eq H _ _)); rotate_left; exact rfl) | intro _ | refine And.intro rfl ?_ | refine (.inr ?_ : (∃ _, _) ∨ _) | refine (next34' l _ _ hl ⟨by omega, by omega⟩ (fun n hn => ?_)) | refine apn_own ?_ | refine bsn_data ?_ | refine fro_nil ?_ | refine cfo_old ?_ | ((first | refine .inl (And.intro ?_ ?_) | refine And.intro ?_ ?_); focus ((repeat' apply And.intro) <;> first | rfl | omega | (unfold inR; omega) | (simp; done) | (unfold inR; simp at *; omega) | (simp at *; omega) | (intros; contradiction))) | fail)
  refine sp_intro (fun hb => ?_) (fun hb => ?_)
  · skip
    repeat' ((conv => whnf); first | ((with_reducible refine And.intro (?_ : @Eq Out _ _) (?_ : @Eq H _ _)) <;> exact rfl) | ((with_reducible refine And.intro (?_ : @Eq Out _ _) (?_ : @Eq H _ _)); rotate_left; exact rfl) | intro _ | refine And.intro rfl ?_ | refine (.inr ?_ : (∃ _, _) ∨ _) | refine (emit33 l _ _ _ _ (by (try simp only [List.length_append, List.length_cons, List.length_nil]); omega) ?_) | refine (deed76 l _ _ _ hl ⟨by omega, by omega⟩ (by (try simp only [List.length_append, List.length_cons, List.length_nil]); omega) hab (fun a' c' hd ha' => ?_)) | refine apn_own ?_ | refine bsn_data ?_ | refine fro_nil ?_ | refine cfo_old ?_ | ((first | refine .inl (And.intro ?_ ?_) | refine And.intro ?_ ?_); focus ((repeat' apply And.intro) <;> first | rfl | omega | (unfold inR; omega) | (simp; done) | (unfold inR; simp at *; omega) | (simp at *; omega) | (intros; contradiction))) | fail)
    obtain ⟨d, hd, rfl⟩ := hd
    obtain ⟨hd1, hd2⟩ := hd.len
    obtain ⟨o, ho, hrow⟩ := hd.last
    have hrow := hrow (c ++ [(⟨20, 0⟩ : Op)])
    have hlen : ((c ++ [(⟨20, 0⟩ : Op)] ++ d).map encO).length = c.length + 1 + d.length := by simp only [List.length_map, List.length_append, List.length_cons, List.length_nil]
    have hX : (((c ++ [(⟨20, 0⟩ : Op)] ++ d).map encO).length : Int) = c.length + 1 + d.length := by rw [hlen]; omega
    have hci : ((((c.map encO).length : Nat) : Int)).toNat = c.length := by rw [Int.toNat_natCast, hcl]
    cases h19 : (o.c == 19) with
    | true =>
      have hth : d.getLast?.map (·.c) = some 19 := by rw [ho]; simpa using h19
      repeat' ((conv => whnf); first | ((with_reducible refine And.intro (?_ : @Eq Out _ _) (?_ : @Eq H _ _)) <;> exact rfl) | ((with_reducible refine And.intro (?_ : @Eq Out _ _) (?_ : @Eq H _ _)); rotate_left; exact rfl) | intro _ | refine And.intro rfl ?_ | refine (.inl ⟨by unfold inR; omega, ?_⟩) | refine apn_own ?_ | refine bsn_data ?_ | refine fro_nil ?_ | refine cfo_old ?_ | ((first | refine .inl (And.intro ?_ ?_) | refine And.intro ?_ ?_); focus ((repeat' apply And.intro) <;> first | rfl | omega | (unfold inR; omega) | (simp; done) | (unfold inR; simp at *; omega) | (simp at *; omega) | (intros; contradiction))) | fail)
      refine ⟨encO o, hrow, ?_⟩
      repeat' ((conv => whnf); first | ((with_reducible refine And.intro (?_ : @Eq Out _ _) (?_ : @Eq H _ _)) <;> exact rfl) | ((with_reducible refine And.intro (?_ : @Eq Out _ _) (?_ : @Eq H _ _)); rotate_left; exact rfl) | intro _ | refine And.intro rfl ?_ | refine (sp_t h19 ?_) | refine apn_own ?_ | refine bsn_data ?_ | refine fro_nil ?_ | refine cfo_old ?_ | ((first | refine .inl (And.intro ?_ ?_) | refine And.intro ?_ ?_); focus ((repeat' apply And.intro) <;> first | rfl | omega | (unfold inR; omega) | (simp; done) | (unfold inR; simp at *; omega) | (simp at *; omega) | (intros; contradiction))) | fail)
      conv => whnf
      refine ⟨encO (⟨20, 0⟩ : Op), by rw [hci, List.append_assoc]; exact get_mid c d _, ⟨rfl, rfl, rfl⟩, ?_⟩
      have hs : ((c ++ [(⟨20, 0⟩ : Op)] ++ d).map encO).set (((c.map encO).length : Nat) : Int).toNat (encO (⟨20, (((c ++ [(⟨20, 0⟩ : Op)] ++ d).map encO).length : Int)⟩ : Op)) = (c ++ ([(⟨20, (c.length : Int) + 1 + d.length⟩ : Op)] ++ d)).map encO := by
        rw [hci, hX, List.append_assoc]
        exact set_mid c d _ _
      repeat' ((conv => whnf); first | ((with_reducible refine And.intro (?_ : @Eq Out _ _) (?_ : @Eq H _ _)) <;> exact rfl) | ((with_reducible refine And.intro (?_ : @Eq Out _ _) (?_ : @Eq H _ _)); rotate_left; exact rfl) | intro _ | refine And.intro rfl ?_ | refine (.inr ?_ : (∃ _, _) ∨ _) | refine (emit33r l _ _ _ _ hs (by (try simp only [List.length_append, List.length_cons, List.length_nil]); omega) ?_) | refine apn_own ?_ | refine bsn_data ?_ | refine fro_nil ?_ | refine cfo_old ?_ | ((first | refine .inl (And.intro ?_ ?_) | refine And.intro ?_ ?_); focus ((repeat' apply And.intro) <;> first | rfl | omega | (unfold inR; omega) | (simp; done) | (unfold inR; simp at *; omega) | (simp at *; omega) | (intros; contradiction))) | fail)
      conv => whnf
      exact hk _ _ ⟨_, ⟨d, hd, .inr (.inr (.inl ⟨hth, rfl⟩))⟩, by simp only [List.append_assoc]⟩ ⟨by omega, by omega⟩
    | false =>
      have hth : d.getLast?.map (·.c) ≠ some 19 := by rw [ho]; simpa using h19
      have hlen2 : ((c ++ [(⟨20, 0⟩ : Op)] ++ d ++ [(⟨21, 0⟩ : Op)]).map encO).length = c.length + 2 + d.length := by simp only [List.length_map, List.length_append, List.length_cons, List.length_nil]; omega
      have hX2 : (((c ++ [(⟨20, 0⟩ : Op)] ++ d ++ [(⟨21, 0⟩ : Op)]).map encO).length : Int) + 2 = c.length + 4 + d.length := by rw [hlen2]; omega
      repeat' ((conv => whnf); first | ((with_reducible refine And.intro (?_ : @Eq Out _ _) (?_ : @Eq H _ _)) <;> exact rfl) | ((with_reducible refine And.intro (?_ : @Eq Out _ _) (?_ : @Eq H _ _)); rotate_left; exact rfl) | intro _ | refine And.intro rfl ?_ | refine (.inl ⟨by unfold inR; omega, ?_⟩) | refine apn_own ?_ | refine bsn_data ?_ | refine fro_nil ?_ | refine cfo_old ?_ | ((first | refine .inl (And.intro ?_ ?_) | refine And.intro ?_ ?_); focus ((repeat' apply And.intro) <;> first | rfl | omega | (unfold inR; omega) | (simp; done) | (unfold inR; simp at *; omega) | (simp at *; omega) | (intros; contradiction))) | fail)
      refine ⟨encO o, hrow, ?_⟩
      repeat' ((conv => whnf); first | ((with_reducible refine And.intro (?_ : @Eq Out _ _) (?_ : @Eq H _ _)) <;> exact rfl) | ((with_reducible refine And.intro (?_ : @Eq Out _ _) (?_ : @Eq H _ _)); rotate_left; exact rfl) | intro _ | refine And.intro rfl ?_ | refine (sp_f h19 ?_) | refine (.inr ?_ : (∃ _, _) ∨ _) | refine (emit33 l _ _ _ _ (by (try simp only [List.length_append, List.length_cons, List.length_nil]); omega) ?_) | refine (.inl ⟨by unfold inR; omega, ?_⟩) | refine apn_own ?_ | refine bsn_data ?_ | refine fro_nil ?_ | refine cfo_old ?_ | ((first | refine .inl (And.intro ?_ ?_) | refine And.intro ?_ ?_); focus ((repeat' apply And.intro) <;> first | rfl | omega | (unfold inR; omega) | (simp; done) | (unfold inR; simp at *; omega) | (simp at *; omega) | (intros; contradiction))) | fail)
      conv => whnf
      have hs : ((c ++ [(⟨20, 0⟩ : Op)] ++ d ++ [(⟨21, 0⟩ : Op)] ++ [(⟨15, (((c ++ [(⟨20, 0⟩ : Op)] ++ d ++ [(⟨21, 0⟩ : Op)]).map encO).length : Int) + 2⟩ : Op)]).map encO).set (((c.map encO).length : Nat) : Int).toNat (encO (⟨20, (((c ++ [(⟨20, 0⟩ : Op)] ++ d ++ [(⟨21, 0⟩ : Op)] ++ [(⟨15, (((c ++ [(⟨20, 0⟩ : Op)] ++ d ++ [(⟨21, 0⟩ : Op)]).map encO).length : Int) + 2⟩ : Op)]).map encO).length : Int)⟩ : Op)) = (c ++ ([(⟨20, (c.length : Int) + 3 + d.length⟩ : Op)] ++ (d ++ ([(⟨21, 0⟩ : Op)] ++ [(⟨15, (c.length : Int) + 4 + d.length⟩ : Op)])))).map encO := by
        rw [hci, hX2]
        have e : (((c ++ [(⟨20, 0⟩ : Op)] ++ d ++ [(⟨21, 0⟩ : Op)] ++ [(⟨15, (c.length : Int) + 4 + d.length⟩ : Op)]).map encO).length : Int) = c.length + 3 + d.length := by simp only [List.length_map, List.length_append, List.length_cons, List.length_nil]; omega
        rw [e]
        simp only [List.append_assoc]
        exact set_mid c _ _ _
      refine ⟨encO (⟨20, 0⟩ : Op), by rw [hci]; simp only [List.append_assoc]; exact get_mid c _ _, ⟨rfl, rfl, rfl⟩, ?_⟩
      repeat' ((conv => whnf); first | ((with_reducible refine And.intro (?_ : @Eq Out _ _) (?_ : @Eq H _ _)) <;> exact rfl) | ((with_reducible refine And.intro (?_ : @Eq Out _ _) (?_ : @Eq H _ _)); rotate_left; exact rfl) | intro _ | refine And.intro rfl ?_ | refine (.inr ?_ : (∃ _, _) ∨ _) | refine (emit33r l _ _ _ _ hs (by (try simp only [List.length_append, List.length_cons, List.length_nil]); omega) ?_) | refine apn_own ?_ | refine bsn_data ?_ | refine fro_nil ?_ | refine cfo_old ?_ | ((first | refine .inl (And.intro ?_ ?_) | refine And.intro ?_ ?_); focus ((repeat' apply And.intro) <;> first | rfl | omega | (unfold inR; omega) | (simp; done) | (unfold inR; simp at *; omega) | (simp at *; omega) | (intros; contradiction))) | fail)
      conv => whnf
      exact hk _ _ ⟨_, ⟨d, hd, .inr (.inr (.inr ⟨hth, rfl⟩))⟩, by simp only [List.append_assoc, List.cons_append, List.nil_append]⟩ ⟨by omega, by omega⟩
  · refine sp_intro (fun hb2 => ?_) (fun hb2 => ?_)
    · skip
      repeat' ((conv => whnf); first | ((with_reducible refine And.intro (?_ : @Eq Out _ _) (?_ : @Eq H _ _)) <;> exact rfl) | ((with_reducible refine And.intro (?_ : @Eq Out _ _) (?_ : @Eq H _ _)); rotate_left; exact rfl) | intro _ | refine And.intro rfl ?_ | refine (.inr ?_ : (∃ _, _) ∨ _) | refine (local77 l _ _ _ (by (try simp only [List.length_append, List.length_cons, List.length_nil]); omega) ?_) | refine (emit33 l _ _ _ _ (by (try simp only [List.length_append, List.length_cons, List.length_nil]); omega) ?_) | refine (deed76 l _ _ _ hl ⟨by omega, by omega⟩ (by (try simp only [List.length_append, List.length_cons, List.length_nil]); omega) hab (fun a' c' hd ha' => ?_)) | refine apn_own ?_ | refine bsn_data ?_ | refine fro_nil ?_ | refine cfo_old ?_ | ((first | refine .inl (And.intro ?_ ?_) | refine And.intro ?_ ?_); focus ((repeat' apply And.intro) <;> first | rfl | omega | (unfold inR; omega) | (simp; done) | (unfold inR; simp at *; omega) | (simp at *; omega) | (intros; contradiction))) | fail)
      obtain ⟨d, hd, rfl⟩ := hd
      obtain ⟨hd1, hd2⟩ := hd.len
      have hlen : ((c ++ [(⟨2, 1⟩ : Op)] ++ [(⟨16, 0⟩ : Op)] ++ d).map encO).length = c.length + 2 + d.length := by simp only [List.length_map, List.length_append, List.length_cons, List.length_nil]
      have hX : (((c ++ [(⟨2, 1⟩ : Op)] ++ [(⟨16, 0⟩ : Op)] ++ d).map encO).length : Int) = c.length + 2 + d.length := by rw [hlen]; omega
      have hci : ((((c.map encO).length : Nat) : Int) + 1).toNat = (c ++ [(⟨2, 1⟩ : Op)]).length := by rw [hcl, List.length_append]; simp only [List.length_cons, List.length_nil]; omega
      have hs : ((c ++ [(⟨2, 1⟩ : Op)] ++ [(⟨16, 0⟩ : Op)] ++ d).map encO).set ((((c.map encO).length : Nat) : Int) + 1).toNat (encO (⟨16, (((c ++ [(⟨2, 1⟩ : Op)] ++ [(⟨16, 0⟩ : Op)] ++ d).map encO).length : Int)⟩ : Op)) = (c ++ (([⟨2, 1⟩, ⟨16, (c.length : Int) + 2 + d.length⟩] : List Op) ++ d)).map encO := by
        rw [hci, hX, List.append_assoc (c ++ [(⟨2, 1⟩ : Op)])]
        rw [set_mid (c ++ [(⟨2, 1⟩ : Op)]) d _ _, List.append_assoc]
        rfl
      repeat' ((conv => whnf); first | ((with_reducible refine And.intro (?_ : @Eq Out _ _) (?_ : @Eq H _ _)) <;> exact rfl) | ((with_reducible refine And.intro (?_ : @Eq Out _ _) (?_ : @Eq H _ _)); rotate_left; exact rfl) | intro _ | refine And.intro rfl ?_ | refine (.inl ⟨by unfold inR; omega, ?_⟩) | refine apn_own ?_ | refine bsn_data ?_ | refine fro_nil ?_ | refine cfo_old ?_ | ((first | refine .inl (And.intro ?_ ?_) | refine And.intro ?_ ?_); focus ((repeat' apply And.intro) <;> first | rfl | omega | (unfold inR; omega) | (simp; done) | (unfold inR; simp at *; omega) | (simp at *; omega) | (intros; contradiction))) | fail)
      conv => whnf
      refine ⟨encO (⟨16, 0⟩ : Op), by rw [hci, List.append_assoc (c ++ [(⟨2, 1⟩ : Op)])]; exact get_mid (c ++ [(⟨2, 1⟩ : Op)]) d _, ⟨rfl, rfl, rfl⟩, ?_⟩
      repeat' ((conv => whnf); first | ((with_reducible refine And.intro (?_ : @Eq Out _ _) (?_ : @Eq H _ _)) <;> exact rfl) | ((with_reducible refine And.intro (?_ : @Eq Out _ _) (?_ : @Eq H _ _)); rotate_left; exact rfl) | intro _ | refine And.intro rfl ?_ | refine apn_own ?_ | refine bsn_data ?_ | refine fro_nil ?_ | refine cfo_old ?_ | ((first | refine .inl (And.intro ?_ ?_) | refine And.intro ?_ ?_); focus ((repeat' apply And.intro) <;> first | rfl | omega | (unfold inR; omega) | (simp; done) | (unfold inR; simp at *; omega) | (simp at *; omega) | (intros; contradiction))) | fail)
      conv => whnf
      have h2 := hk a' (c ++ (([⟨2, 1⟩, ⟨16, (c.length : Int) + 2 + d.length⟩] : List Op) ++ d)) ⟨_, ⟨d, hd, .inr (.inl rfl)⟩, rfl⟩ ⟨by omega, by omega⟩
      unfold mkH at h2
      rw [← hs] at h2
      exact h2
    · skip
      repeat' ((conv => whnf); first | ((with_reducible refine And.intro (?_ : @Eq Out _ _) (?_ : @Eq H _ _)) <;> exact rfl) | ((with_reducible refine And.intro (?_ : @Eq Out _ _) (?_ : @Eq H _ _)); rotate_left; exact rfl) | intro _ | refine And.intro rfl ?_ | refine (.inr ?_ : (∃ _, _) ∨ _) | refine (deed76 l _ _ _ hl ⟨by omega, by omega⟩ (by (try simp only [List.length_append, List.length_cons, List.length_nil]); omega) hab (fun a' c' hd ha' => ?_)) | refine apn_own ?_ | refine bsn_data ?_ | refine fro_nil ?_ | refine cfo_old ?_ | ((first | refine .inl (And.intro ?_ ?_) | refine And.intro ?_ ?_); focus ((repeat' apply And.intro) <;> first | rfl | omega | (unfold inR; omega) | (simp; done) | (unfold inR; simp at *; omega) | (simp at *; omega) | (intros; contradiction))) | fail)
      conv => whnf
      obtain ⟨d, hd, rfl⟩ := hd
      exact hk _ _ ⟨d, ⟨d, hd, .inl rfl⟩, rfl⟩ ⟨by omega, by omega⟩
end Go.Proofs.YtoibcfioicdlhaaGreatDoor
