/- The maker's functions of chapter 16: as those of chapter 10. Conditions: the bytes are bytes. -/
import Derived.Test.YtoibcfioicdlhaaGreatDoorQBE
namespace Go.Proofs.YtoibcfioicdlhaaGreatDoor
open Go.Vx
set_option maxRecDepth 100000
theorem next42 {K : Out → H → Prop} (l : List Int) (a : Int) (c : List Op) (hl : byts l) (ha : 0 ≤ a ∧ a < 1000000) (hk : ∀ n, 0 ≤ n ∧ n ≤ 255 → K (.ret (.d (.int .i64 n))) (mkH l (a + 1) c)) : Sat Tryz.prog 42 [.p 0 0] (mkH l a c) K := by
  have hrl := rowsU_len l
  refine s42 (keep := false) rfl ?_
  repeat' ((conv => whnf); first | exact zf | refine zg ?_ | intro _ | refine And.intro rfl ?_ | refine (.inl ⟨by unfold inR; omega, ?_⟩) | refine za ?_ | refine zl ?_ | fail)
  refine sp_intro (fun hgt => ?_) (fun hle => ?_)
  · skip
    repeat' ((conv => whnf); first | exact zf | refine zg ?_ | intro _ | refine And.intro rfl ?_ | refine za ?_ | refine zl ?_ | fail)
    exact hk 0 ⟨by omega, by omega⟩
  · have hle : a + 1 ≤ l.length := by have := of_decide_eq_false hle; omega
    obtain ⟨x, hx⟩ : ∃ x, l[a.toNat]? = some x := ⟨_, List.getElem?_eq_getElem (by omega)⟩
    have hb := hl x (List.mem_of_getElem? hx)
    repeat' ((conv => whnf); first | exact zf | refine zg ?_ | intro _ | refine And.intro rfl ?_ | refine (.inl ⟨by unfold inR; omega, ?_⟩) | refine za ?_ | refine zl ?_ | fail)
    refine ⟨[D.int .u8 x], ⟨by omega, by rw [show a + 1 - 1 = a by omega]; simp [rowsU, hx], rfl⟩, ?_⟩
    repeat' ((conv => whnf); first | exact zf | refine zg ?_ | intro _ | refine And.intro rfl ?_ | refine (.inl ⟨by unfold inR; omega, ?_⟩) | refine za ?_ | refine zl ?_ | fail)
    exact hk x hb
theorem emit41 {K : Out → H → Prop} (l : List Int) (a : Int) (c : List Op) (x y : Int) (hc : c.length ≤ 1000000) (hk : K (.ret (.tu [])) (mkH l a (c ++ [⟨x, y⟩]))) : Sat Tryz.prog 41 [.p 0 0, .d (.int .i64 x), .d (.int .i64 y)] (mkH l a c) K := by
  have hcl : (c.map encO).length = c.length := by simp
  have he : (c ++ [(⟨x, y⟩ : Op)]).map encO = c.map encO ++ [[.int .i64 x, .int .i64 y]] := by simp [encO]
  unfold mkH at hk
  rw [he] at hk
  refine s41 (keep := false) rfl ?_
  repeat' ((conv => whnf); first | exact zf | refine zg ?_ | intro _ | refine And.intro rfl ?_ | refine za ?_ | refine zl ?_ | fail)
  exact hk
theorem number123 {K : Out → H → Prop} (l : List Int) (a : Int) (c : List Op) (hl : byts l) (ha : 0 ≤ a ∧ a < 1000000) (hc : c.length ≤ 1000000) (hk : ∀ n, 0 ≤ n ∧ n < 8 → K (.ret (.tu [])) (mkH l (a + 1) (c ++ [⟨1, n⟩]))) : Sat Tryz.prog 123 [.p 0 0] (mkH l a c) K := by
  refine s123 (keep := false) rfl ?_
  repeat' ((conv => whnf); first | exact zf | refine zg ?_ | intro _ | refine And.intro rfl ?_ | refine (.inr ?_ : (∃ _, _) ∨ _) | refine (next42 l _ _ hl ha (fun n hn => ?_)) | refine (emit41 l _ _ _ _ hc ?_) | refine za ?_ | refine zl ?_ | fail)
  exact hk _ (tm8 ‹_› 8 (by decide))
theorem mark124 {K : Out → H → Prop} (l : List Int) (a : Int) (c : List Op) (hl : byts l) (ha : 0 ≤ a ∧ a < 1000000) (hc : c.length ≤ 1000000) (hk : ∀ n, 8 ≤ n ∧ n < 16 → K (.ret (.tu [])) (mkH l (a + 1) (c ++ [⟨1, n⟩]))) : Sat Tryz.prog 124 [.p 0 0] (mkH l a c) K := by
  refine s124 (keep := false) rfl ?_
  repeat' ((conv => whnf); first | exact zf | refine zg ?_ | intro _ | refine And.intro rfl ?_ | refine (.inr ?_ : (∃ _, _) ∨ _) | refine (next42 l _ _ hl ha (fun n hn => ?_)) | refine (emit41 l _ _ _ _ hc ?_) | refine (.inl ⟨by have := tm8 ‹_› 8 (by decide); unfold inR; omega, ?_⟩) | refine za ?_ | refine zl ?_ | fail)
  exact hk _ (by have := tm8 hn 8 (by decide); omega)
theorem local89 {K : Out → H → Prop} (l : List Int) (a : Int) (c : List Op) (x : Int) (hc : c.length ≤ 1000000) (hk : K (.ret (.tu [])) (mkH l a (c ++ [⟨2, x⟩]))) : Sat Tryz.prog 89 [.p 0 0, .d (.int .i64 x)] (mkH l a c) K := by
  refine s89 (keep := false) rfl ?_
  repeat' ((conv => whnf); first | exact zf | refine zg ?_ | intro _ | refine And.intro rfl ?_ | refine (.inr ?_ : (∃ _, _) ∨ _) | refine (emit41 l _ _ _ _ hc ?_) | refine za ?_ | refine zl ?_ | fail)
  exact hk
theorem next42' {K : Out → H → Prop} (l : List Int) (a : Int) (c : List Op) (hl : byts l) (ha : 0 ≤ a ∧ a < 1000000)
    (hk : ∀ n, 0 ≤ n ∧ n ≤ 255 ∧ 0 ≤ n.tmod 8 ∧ n.tmod 8 < 8 ∧ 0 ≤ n.tmod 7 ∧ n.tmod 7 < 7 ∧ 0 ≤ n.tmod 2 ∧ n.tmod 2 < 2 ∧ 0 ≤ n.tmod 4 ∧ n.tmod 4 < 4 ∧ 0 ≤ n.tmod 32 ∧ n.tmod 32 < 32 → K (.ret (.d (.int .i64 n))) (mkH l (a + 1) c)) : Sat Tryz.prog 42 [.p 0 0] (mkH l a c) K := by
  refine next42 l a c hl ha fun n hn => hk n ?_
  have h8 := tm8 hn 8 (by decide)
  have h7 := tm8 hn 7 (by decide)
  have h2 := tm8 hn 2 (by decide)
  have h4 := tm8 hn 4 (by decide)
  have h32 := tm8 hn 32 (by decide)
  exact ⟨hn.1, hn.2, h8.1, h8.2, h7.1, h7.2, h2.1, h2.2, h4.1, h4.2, h32.1, h32.2⟩
set_option maxRecDepth 100000 in
set_option maxHeartbeats 4000000 in
theorem deed88 {K : Out → H → Prop} (l : List Int) (a : Int) (c : List Op) (ab : Int) (hl : byts l) (ha : 0 ≤ a ∧ a < 100000) (hc : c.length ≤ 100000) (hab : 0 ≤ ab ∧ ab < 3)
    (hk : ∀ a' c', (∃ d, Deed d ∧ c' = c ++ d) → a ≤ a' ∧ a' ≤ a + 8 → K (.ret (.tu [])) (mkH l a' c')) : Sat Tryz.prog 88 [.p 0 0, .d (.int .i64 ab)] (mkH l a c) K := by
  refine s88 (keep := false) rfl ?_
  repeat' ((conv => whnf); first | exact zf | refine zg ?_ | intro _ | refine And.intro rfl ?_ | refine (.inr ?_ : (∃ _, _) ∨ _) | refine (next42' l _ _ hl ⟨by omega, by omega⟩ (fun n hn => ?_)) | refine za ?_ | refine zl ?_ | fail)
  rename_i n1 hn1
  conv => whnf
  have h := int32 (k := n.tmod 32) ⟨by omega, by omega⟩
  generalize n.tmod 32 = k at h ⊢
  replace hn1 : 0 ≤ n1.tmod 8 ∧ n1.tmod 8 < 8 := by omega
  clear hn
  rcases h with rfl | rfl | rfl | rfl | rfl | rfl | rfl | rfl | rfl | rfl | rfl | rfl | rfl | rfl | rfl | rfl | rfl | rfl | rfl | rfl | rfl | rfl | rfl | rfl | rfl | rfl | rfl | rfl | rfl | rfl | rfl | rfl
  all_goals
    repeat' ((conv => whnf); first | exact zf | refine zg ?_ | intro _ | refine And.intro rfl ?_ | refine (.inr ?_ : (∃ _, _) ∨ _) | refine (next42' l _ _ hl ⟨by omega, by omega⟩ (fun n hn => ?_)) | refine (emit41 l _ _ _ _ (by (try simp only [List.length_append, List.length_cons, List.length_nil]); omega) ?_) | refine (number123 l _ _ hl ⟨by omega, by omega⟩ (by (try simp only [List.length_append, List.length_cons, List.length_nil]); omega) (fun n hn => ?_)) | refine (mark124 l _ _ hl ⟨by omega, by omega⟩ (by (try simp only [List.length_append, List.length_cons, List.length_nil]); omega) (fun n hn => ?_)) | refine (local89 l _ _ _ (by (try simp only [List.length_append, List.length_cons, List.length_nil]); omega) ?_) | refine (.inl ⟨by unfold inR; omega, ?_⟩) | refine (pickE (by omega) (by omega) (by omega) (by omega) (by omega) (fun x hx => ?_)) | refine za ?_ | refine zl ?_ | refine sp_intro (fun hb => ?_) (fun hb => ?_) | fail)
  all_goals conv => whnf
  all_goals first
    | (refine hk _ _ ⟨_, ?_, by first | (simp only [List.append_assoc]; rfl) | rfl⟩ ⟨by omega, by omega⟩
       refine .inl ⟨?_, by simp, by first | (simp; done) | (simp; omega), by simp⟩
       repeat (first | exact .nil _ | refine .cons rfl rfl (by first | rfl | (simp [aOk]; omega)) (by decide) (by decide) ?_ | refine .via (opk_num (by omega)) rfl (by decide) (by decide) ?_ | refine .via (opk_jm (by omega)) rfl (by decide) (by decide) ?_ | refine .via (opk_cc (by omega)) rfl (by decide) (by decide) ?_ | refine .via (opk_dl (by omega)) rfl (by decide) (by decide) ?_))
    | (refine hk _ _ ⟨[⟨1, _⟩, ⟨19, 0⟩], .inr ⟨_, ?_, ?_, rfl⟩, List.append_assoc c [⟨1, _⟩] [⟨19, 0⟩]⟩ ⟨by omega, by omega⟩ <;> omega)
    | fail
theorem emit41r {K : Out → H → Prop} (l : List Int) (a : Int) (c : List Op) (x y : Int) {rows : List (List D)} (hr : rows = c.map encO) (hc : c.length ≤ 1000000) (hk : K (.ret (.tu [])) (mkH l a (c ++ [⟨x, y⟩]))) : Sat Tryz.prog 41 [.p 0 0, .d (.int .i64 x), .d (.int .i64 y)] [.cells [.d (.sl 1 (rowsU l)), .d (.int .i64 a), .os 1], .rows 2 rows] K := by
  subst hr
  exact emit41 l a c x y hc hk
set_option maxRecDepth 100000 in
set_option maxHeartbeats 4000000 in
theorem part40 {K : Out → H → Prop} (l : List Int) (a : Int) (c : List Op) (ab : Int) (hl : byts l) (ha : 0 ≤ a ∧ a < 10000) (hc : c.length ≤ 10000) (hab : 0 ≤ ab ∧ ab < 3)
    (hk : ∀ a' c', (∃ p, Part c.length p ∧ c' = c ++ p) → a ≤ a' ∧ a' ≤ a + 20 → K (.ret (.tu [])) (mkH l a' c')) : Sat Tryz.prog 40 [.p 0 0, .d (.int .i64 ab)] (mkH l a c) K := by
  have hcl : (c.map encO).length = c.length := by simp
  refine s40 (keep := false) rfl ?_
  repeat' ((conv => whnf); first | exact zf | refine zg ?_ | intro _ | refine And.intro rfl ?_ | refine (.inr ?_ : (∃ _, _) ∨ _) | refine (next42' l _ _ hl ⟨by omega, by omega⟩ (fun n hn => ?_)) | refine za ?_ | refine zl ?_ | fail)
  refine sp_intro (fun hb => ?_) (fun hb => ?_)
  · skip
    repeat' ((conv => whnf); first | exact zf | refine zg ?_ | intro _ | refine And.intro rfl ?_ | refine (.inr ?_ : (∃ _, _) ∨ _) | refine (emit41 l _ _ _ _ (by (try simp only [List.length_append, List.length_cons, List.length_nil]); omega) ?_) | refine (deed88 l _ _ _ hl ⟨by omega, by omega⟩ (by (try simp only [List.length_append, List.length_cons, List.length_nil]); omega) hab (fun a' c' hd ha' => ?_)) | refine za ?_ | refine zl ?_ | fail)
    obtain ⟨d, hd, rfl⟩ := hd
    obtain ⟨hd1, hd2⟩ := hd.len
    obtain ⟨o, ho, hrow⟩ := hd.last
    have hrow := hrow (c ++ [(⟨20, 0⟩ : Op)])
    have hlen : ((c ++ [(⟨20, 0⟩ : Op)] ++ d).map encO).length = c.length + 1 + d.length := by simp only [List.length_map, List.length_append, List.length_cons, List.length_nil]
    have hX : (((c ++ [(⟨20, 0⟩ : Op)] ++ d).map encO).length : Int) = c.length + 1 + d.length := by rw [hlen]; omega
    have hci : ((((c.map encO).length : Nat) : Int)).toNat = c.length := by rw [Int.toNat_natCast, hcl]
    cases h19 : (o.c == 19) with
    | true =>
      have hth : d.getLast?.map (·.c) = some 19 := by rw [ho]; simpa using h19
      repeat' ((conv => whnf); first | exact zf | refine zg ?_ | intro _ | refine And.intro rfl ?_ | refine (.inl ⟨by unfold inR; omega, ?_⟩) | refine za ?_ | refine zl ?_ | fail)
      refine ⟨encO o, hrow, ?_⟩
      repeat' ((conv => whnf); first | exact zf | refine zg ?_ | intro _ | refine And.intro rfl ?_ | refine (sp_t h19 ?_) | refine za ?_ | refine zl ?_ | fail)
      conv => whnf
      refine ⟨encO (⟨20, 0⟩ : Op), by rw [hci, List.append_assoc]; exact get_mid c d _, ⟨rfl, rfl, rfl⟩, ?_⟩
      have hs : ((c ++ [(⟨20, 0⟩ : Op)] ++ d).map encO).set (((c.map encO).length : Nat) : Int).toNat (encO (⟨20, (((c ++ [(⟨20, 0⟩ : Op)] ++ d).map encO).length : Int)⟩ : Op)) = (c ++ ([(⟨20, (c.length : Int) + 1 + d.length⟩ : Op)] ++ d)).map encO := by
        rw [hci, hX, List.append_assoc]
        exact set_mid c d _ _
      repeat' ((conv => whnf); first | exact zf | refine zg ?_ | intro _ | refine And.intro rfl ?_ | refine (.inr ?_ : (∃ _, _) ∨ _) | refine (emit41r l _ _ _ _ hs (by (try simp only [List.length_append, List.length_cons, List.length_nil]); omega) ?_) | refine za ?_ | refine zl ?_ | fail)
      conv => whnf
      exact hk _ _ ⟨_, ⟨d, hd, .inr (.inr (.inl ⟨hth, rfl⟩))⟩, by simp only [List.append_assoc]⟩ ⟨by omega, by omega⟩
    | false =>
      have hth : d.getLast?.map (·.c) ≠ some 19 := by rw [ho]; simpa using h19
      have hlen2 : ((c ++ [(⟨20, 0⟩ : Op)] ++ d ++ [(⟨21, 0⟩ : Op)]).map encO).length = c.length + 2 + d.length := by simp only [List.length_map, List.length_append, List.length_cons, List.length_nil]; omega
      have hX2 : (((c ++ [(⟨20, 0⟩ : Op)] ++ d ++ [(⟨21, 0⟩ : Op)]).map encO).length : Int) + 2 = c.length + 4 + d.length := by rw [hlen2]; omega
      repeat' ((conv => whnf); first | exact zf | refine zg ?_ | intro _ | refine And.intro rfl ?_ | refine (.inl ⟨by unfold inR; omega, ?_⟩) | refine za ?_ | refine zl ?_ | fail)
      refine ⟨encO o, hrow, ?_⟩
      repeat' ((conv => whnf); first | exact zf | refine zg ?_ | intro _ | refine And.intro rfl ?_ | refine (sp_f h19 ?_) | refine (.inr ?_ : (∃ _, _) ∨ _) | refine (emit41 l _ _ _ _ (by (try simp only [List.length_append, List.length_cons, List.length_nil]); omega) ?_) | refine (.inl ⟨by unfold inR; omega, ?_⟩) | refine za ?_ | refine zl ?_ | fail)
      conv => whnf
      have hs : ((c ++ [(⟨20, 0⟩ : Op)] ++ d ++ [(⟨21, 0⟩ : Op)] ++ [(⟨15, (((c ++ [(⟨20, 0⟩ : Op)] ++ d ++ [(⟨21, 0⟩ : Op)]).map encO).length : Int) + 2⟩ : Op)]).map encO).set (((c.map encO).length : Nat) : Int).toNat (encO (⟨20, (((c ++ [(⟨20, 0⟩ : Op)] ++ d ++ [(⟨21, 0⟩ : Op)] ++ [(⟨15, (((c ++ [(⟨20, 0⟩ : Op)] ++ d ++ [(⟨21, 0⟩ : Op)]).map encO).length : Int) + 2⟩ : Op)]).map encO).length : Int)⟩ : Op)) = (c ++ ([(⟨20, (c.length : Int) + 3 + d.length⟩ : Op)] ++ (d ++ ([(⟨21, 0⟩ : Op)] ++ [(⟨15, (c.length : Int) + 4 + d.length⟩ : Op)])))).map encO := by
        rw [hci, hX2]
        have e : (((c ++ [(⟨20, 0⟩ : Op)] ++ d ++ [(⟨21, 0⟩ : Op)] ++ [(⟨15, (c.length : Int) + 4 + d.length⟩ : Op)]).map encO).length : Int) = c.length + 3 + d.length := by simp only [List.length_map, List.length_append, List.length_cons, List.length_nil]; omega
        rw [e]
        simp only [List.append_assoc]
        exact set_mid c _ _ _
      refine ⟨encO (⟨20, 0⟩ : Op), by rw [hci]; simp only [List.append_assoc]; exact get_mid c _ _, ⟨rfl, rfl, rfl⟩, ?_⟩
      repeat' ((conv => whnf); first | exact zf | refine zg ?_ | intro _ | refine And.intro rfl ?_ | refine (.inr ?_ : (∃ _, _) ∨ _) | refine (emit41r l _ _ _ _ hs (by (try simp only [List.length_append, List.length_cons, List.length_nil]); omega) ?_) | refine za ?_ | refine zl ?_ | fail)
      conv => whnf
      exact hk _ _ ⟨_, ⟨d, hd, .inr (.inr (.inr ⟨hth, rfl⟩))⟩, by simp only [List.append_assoc, List.cons_append, List.nil_append]⟩ ⟨by omega, by omega⟩
  · refine sp_intro (fun hb2 => ?_) (fun hb2 => ?_)
    · skip
      repeat' ((conv => whnf); first | exact zf | refine zg ?_ | intro _ | refine And.intro rfl ?_ | refine (.inr ?_ : (∃ _, _) ∨ _) | refine (local89 l _ _ _ (by (try simp only [List.length_append, List.length_cons, List.length_nil]); omega) ?_) | refine (emit41 l _ _ _ _ (by (try simp only [List.length_append, List.length_cons, List.length_nil]); omega) ?_) | refine (deed88 l _ _ _ hl ⟨by omega, by omega⟩ (by (try simp only [List.length_append, List.length_cons, List.length_nil]); omega) hab (fun a' c' hd ha' => ?_)) | refine za ?_ | refine zl ?_ | fail)
      obtain ⟨d, hd, rfl⟩ := hd
      obtain ⟨hd1, hd2⟩ := hd.len
      have hlen : ((c ++ [(⟨2, 1⟩ : Op)] ++ [(⟨16, 0⟩ : Op)] ++ d).map encO).length = c.length + 2 + d.length := by simp only [List.length_map, List.length_append, List.length_cons, List.length_nil]
      have hX : (((c ++ [(⟨2, 1⟩ : Op)] ++ [(⟨16, 0⟩ : Op)] ++ d).map encO).length : Int) = c.length + 2 + d.length := by rw [hlen]; omega
      have hci : ((((c.map encO).length : Nat) : Int) + 1).toNat = (c ++ [(⟨2, 1⟩ : Op)]).length := by rw [hcl, List.length_append]; simp only [List.length_cons, List.length_nil]; omega
      have hs : ((c ++ [(⟨2, 1⟩ : Op)] ++ [(⟨16, 0⟩ : Op)] ++ d).map encO).set ((((c.map encO).length : Nat) : Int) + 1).toNat (encO (⟨16, (((c ++ [(⟨2, 1⟩ : Op)] ++ [(⟨16, 0⟩ : Op)] ++ d).map encO).length : Int)⟩ : Op)) = (c ++ (([⟨2, 1⟩, ⟨16, (c.length : Int) + 2 + d.length⟩] : List Op) ++ d)).map encO := by
        rw [hci, hX, List.append_assoc (c ++ [(⟨2, 1⟩ : Op)])]
        rw [set_mid (c ++ [(⟨2, 1⟩ : Op)]) d _ _, List.append_assoc]
        rfl
      repeat' ((conv => whnf); first | exact zf | refine zg ?_ | intro _ | refine And.intro rfl ?_ | refine (.inl ⟨by unfold inR; omega, ?_⟩) | refine za ?_ | refine zl ?_ | fail)
      conv => whnf
      refine ⟨encO (⟨16, 0⟩ : Op), by rw [hci, List.append_assoc (c ++ [(⟨2, 1⟩ : Op)])]; exact get_mid (c ++ [(⟨2, 1⟩ : Op)]) d _, ⟨rfl, rfl, rfl⟩, ?_⟩
      repeat' ((conv => whnf); first | exact zf | refine zg ?_ | intro _ | refine And.intro rfl ?_ | refine za ?_ | refine zl ?_ | fail)
      conv => whnf
      have h2 := hk a' (c ++ (([⟨2, 1⟩, ⟨16, (c.length : Int) + 2 + d.length⟩] : List Op) ++ d)) ⟨_, ⟨d, hd, .inr (.inl rfl)⟩, rfl⟩ ⟨by omega, by omega⟩
      unfold mkH at h2
      rw [← hs] at h2
      exact h2
    · skip
      repeat' ((conv => whnf); first | exact zf | refine zg ?_ | intro _ | refine And.intro rfl ?_ | refine (.inr ?_ : (∃ _, _) ∨ _) | refine (deed88 l _ _ _ hl ⟨by omega, by omega⟩ (by (try simp only [List.length_append, List.length_cons, List.length_nil]); omega) hab (fun a' c' hd ha' => ?_)) | refine za ?_ | refine zl ?_ | fail)
      conv => whnf
      obtain ⟨d, hd, rfl⟩ := hd
      exact hk _ _ ⟨d, ⟨d, hd, .inl rfl⟩, rfl⟩ ⟨by omega, by omega⟩
theorem labels39 : SatP Tryz.prog 39 [] (.d (.sl 2 (lbl8.map rowL))) := by
  refine s39 (keep := false) rfl ?_
  repeat' ((conv => whnf); first | exact zf | refine zg ?_ | intro _ | refine And.intro rfl ?_ | refine za ?_ | refine zl ?_ | fail)
set_option maxHeartbeats 4000000 in
theorem made20 {K : Out → H → Prop} (L : List (List Int)) (hL : ∀ l ∈ L, byts l) (hk : ∀ im, GoodIm im → K (.ret (agI im)) []) : Sat Tryz.prog 20 [.d (.sl 1 (L.map fun l => [D.sl 1 (rowsU l)]))] [] K := by
  generalize hrows : (L.map fun l => [D.sl 1 (rowsU l)]) = rowsL
  refine s20 (keep := false) rfl ?_
  repeat' ((conv => whnf); first | exact zf | refine zg ?_ | intro _ | refine And.intro rfl ?_ | refine za ?_ | refine zl ?_ | fail)
  conv => whnf
  refine loop_use2 [(0, .d (.sl 1 rowsL)), (2, .p 0 0), (3, .p 1 0), (12, .d (.sl 1 (num8.map fun x => [D.int .i64 x]))), (13, .d (.int .i64 8))] (fun i : Nat => i ≤ 8) (fun i => [(14, .d (.int .i64 i))]) g1 (fun i => 8 - i) 0 (Nat.zero_le _) ?_ ?_ ?_ (fun i hi => ?_)
  · exact (by repeat' (first | exact trivial | exact rfl | exact Or.inl rfl | refine And.intro ?_ ?_ | refine Or.inr ?_))
  · exact ⟨wkB_of rfl, wkB_of rfl, trivial⟩
  · exact (by kernel_rfl)
  have hn8 : ∀ i : Nat, i < 8 → ∃ x, num8[i]? = some x ∧ (num8.map fun x => [D.int .i64 x])[i]? = some [D.int .i64 x] := fun i hi => ⟨num8[i]'hi, List.getElem?_eq_getElem hi, by rw [List.getElem?_map, List.getElem?_eq_getElem (show i < num8.length from hi)]; rfl⟩
  rcases i with _ | i
  · skip
    repeat' ((conv => whnf); first | exact zf | refine zg ?_ | intro _ | refine And.intro rfl ?_ | refine za ?_ | refine zl ?_ | fail)
    refine ⟨[.int .i64 0], ⟨by omega, rfl, rfl⟩, ?_⟩
    repeat' ((conv => whnf); first | exact zf | refine zg ?_ | intro _ | refine And.intro rfl ?_ | refine (.inl ⟨by unfold inR; omega, ?_⟩) | refine za ?_ | refine zl ?_ | fail)
    exact ⟨1, by omega, by omega, (by repeat' (first | exact trivial | exact rfl | exact Or.inl rfl | refine And.intro ?_ ?_ | refine Or.inr ?_)), ⟨wkB_of rfl, wkB_of rfl, wkB_of rfl, trivial⟩, rfl⟩
  · have hi : i + 1 ≤ 8 := hi
    have hcl : (((num8.take (i + 1)).map num).map encV).length = i + 1 := by simp only [List.length_map, List.length_take]; exact Nat.min_eq_left hi
    repeat' ((conv => whnf); first | exact zf | refine zg ?_ | intro _ | refine And.intro rfl ?_ | refine za ?_ | refine zl ?_ | fail)
    refine sp_intro (fun hlt => ?_) (fun hge => ?_)
    · have hlt : i + 1 < 8 := by have := of_decide_eq_true hlt; omega
      obtain ⟨x, hx, hrow⟩ := hn8 (i + 1) hlt
      have hs : ((num8.take (i + 2)).map num).map encV = ((num8.take (i + 1)).map num).map encV ++ [encV (num x)] := by
        rw [List.take_add_one, hx]
        simp only [Option.toList, List.map_append, List.map_cons, List.map_nil]
      repeat' ((conv => whnf); first | exact zf | refine zg ?_ | intro _ | refine And.intro rfl ?_ | refine za ?_ | refine zl ?_ | fail)
      refine ⟨[.int .i64 x], ⟨by omega, by rw [show ((i + 1 : Nat) : Int).toNat = i + 1 by omega]; exact hrow, rfl⟩, ?_⟩
      repeat' ((conv => whnf); first | exact zf | refine zg ?_ | intro _ | refine And.intro rfl ?_ | refine (.inl ⟨by unfold inR; omega, ?_⟩) | refine za ?_ | refine zl ?_ | fail)
      exact ⟨i + 2, by omega, by omega, (by repeat' (first | exact trivial | exact rfl | exact Or.inl rfl | refine And.intro ?_ ?_ | refine Or.inr ?_)), ⟨wkB_of rfl, wkB_of rfl, wkB_of (congrArg (B.rows 5) hs.symm), trivial⟩, rfl⟩
    · have hge : i = 7 := by have := of_decide_eq_false hge; omega
      subst hge
      repeat' ((conv => whnf); first | exact zf | refine zg ?_ | intro _ | refine And.intro rfl ?_ | refine za ?_ | refine zl ?_ | fail)
      conv => whnf
      refine loop_use2 [(0, .d (.sl 1 rowsL)), (2, .p 0 0), (3, .p 1 0)] (fun j : Nat => j ≤ 8) (fun j => [(6, .d (.int .i64 j))]) (fun j => [.cells [.nl 5, .nl 3], .cells [.os 2, .nl 3], .rows 5 ((num8.map num ++ (lbl8.take j).map mkV).map encV)]) (fun j => 8 - j) 0 (Nat.zero_le _) ?_ ?_ ?_ (fun j hj => ?_)
      · exact (by repeat' (first | exact trivial | exact rfl | exact Or.inl rfl | refine And.intro ?_ ?_ | refine Or.inr ?_))
      · exact ⟨wkB_of rfl, wkB_of rfl, wkB_of rfl, trivial⟩
      · exact (by kernel_rfl)
      have hcl2 : ((num8.map num ++ (lbl8.take j).map mkV).map encV).length = 8 + j := by
        simp only [List.length_map, List.length_append, List.length_take]
        rw [Nat.min_eq_left (show j ≤ lbl8.length from hj)]
        rfl
      repeat' ((conv => whnf); first | exact zf | refine zg ?_ | intro _ | refine And.intro rfl ?_ | refine za ?_ | refine zl ?_ | fail)
      refine sp_intro (fun hlt => ?_) (fun hge => ?_)
      · have hlt : j < 8 := by have := of_decide_eq_true hlt; omega
        obtain ⟨x, hx⟩ : ∃ x, lbl8[j]? = some x := ⟨lbl8[j]'hlt, List.getElem?_eq_getElem hlt⟩
        have hs : (num8.map num ++ (lbl8.take (j + 1)).map mkV).map encV = (num8.map num ++ (lbl8.take j).map mkV).map encV ++ [encV (mkV x)] := by
          rw [List.take_add_one, hx]
          simp only [Option.toList, List.map_append, List.map_cons, List.map_nil, List.append_assoc]
        repeat' ((conv => whnf); first | exact zf | refine zg ?_ | intro _ | refine And.intro rfl ?_ | refine ⟨_, labels39, ?_⟩ | refine (labels39).use ?_ | refine za ?_ | refine zl ?_ | fail)
        refine ⟨rowL x, ⟨by omega, by simp [hx], rfl⟩, ?_⟩
        repeat' ((conv => whnf); first | exact zf | refine zg ?_ | intro _ | refine And.intro rfl ?_ | refine (.inl ⟨by unfold inR; omega, ?_⟩) | refine za ?_ | refine zl ?_ | fail)
        exact ⟨j + 1, by omega, by omega, (by repeat' (first | exact trivial | exact rfl | exact Or.inl rfl | refine And.intro ?_ ?_ | refine Or.inr ?_)), ⟨wkB_of rfl, wkB_of rfl, wkB_of (congrArg (B.rows 5) hs.symm), trivial⟩, rfl⟩
      · have hge : j = 8 := by have := of_decide_eq_false hge; omega
        subst hge
        repeat' ((conv => whnf); first | exact zf | refine zg ?_ | intro _ | refine And.intro rfl ?_ | refine za ?_ | refine zl ?_ | fail)
        conv => whnf
        refine loop_use2 [(0, .d (.sl 1 rowsL)), (2, .p 0 0), (3, .p 1 0)] (fun p : Nat × List Fn => p.1 ≤ 3 ∧ p.2.length = p.1 ∧ ∀ f ∈ p.2, GoodFn f) (fun p => [(7, .d (.int .i64 p.1))]) (fun p => g3 p.1 p.2) (fun p => 3 - p.1) (0, []) ⟨Nat.zero_le _, rfl, fun _ h => nomatch h⟩ ?_ ?_ ?_ (fun p hp => ?_)
        · exact (by repeat' (first | exact trivial | exact rfl | exact Or.inl rfl | refine And.intro ?_ ?_ | refine Or.inr ?_))
        · exact ⟨wkB_of rfl, wkB_of rfl, wkB_of rfl, trivial⟩
        · exact (by kernel_rfl)
        obtain ⟨i, fs⟩ := p
        obtain ⟨hi3, hfl, hfs⟩ := hp
        have hi3 : i ≤ 3 := hi3
        have hfl : fs.length = i := hfl
        have hfs : ∀ f ∈ fs, GoodFn f := hfs
        have hrl : rowsL.length = L.length := by rw [← hrows, List.length_map]
        have hget : ∀ k, k < L.length → ∃ l, byts l ∧ rowsL[k]? = some [D.sl 1 (rowsU l)] := fun k hk => ⟨L[k], hL _ (List.getElem_mem hk), by rw [← hrows, List.getElem?_map, List.getElem?_eq_getElem hk]; rfl⟩
        rcases i with _ | i
        · skip
          repeat' ((conv => whnf); first | exact zf | refine zg ?_ | intro _ | refine And.intro rfl ?_ | refine za ?_ | refine zl ?_ | fail)
          refine sp_intro (fun hin => ?_) (fun hout => ?_)
          · have hin : 0 < L.length := by have := of_decide_eq_true hin; omega
            obtain ⟨l, hl, hrow⟩ := hget 0 hin
            repeat' ((conv => whnf); first | exact zf | refine zg ?_ | intro _ | refine And.intro rfl ?_ | refine za ?_ | refine zl ?_ | fail)
            refine ⟨[D.sl 1 (rowsU l)], ⟨by omega, hrow, rfl⟩, ?_⟩
            repeat' ((conv => whnf); first | exact zf | refine zg ?_ | intro _ | refine And.intro rfl ?_ | refine (.inl ⟨by unfold inR; omega, ?_⟩) | refine za ?_ | refine zl ?_ | fail)
            conv => whnf
            refine loop_use2 [(0, .d (.sl 1 rowsL)), (2, .p 0 0), (3, .p 1 0), (7, .d (.int .i64 0)), (8, .p 3 0), (9, .d (.int .i64 (1)))] PI (fun q => [(10, .d (.int .i64 q.1))]) (fun q => gI0 (l) q.1 q.2.1 q.2.2) (fun q => 12 - q.1) (0, 0, []) ⟨.nil, by decide, by decide, by decide, by decide⟩ ?_ ?_ ?_ (fun q hq => ?_)
            · exact (by repeat' (first | exact trivial | exact rfl | exact Or.inl rfl | refine And.intro ?_ ?_ | refine Or.inr ?_))
            · exact ⟨wkB_of rfl, wkB_of rfl, wkB_of rfl, wkB_of rfl, trivial⟩
            · exact (by kernel_rfl)
            obtain ⟨k, a, c⟩ := q
            obtain ⟨q1, q2, q3, q4, q5⟩ := hq
            have hul := rowsU_len (l)
            have htd : 0 ≤ ((rowsU (l)).length : Int).tdiv 6 := Int.tdiv_nonneg (by omega) (by decide)
            rcases k with _ | k
            · skip
              repeat' ((conv => whnf); first | exact zf | refine zg ?_ | intro _ | refine And.intro rfl ?_ | refine (.inl ⟨by unfold inR; omega, ?_⟩) | refine za ?_ | refine zl ?_ | fail)
              refine sp_intro (fun hb => ?_) (fun hb => absurd (of_decide_eq_false hb) (by omega))
              repeat' ((conv => whnf); first | exact zf | refine zg ?_ | intro _ | refine And.intro rfl ?_ | refine (.inr ?_ : (∃ _, _) ∨ _) | refine (Sat.own (by decide) 0 2 rfl rfl ?_) | refine (part40 (l) 0 [] _ hl ⟨by omega, by omega⟩ (by decide) ⟨by decide, by decide⟩ (fun a' c' hc' ha' => ?_)) | refine za ?_ | refine zl ?_ | fail)
              repeat' ((conv => whnf); first | exact zf | refine zg ?_ | intro _ | refine And.intro rfl ?_ | refine (.inl ⟨by unfold inR; omega, ?_⟩) | refine za ?_ | refine zl ?_ | fail)
              exact ⟨(1, a', c'), PI.step (k := 0) (a := 0) (c := []) ⟨.nil, by decide, by decide, by decide, by decide⟩ (by decide) hc' ha', (by show (12 - 1 : Nat) < 12 - 0; decide), (by repeat' (first | exact trivial | exact rfl | exact Or.inl rfl | refine And.intro ?_ ?_ | refine Or.inr ?_)), ⟨wkB_of rfl, wkB_of rfl, wkB_of rfl, wkB_of rfl, wkB_of rfl, trivial⟩, rfl⟩
            · have q3 : 0 ≤ a := q3
              have q4 : a ≤ 20 * ((k + 1 : Nat) : Int) := q4
              have q5 : c.length ≤ 12 * (k + 1) := q5
              have q2 : k + 1 ≤ 12 := q2
              have q1 : Parts c (k + 1) := q1
              have hcl2 : (c.map encO).length = c.length := by simp
              repeat' ((conv => whnf); first | exact zf | refine zg ?_ | intro _ | refine And.intro rfl ?_ | refine (.inl ⟨by unfold inR; omega, ?_⟩) | refine (.inr ?_ : (∃ _, _) ∨ _) | refine (part40 (l) a c _ hl ⟨by omega, by omega⟩ (by omega) ⟨by decide, by decide⟩ (fun a' c' hc' ha' => ?_)) | refine (next42' (l) _ _ hl ⟨by omega, by omega⟩ (fun n hn => ?_)) | refine (emit41 (l) _ _ _ _ (by (try simp only [List.length_append, List.length_cons, List.length_nil]); omega) ?_) | refine (fro_use [4] ?_) | refine za ?_ | refine zl ?_ | refine sp_intro (fun hb => ?_) (fun hb => ?_) | fail)
              · have hk12 : k + 2 ≤ 12 := by have := of_decide_eq_true (by assumption : decide (((k + 1 : Nat) : Int) < 12) = true); omega
                exact ⟨(k + 2, a', c'), PI.step ⟨q1, q2, q3, q4, q5⟩ (by omega) hc' ha', (by show 12 - (k + 2) < 12 - (k + 1); omega), (by repeat' (first | exact trivial | exact rfl | exact Or.inl rfl | refine And.intro ?_ ?_ | refine Or.inr ?_)), ⟨wkB_of rfl, wkB_of rfl, wkB_of rfl, wkB_of rfl, wkB_of rfl, trivial⟩, rfl⟩
              all_goals
                exact ⟨(1, [⟨1, 7, c ++ [(⟨2, n.tmod 8⟩ : Op)] ++ [(⟨18, 0⟩ : Op)]⟩]), ⟨(by show (1 : Nat) ≤ 3; decide), rfl, fun f hf => by rw [List.mem_singleton.1 hf]; exact PI.good ⟨q1, q2, q3, q4, q5⟩ ⟨by omega, by omega⟩⟩, (by show (3 - 1 : Nat) < 3 - 0; decide), (by repeat' (first | exact trivial | exact rfl | exact Or.inl rfl | refine And.intro ?_ ?_ | refine Or.inr ?_)), ⟨wkB_of rfl, wkB_of rfl, wkB_of rfl, wkB_of rfl, trivial⟩, rfl⟩
          · skip
            repeat' ((conv => whnf); first | exact zf | refine zg ?_ | intro _ | refine And.intro rfl ?_ | refine (.inl ⟨by unfold inR; omega, ?_⟩) | refine za ?_ | refine zl ?_ | fail)
            conv => whnf
            obtain ⟨l, hl, hl0⟩ : ∃ l : List Int, byts l ∧ rowsU l = [] := ⟨[], (fun _ h => nomatch h), rfl⟩
            refine loop_use2 [(0, .d (.sl 1 rowsL)), (2, .p 0 0), (3, .p 1 0), (7, .d (.int .i64 0)), (8, .p 3 0), (9, .d (.int .i64 (1)))] PI (fun q => [(10, .d (.int .i64 q.1))]) (fun q => gI0 (l) q.1 q.2.1 q.2.2) (fun q => 12 - q.1) (0, 0, []) ⟨.nil, by decide, by decide, by decide, by decide⟩ ?_ ?_ ?_ (fun q hq => ?_)
            · exact (by repeat' (first | exact trivial | exact rfl | exact Or.inl rfl | refine And.intro ?_ ?_ | refine Or.inr ?_))
            · exact ⟨wkB_of rfl, wkB_of rfl, wkB_of rfl, .inr ⟨(by rw [hl0]; exact rfl), wkb_of rfl, wkb_of rfl, trivial⟩, trivial⟩
            · exact (by kernel_rfl)
            obtain ⟨k, a, c⟩ := q
            obtain ⟨q1, q2, q3, q4, q5⟩ := hq
            have hul := rowsU_len (l)
            have htd : 0 ≤ ((rowsU (l)).length : Int).tdiv 6 := Int.tdiv_nonneg (by omega) (by decide)
            rcases k with _ | k
            · skip
              repeat' ((conv => whnf); first | exact zf | refine zg ?_ | intro _ | refine And.intro rfl ?_ | refine (.inl ⟨by unfold inR; omega, ?_⟩) | refine za ?_ | refine zl ?_ | fail)
              refine sp_intro (fun hb => ?_) (fun hb => absurd (of_decide_eq_false hb) (by omega))
              repeat' ((conv => whnf); first | exact zf | refine zg ?_ | intro _ | refine And.intro rfl ?_ | refine (.inr ?_ : (∃ _, _) ∨ _) | refine (Sat.own (by decide) 0 2 rfl rfl ?_) | refine (part40 (l) 0 [] _ hl ⟨by omega, by omega⟩ (by decide) ⟨by decide, by decide⟩ (fun a' c' hc' ha' => ?_)) | refine za ?_ | refine zl ?_ | fail)
              repeat' ((conv => whnf); first | exact zf | refine zg ?_ | intro _ | refine And.intro rfl ?_ | refine (.inl ⟨by unfold inR; omega, ?_⟩) | refine za ?_ | refine zl ?_ | fail)
              exact ⟨(1, a', c'), PI.step (k := 0) (a := 0) (c := []) ⟨.nil, by decide, by decide, by decide, by decide⟩ (by decide) hc' ha', (by show (12 - 1 : Nat) < 12 - 0; decide), (by repeat' (first | exact trivial | exact rfl | exact Or.inl rfl | refine And.intro ?_ ?_ | refine Or.inr ?_)), ⟨wkB_of rfl, wkB_of rfl, wkB_of rfl, wkB_of rfl, wkB_of rfl, trivial⟩, rfl⟩
            · have q3 : 0 ≤ a := q3
              have q4 : a ≤ 20 * ((k + 1 : Nat) : Int) := q4
              have q5 : c.length ≤ 12 * (k + 1) := q5
              have q2 : k + 1 ≤ 12 := q2
              have q1 : Parts c (k + 1) := q1
              have hcl2 : (c.map encO).length = c.length := by simp
              repeat' ((conv => whnf); first | exact zf | refine zg ?_ | intro _ | refine And.intro rfl ?_ | refine (.inl ⟨by unfold inR; omega, ?_⟩) | refine (.inr ?_ : (∃ _, _) ∨ _) | refine (part40 (l) a c _ hl ⟨by omega, by omega⟩ (by omega) ⟨by decide, by decide⟩ (fun a' c' hc' ha' => ?_)) | refine (next42' (l) _ _ hl ⟨by omega, by omega⟩ (fun n hn => ?_)) | refine (emit41 (l) _ _ _ _ (by (try simp only [List.length_append, List.length_cons, List.length_nil]); omega) ?_) | refine (fro_use [4] ?_) | refine za ?_ | refine zl ?_ | refine sp_intro (fun hb => ?_) (fun hb => ?_) | fail)
              · have hk12 : k + 2 ≤ 12 := by have := of_decide_eq_true (by assumption : decide (((k + 1 : Nat) : Int) < 12) = true); omega
                exact ⟨(k + 2, a', c'), PI.step ⟨q1, q2, q3, q4, q5⟩ (by omega) hc' ha', (by show 12 - (k + 2) < 12 - (k + 1); omega), (by repeat' (first | exact trivial | exact rfl | exact Or.inl rfl | refine And.intro ?_ ?_ | refine Or.inr ?_)), ⟨wkB_of rfl, wkB_of rfl, wkB_of rfl, wkB_of rfl, wkB_of rfl, trivial⟩, rfl⟩
              all_goals
                exact ⟨(1, [⟨1, 7, c ++ [(⟨2, n.tmod 8⟩ : Op)] ++ [(⟨18, 0⟩ : Op)]⟩]), ⟨(by show (1 : Nat) ≤ 3; decide), rfl, fun f hf => by rw [List.mem_singleton.1 hf]; exact PI.good ⟨q1, q2, q3, q4, q5⟩ ⟨by omega, by omega⟩⟩, (by show (3 - 1 : Nat) < 3 - 0; decide), (by repeat' (first | exact trivial | exact rfl | exact Or.inl rfl | refine And.intro ?_ ?_ | refine Or.inr ?_)), ⟨wkB_of rfl, wkB_of rfl, wkB_of rfl, wkB_of rfl, trivial⟩, rfl⟩
        · have hfl3 : (fs.map encFn).length = i + 1 := by rw [List.length_map, hfl]
          repeat' ((conv => whnf); first | exact zf | refine zg ?_ | intro _ | refine And.intro rfl ?_ | refine za ?_ | refine zl ?_ | fail)
          refine sp_intro (fun hlt => ?_) (fun hge => ?_)
          · have hlt : i + 1 < 3 := by have := of_decide_eq_true hlt; omega
            have hab : 0 ≤ (((i + 1 : Nat) : Int) + 1).tmod 3 ∧ (((i + 1 : Nat) : Int) + 1).tmod 3 < 3 := by
              rw [Int.tmod_eq_emod_of_nonneg (by omega)]
              omega
            repeat' ((conv => whnf); first | exact zf | refine zg ?_ | intro _ | refine And.intro rfl ?_ | refine za ?_ | refine zl ?_ | fail)
            refine sp_intro (fun hin => ?_) (fun hout => ?_)
            · have hin : i + 1 < L.length := by have := of_decide_eq_true hin; omega
              obtain ⟨l, hl, hrow⟩ := hget (i + 1) hin
              repeat' ((conv => whnf); first | exact zf | refine zg ?_ | intro _ | refine And.intro rfl ?_ | refine za ?_ | refine zl ?_ | fail)
              refine ⟨[D.sl 1 (rowsU l)], ⟨by omega, by rw [show ((i + 1 : Nat) : Int).toNat = i + 1 by omega]; exact hrow, rfl⟩, ?_⟩
              repeat' ((conv => whnf); first | exact zf | refine zg ?_ | intro _ | refine And.intro rfl ?_ | refine (.inl ⟨by unfold inR; omega, ?_⟩) | refine za ?_ | refine zl ?_ | fail)
              conv => whnf
              refine loop_use2 [(0, .d (.sl 1 rowsL)), (2, .p 0 0), (3, .p 1 0), (7, .d (.int .i64 ((i + 1 : Nat) : Int))), (8, .p 6 0), (9, .d (.int .i64 ((((i + 1 : Nat) : Int) + 1).tmod 3)))] PI (fun q => [(10, .d (.int .i64 q.1))]) (fun q => gI6 fs (l) q.1 q.2.1 q.2.2) (fun q => 12 - q.1) (0, 0, []) ⟨.nil, by decide, by decide, by decide, by decide⟩ ?_ ?_ ?_ (fun q hq => ?_)
              · exact (by repeat' (first | exact trivial | exact rfl | exact Or.inl rfl | refine And.intro ?_ ?_ | refine Or.inr ?_))
              · exact ⟨wkB_of rfl, wkB_of rfl, wkB_of rfl, wkB_of rfl, wkB_of rfl, trivial⟩
              · exact (by kernel_rfl)
              obtain ⟨k, a, c⟩ := q
              obtain ⟨q1, q2, q3, q4, q5⟩ := hq
              have hul := rowsU_len (l)
              have htd : 0 ≤ ((rowsU (l)).length : Int).tdiv 6 := Int.tdiv_nonneg (by omega) (by decide)
              rcases k with _ | k
              · skip
                repeat' ((conv => whnf); first | exact zf | refine zg ?_ | intro _ | refine And.intro rfl ?_ | refine (.inl ⟨by unfold inR; omega, ?_⟩) | refine za ?_ | refine zl ?_ | fail)
                refine sp_intro (fun hb => ?_) (fun hb => absurd (of_decide_eq_false hb) (by omega))
                repeat' ((conv => whnf); first | exact zf | refine zg ?_ | intro _ | refine And.intro rfl ?_ | refine (.inr ?_ : (∃ _, _) ∨ _) | refine (Sat.own (by decide) 0 2 rfl rfl ?_) | refine (part40 (l) 0 [] _ hl ⟨by omega, by omega⟩ (by decide) hab (fun a' c' hc' ha' => ?_)) | refine za ?_ | refine zl ?_ | fail)
                repeat' ((conv => whnf); first | exact zf | refine zg ?_ | intro _ | refine And.intro rfl ?_ | refine (.inl ⟨by unfold inR; omega, ?_⟩) | refine za ?_ | refine zl ?_ | fail)
                exact ⟨(1, a', c'), PI.step (k := 0) (a := 0) (c := []) ⟨.nil, by decide, by decide, by decide, by decide⟩ (by decide) hc' ha', (by show (12 - 1 : Nat) < 12 - 0; decide), (by repeat' (first | exact trivial | exact rfl | exact Or.inl rfl | refine And.intro ?_ ?_ | refine Or.inr ?_)), ⟨wkB_of rfl, wkB_of rfl, wkB_of rfl, wkB_of rfl, wkB_of rfl, wkB_of rfl, trivial⟩, rfl⟩
              · have q3 : 0 ≤ a := q3
                have q4 : a ≤ 20 * ((k + 1 : Nat) : Int) := q4
                have q5 : c.length ≤ 12 * (k + 1) := q5
                have q2 : k + 1 ≤ 12 := q2
                have q1 : Parts c (k + 1) := q1
                have hcl2 : (c.map encO).length = c.length := by simp
                repeat' ((conv => whnf); first | exact zf | refine zg ?_ | intro _ | refine And.intro rfl ?_ | refine (.inl ⟨by unfold inR; omega, ?_⟩) | refine (.inr ?_ : (∃ _, _) ∨ _) | refine (part40 (l) a c _ hl ⟨by omega, by omega⟩ (by omega) hab (fun a' c' hc' ha' => ?_)) | refine (next42' (l) _ _ hl ⟨by omega, by omega⟩ (fun n hn => ?_)) | refine (emit41 (l) _ _ _ _ (by (try simp only [List.length_append, List.length_cons, List.length_nil]); omega) ?_) | refine (fro_use [7] ?_) | refine za ?_ | refine zl ?_ | refine sp_intro (fun hb => ?_) (fun hb => ?_) | fail)
                · have hk12 : k + 2 ≤ 12 := by have := of_decide_eq_true (by assumption : decide (((k + 1 : Nat) : Int) < 12) = true); omega
                  exact ⟨(k + 2, a', c'), PI.step ⟨q1, q2, q3, q4, q5⟩ (by omega) hc' ha', (by show 12 - (k + 2) < 12 - (k + 1); omega), (by repeat' (first | exact trivial | exact rfl | exact Or.inl rfl | refine And.intro ?_ ?_ | refine Or.inr ?_)), ⟨wkB_of rfl, wkB_of rfl, wkB_of rfl, wkB_of rfl, wkB_of rfl, wkB_of rfl, trivial⟩, rfl⟩
                all_goals
                  exact ⟨(i + 2, fs ++ [⟨1, 7, c ++ [(⟨2, n.tmod 8⟩ : Op)] ++ [(⟨18, 0⟩ : Op)]⟩]), ⟨(by show i + 2 ≤ 3; omega), (by simp only [List.length_append, List.length_cons, List.length_nil]; omega), fun f hf => (List.mem_append.1 hf).elim (hfs f) fun hf => by rw [List.mem_singleton.1 hf]; exact PI.good ⟨q1, q2, q3, q4, q5⟩ ⟨by omega, by omega⟩⟩, (by show 3 - (i + 2) < 3 - (i + 1); omega), (by repeat' (first | exact trivial | exact rfl | exact Or.inl rfl | refine And.intro ?_ ?_ | refine Or.inr ?_)), ⟨wkB_of rfl, wkB_of rfl, wkB_of rfl, wkB_of (fn_app fs ⟨1, 7, c ++ [(⟨2, n.tmod 8⟩ : Op)] ++ [(⟨18, 0⟩ : Op)]⟩ rfl), trivial⟩, rfl⟩
            · skip
              repeat' ((conv => whnf); first | exact zf | refine zg ?_ | intro _ | refine And.intro rfl ?_ | refine (.inl ⟨by unfold inR; omega, ?_⟩) | refine za ?_ | refine zl ?_ | fail)
              conv => whnf
              obtain ⟨l, hl, hl0⟩ : ∃ l : List Int, byts l ∧ rowsU l = [] := ⟨[], (fun _ h => nomatch h), rfl⟩
              refine loop_use2 [(0, .d (.sl 1 rowsL)), (2, .p 0 0), (3, .p 1 0), (7, .d (.int .i64 ((i + 1 : Nat) : Int))), (8, .p 6 0), (9, .d (.int .i64 ((((i + 1 : Nat) : Int) + 1).tmod 3)))] PI (fun q => [(10, .d (.int .i64 q.1))]) (fun q => gI6 fs (l) q.1 q.2.1 q.2.2) (fun q => 12 - q.1) (0, 0, []) ⟨.nil, by decide, by decide, by decide, by decide⟩ ?_ ?_ ?_ (fun q hq => ?_)
              · exact (by repeat' (first | exact trivial | exact rfl | exact Or.inl rfl | refine And.intro ?_ ?_ | refine Or.inr ?_))
              · exact ⟨wkB_of rfl, wkB_of rfl, wkB_of rfl, wkB_of rfl, .inr ⟨(by rw [hl0]; exact rfl), wkb_of rfl, wkb_of rfl, trivial⟩, trivial⟩
              · exact (by kernel_rfl)
              obtain ⟨k, a, c⟩ := q
              obtain ⟨q1, q2, q3, q4, q5⟩ := hq
              have hul := rowsU_len (l)
              have htd : 0 ≤ ((rowsU (l)).length : Int).tdiv 6 := Int.tdiv_nonneg (by omega) (by decide)
              rcases k with _ | k
              · skip
                repeat' ((conv => whnf); first | exact zf | refine zg ?_ | intro _ | refine And.intro rfl ?_ | refine (.inl ⟨by unfold inR; omega, ?_⟩) | refine za ?_ | refine zl ?_ | fail)
                refine sp_intro (fun hb => ?_) (fun hb => absurd (of_decide_eq_false hb) (by omega))
                repeat' ((conv => whnf); first | exact zf | refine zg ?_ | intro _ | refine And.intro rfl ?_ | refine (.inr ?_ : (∃ _, _) ∨ _) | refine (Sat.own (by decide) 0 2 rfl rfl ?_) | refine (part40 (l) 0 [] _ hl ⟨by omega, by omega⟩ (by decide) hab (fun a' c' hc' ha' => ?_)) | refine za ?_ | refine zl ?_ | fail)
                repeat' ((conv => whnf); first | exact zf | refine zg ?_ | intro _ | refine And.intro rfl ?_ | refine (.inl ⟨by unfold inR; omega, ?_⟩) | refine za ?_ | refine zl ?_ | fail)
                exact ⟨(1, a', c'), PI.step (k := 0) (a := 0) (c := []) ⟨.nil, by decide, by decide, by decide, by decide⟩ (by decide) hc' ha', (by show (12 - 1 : Nat) < 12 - 0; decide), (by repeat' (first | exact trivial | exact rfl | exact Or.inl rfl | refine And.intro ?_ ?_ | refine Or.inr ?_)), ⟨wkB_of rfl, wkB_of rfl, wkB_of rfl, wkB_of rfl, wkB_of rfl, wkB_of rfl, trivial⟩, rfl⟩
              · have q3 : 0 ≤ a := q3
                have q4 : a ≤ 20 * ((k + 1 : Nat) : Int) := q4
                have q5 : c.length ≤ 12 * (k + 1) := q5
                have q2 : k + 1 ≤ 12 := q2
                have q1 : Parts c (k + 1) := q1
                have hcl2 : (c.map encO).length = c.length := by simp
                repeat' ((conv => whnf); first | exact zf | refine zg ?_ | intro _ | refine And.intro rfl ?_ | refine (.inl ⟨by unfold inR; omega, ?_⟩) | refine (.inr ?_ : (∃ _, _) ∨ _) | refine (part40 (l) a c _ hl ⟨by omega, by omega⟩ (by omega) hab (fun a' c' hc' ha' => ?_)) | refine (next42' (l) _ _ hl ⟨by omega, by omega⟩ (fun n hn => ?_)) | refine (emit41 (l) _ _ _ _ (by (try simp only [List.length_append, List.length_cons, List.length_nil]); omega) ?_) | refine (fro_use [7] ?_) | refine za ?_ | refine zl ?_ | refine sp_intro (fun hb => ?_) (fun hb => ?_) | fail)
                · have hk12 : k + 2 ≤ 12 := by have := of_decide_eq_true (by assumption : decide (((k + 1 : Nat) : Int) < 12) = true); omega
                  exact ⟨(k + 2, a', c'), PI.step ⟨q1, q2, q3, q4, q5⟩ (by omega) hc' ha', (by show 12 - (k + 2) < 12 - (k + 1); omega), (by repeat' (first | exact trivial | exact rfl | exact Or.inl rfl | refine And.intro ?_ ?_ | refine Or.inr ?_)), ⟨wkB_of rfl, wkB_of rfl, wkB_of rfl, wkB_of rfl, wkB_of rfl, wkB_of rfl, trivial⟩, rfl⟩
                all_goals
                  exact ⟨(i + 2, fs ++ [⟨1, 7, c ++ [(⟨2, n.tmod 8⟩ : Op)] ++ [(⟨18, 0⟩ : Op)]⟩]), ⟨(by show i + 2 ≤ 3; omega), (by simp only [List.length_append, List.length_cons, List.length_nil]; omega), fun f hf => (List.mem_append.1 hf).elim (hfs f) fun hf => by rw [List.mem_singleton.1 hf]; exact PI.good ⟨q1, q2, q3, q4, q5⟩ ⟨by omega, by omega⟩⟩, (by show 3 - (i + 2) < 3 - (i + 1); omega), (by repeat' (first | exact trivial | exact rfl | exact Or.inl rfl | refine And.intro ?_ ?_ | refine Or.inr ?_)), ⟨wkB_of rfl, wkB_of rfl, wkB_of rfl, wkB_of (fn_app fs ⟨1, 7, c ++ [(⟨2, n.tmod 8⟩ : Op)] ++ [(⟨18, 0⟩ : Op)]⟩ rfl), trivial⟩, rfl⟩
          · have hge : i = 2 := by have := of_decide_eq_false hge; omega
            subst hge
            repeat' ((conv => whnf); first | exact zf | refine zg ?_ | intro _ | refine And.intro rfl ?_ | refine za ?_ | refine zl ?_ | fail)
            exact hk ⟨cs16, fs⟩ ⟨rfl, hfl, hfs⟩
end Go.Proofs.YtoibcfioicdlhaaGreatDoor
