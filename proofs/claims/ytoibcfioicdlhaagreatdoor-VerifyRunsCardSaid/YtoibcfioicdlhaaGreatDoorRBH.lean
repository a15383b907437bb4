/- Programs that are made. Conditions: the bytes are bytes. -/
import Derived.Test.YtoibcfioicdlhaaGreatDoorRBG
namespace Go.Proofs.YtoibcfioicdlhaaGreatDoor
open Go.Vx
set_option maxRecDepth 100000

structure Lbl where
  s : List UInt8
  i : List UInt8
def lbl8 : List Lbl := [⟨[], []⟩, ⟨[1], []⟩, ⟨[2], []⟩, ⟨[1, 2], []⟩, ⟨[3], []⟩, ⟨[], [1]⟩, ⟨[1], [1]⟩, ⟨[0], []⟩]
def rowL (l : Lbl) : List D := [.str l.s, .str l.i]
def mkV (l : Lbl) : Va := ⟨2, 0, [], l.s, l.i⟩
def num8 : List Int := [0, 1, 2, 3, 4, 5, 9, 14]
def cs16 : List Va := num8.map num ++ lbl8.map mkV
theorem labels31 : SatP Tryz.prog 31 [] (.d (.sl 2 (lbl8.map rowL))) := by
  refine s31 (keep := false) rfl ?_
  repeat' ((conv => whnf); first | ((with_reducible refine And.intro (?_ : @Eq Out _ _) (?_ : @Eq H _ _)) <;> exact rfl) | ((with_reducible refine And.intro (?_ : @Eq Out _ _) (?_ : @Eq H _ _)); rotate_left; exact rfl) | intro _ | refine And.intro rfl ?_ | refine apn_own ?_ | refine bsn_data ?_ | refine fro_nil ?_ | refine cfo_old ?_ | ((first | refine .inl (And.intro ?_ ?_) | refine And.intro ?_ ?_); focus ((repeat' apply And.intro) <;> first | rfl | omega | (unfold inR; omega) | (simp; done) | (unfold inR; simp at *; omega) | (simp at *; omega) | (intros; contradiction))) | fail)
/-- Parts, one behind another. -/
inductive Parts : List Op → Nat → Prop
  | nil : Parts [] 0
  | snoc {c p : List Op} {k : Nat} (h : Parts c k) (hp : Part c.length p) : Parts (c ++ p) (k + 1)
def GoodCode (c : List Op) : Prop := ∃ (p : List Op) (k : Nat) (n : Int), Parts p k ∧ 1 ≤ k ∧ k ≤ 12 ∧ 0 ≤ n ∧ n < 8 ∧ c = p ++ [⟨2, n⟩, ⟨18, 0⟩]
def GoodFn (f : Fn) : Prop := f.args = 1 ∧ f.vars = 7 ∧ GoodCode f.code
def GoodIm (im : Im) : Prop := im.cs = cs16 ∧ im.fs.length = 3 ∧ ∀ f ∈ im.fs, GoodFn f
def g1 (i : Nat) : H :=
  match i with
  | 0 => [.cells [.nl 5, .nl 3], .cells [.nl 5, .nl 3]]
  | i + 1 => [.cells [.nl 5, .nl 3], .cells [.os 2, .nl 3], .rows 5 (((num8.take (i + 1)).map num).map encV)]
theorem Part.len {b : Int} {p : List Op} (h : Part b p) : p.length ≤ 12 := by
  obtain ⟨d, hd, h⟩ := h
  have := hd.len
  rcases h with rfl | rfl | ⟨_, rfl⟩ | ⟨_, rfl⟩ <;> simp <;> omega
def cB : B := .rows 5 (cs16.map encV)
def g3 (i : Nat) (fs : List Fn) : H :=
  match i with
  | 0 => [.cells [.nl 5, .nl 3], .cells [.os 2, .nl 3], cB]
  | _ + 1 => [.cells [.nl 5, .nl 3], .cells [.os 2, .os 5], cB, .no, .no, .rows 3 (fs.map encFn)]
theorem fn_app (fs : List Fn) (f : Fn) {r : List (List D)} (h : r = fs.map encFn ++ [encFn f]) : B.rows 3 r = B.rows 3 ((fs ++ [f]).map encFn) := by
  rw [h, List.map_append]
  rfl
/-- Ahead of each part. -/
def gI0 (l : List Int) (k : Nat) (a : Int) (c : List Op) : H :=
  match k with
  | 0 => [.cells [.nl 5, .nl 3], .cells [.os 2, .nl 3], cB, .cells [.d (.sl 1 (rowsU l)), .d (.int .i64 0), .nl 2]]
  | _ + 1 => [.cells [.nl 5, .nl 3], .cells [.os 2, .nl 3], cB, .cells [.d (.sl 1 (rowsU l)), .d (.int .i64 a), .os 4], .rows 2 (c.map encO)]
def gI6 (fs : List Fn) (l : List Int) (k : Nat) (a : Int) (c : List Op) : H :=
  match k with
  | 0 => [.cells [.nl 5, .nl 3], .cells [.os 2, .os 5], cB, .no, .no, .rows 3 (fs.map encFn), .cells [.d (.sl 1 (rowsU l)), .d (.int .i64 0), .nl 2]]
  | _ + 1 => [.cells [.nl 5, .nl 3], .cells [.os 2, .os 5], cB, .no, .no, .rows 3 (fs.map encFn), .cells [.d (.sl 1 (rowsU l)), .d (.int .i64 a), .os 7], .rows 2 (c.map encO)]
def PI (q : Nat × Int × List Op) : Prop := Parts q.2.2 q.1 ∧ q.1 ≤ 12 ∧ 0 ≤ q.2.1 ∧ q.2.1 ≤ 20 * q.1 ∧ q.2.2.length ≤ 12 * q.1
theorem PI.step {k : Nat} {a a' : Int} {c c' : List Op} (h : PI (k, a, c)) (hk : k < 12) (hc : ∃ p, Part c.length p ∧ c' = c ++ p) (ha : a ≤ a' ∧ a' ≤ a + 20) : PI (k + 1, a', c') := by
  obtain ⟨h1, h2, h3, h4, h5⟩ := h
  obtain ⟨p, hp, rfl⟩ := hc
  have hpl := hp.len
  simp only at h1 h2 h3 h4 h5
  exact ⟨.snoc h1 hp, hk, by simp only; omega, by simp only; omega, by simp only [List.length_append]; omega⟩
theorem PI.good {k : Nat} {a : Int} {c : List Op} (h : PI (k + 1, a, c)) {n : Int} (hn : 0 ≤ n ∧ n < 8) : GoodFn ⟨1, 7, c ++ [⟨2, n⟩] ++ [⟨18, 0⟩]⟩ :=
  ⟨rfl, rfl, c, k + 1, n, h.1, Nat.le_add_left 1 k, h.2.1, hn.1, hn.2, by rw [List.append_assoc]; rfl⟩
set_option maxHeartbeats 4000000 in
theorem made16 {K : Out → H → Prop} (L : List (List Int)) (hL : ∀ l ∈ L, byts l) (hk : ∀ im, GoodIm im → K (.ret (agI im)) []) : Sat Tryz.prog 16 [.d (.sl 1 (L.map fun l => [D.sl 1 (rowsU l)]))] [] K := by
  generalize hrows : (L.map fun l => [D.sl 1 (rowsU l)]) = rowsL
  refine s16 (keep := false) rfl ?_
  repeat' ((conv => whnf); first | ((with_reducible refine And.intro (?_ : @Eq Out _ _) (?_ : @Eq H _ _)) <;> exact rfl) | ((with_reducible refine And.intro (?_ : @Eq Out _ _) (?_ : @Eq H _ _)); rotate_left; exact rfl) | intro _ | refine And.intro rfl ?_ | refine apn_own ?_ | refine bsn_data ?_ | refine fro_nil ?_ | refine cfo_old ?_ | ((first | refine .inl (And.intro ?_ ?_) | refine And.intro ?_ ?_); focus ((repeat' apply And.intro) <;> first | rfl | omega | (unfold inR; omega) | (simp; done) | (unfold inR; simp at *; omega) | (simp at *; omega) | (intros; contradiction))) | fail)
  conv => whnf
  refine loop_use2 [(0, .d (.sl 1 rowsL)), (2, .p 0 0), (3, .p 1 0), (12, .d (.sl 1 (num8.map fun x => [D.int .i64 x]))), (13, .d (.int .i64 8))] (fun i : Nat => i ≤ 8) (fun i => [(14, .d (.int .i64 i))]) g1 (fun i => 8 - i) 0 (Nat.zero_le _) ?_ ?_ ?_ (fun i hi => ?_)
  · exact (by repeat' (first | exact trivial | exact rfl | exact Or.inl rfl | refine And.intro ?_ ?_ | refine Or.inr ?_))
  · exact ⟨wkB_of rfl, wkB_of rfl, trivial⟩
  · exact (by kernel_rfl)
  have hn8 : ∀ i : Nat, i < 8 → ∃ x, num8[i]? = some x ∧ (num8.map fun x => [D.int .i64 x])[i]? = some [D.int .i64 x] := fun i hi => ⟨num8[i]'hi, List.getElem?_eq_getElem hi, by rw [List.getElem?_map, List.getElem?_eq_getElem (show i < num8.length from hi)]; rfl⟩
  rcases i with _ | i
  · skip
    repeat' ((conv => whnf); first | ((with_reducible refine And.intro (?_ : @Eq Out _ _) (?_ : @Eq H _ _)) <;> exact rfl) | ((with_reducible refine And.intro (?_ : @Eq Out _ _) (?_ : @Eq H _ _)); rotate_left; exact rfl) | intro _ | refine And.intro rfl ?_ | refine apn_own ?_ | refine bsn_data ?_ | refine fro_nil ?_ | refine cfo_old ?_ | ((first | refine .inl (And.intro ?_ ?_) | refine And.intro ?_ ?_); focus ((repeat' apply And.intro) <;> first | rfl | omega | (unfold inR; omega) | (simp; done) | (unfold inR; simp at *; omega) | (simp at *; omega) | (intros; contradiction))) | fail)
    refine ⟨[.int .i64 0], ⟨by omega, rfl, rfl⟩, ?_⟩
    repeat' ((conv => whnf); first | ((with_reducible refine And.intro (?_ : @Eq Out _ _) (?_ : @Eq H _ _)) <;> exact rfl) | ((with_reducible refine And.intro (?_ : @Eq Out _ _) (?_ : @Eq H _ _)); rotate_left; exact rfl) | intro _ | refine And.intro rfl ?_ | refine (.inl ⟨by unfold inR; omega, ?_⟩) | refine apn_own ?_ | refine bsn_data ?_ | refine fro_nil ?_ | refine cfo_old ?_ | ((first | refine .inl (And.intro ?_ ?_) | refine And.intro ?_ ?_); focus ((repeat' apply And.intro) <;> first | rfl | omega | (unfold inR; omega) | (simp; done) | (unfold inR; simp at *; omega) | (simp at *; omega) | (intros; contradiction))) | fail)
    exact ⟨1, by omega, by omega, (by repeat' (first | exact trivial | exact rfl | exact Or.inl rfl | refine And.intro ?_ ?_ | refine Or.inr ?_)), ⟨wkB_of rfl, wkB_of rfl, wkB_of rfl, trivial⟩, rfl⟩
  · have hi : i + 1 ≤ 8 := hi
    have hcl : (((num8.take (i + 1)).map num).map encV).length = i + 1 := by simp only [List.length_map, List.length_take]; exact Nat.min_eq_left hi
    repeat' ((conv => whnf); first | ((with_reducible refine And.intro (?_ : @Eq Out _ _) (?_ : @Eq H _ _)) <;> exact rfl) | ((with_reducible refine And.intro (?_ : @Eq Out _ _) (?_ : @Eq H _ _)); rotate_left; exact rfl) | intro _ | refine And.intro rfl ?_ | refine apn_own ?_ | refine bsn_data ?_ | refine fro_nil ?_ | refine cfo_old ?_ | ((first | refine .inl (And.intro ?_ ?_) | refine And.intro ?_ ?_); focus ((repeat' apply And.intro) <;> first | rfl | omega | (unfold inR; omega) | (simp; done) | (unfold inR; simp at *; omega) | (simp at *; omega) | (intros; contradiction))) | fail)
    refine sp_intro (fun hlt => ?_) (fun hge => ?_)
    · have hlt : i + 1 < 8 := by have := of_decide_eq_true hlt; omega
      obtain ⟨x, hx, hrow⟩ := hn8 (i + 1) hlt
      have hs : ((num8.take (i + 2)).map num).map encV = ((num8.take (i + 1)).map num).map encV ++ [encV (num x)] := by
        rw [List.take_add_one, hx]
        simp only [Option.toList, List.map_append, List.map_cons, List.map_nil]
      repeat' ((conv => whnf); first | ((with_reducible refine And.intro (?_ : @Eq Out _ _) (?_ : @Eq H _ _)) <;> exact rfl) | ((with_reducible refine And.intro (?_ : @Eq Out _ _) (?_ : @Eq H _ _)); rotate_left; exact rfl) | intro _ | refine And.intro rfl ?_ | refine apn_own ?_ | refine bsn_data ?_ | refine fro_nil ?_ | refine cfo_old ?_ | ((first | refine .inl (And.intro ?_ ?_) | refine And.intro ?_ ?_); focus ((repeat' apply And.intro) <;> first | rfl | omega | (unfold inR; omega) | (simp; done) | (unfold inR; simp at *; omega) | (simp at *; omega) | (intros; contradiction))) | fail)
      refine ⟨[.int .i64 x], ⟨by omega, by rw [show ((i + 1 : Nat) : Int).toNat = i + 1 by omega]; exact hrow, rfl⟩, ?_⟩
      repeat' ((conv => whnf); first | ((with_reducible refine And.intro (?_ : @Eq Out _ _) (?_ : @Eq H _ _)) <;> exact rfl) | ((with_reducible refine And.intro (?_ : @Eq Out _ _) (?_ : @Eq H _ _)); rotate_left; exact rfl) | intro _ | refine And.intro rfl ?_ | refine (.inl ⟨by unfold inR; omega, ?_⟩) | refine apn_own ?_ | refine bsn_data ?_ | refine fro_nil ?_ | refine cfo_old ?_ | ((first | refine .inl (And.intro ?_ ?_) | refine And.intro ?_ ?_); focus ((repeat' apply And.intro) <;> first | rfl | omega | (unfold inR; omega) | (simp; done) | (unfold inR; simp at *; omega) | (simp at *; omega) | (intros; contradiction))) | fail)
      exact ⟨i + 2, by omega, by omega, (by repeat' (first | exact trivial | exact rfl | exact Or.inl rfl | refine And.intro ?_ ?_ | refine Or.inr ?_)), ⟨wkB_of rfl, wkB_of rfl, wkB_of (congrArg (B.rows 5) hs.symm), trivial⟩, rfl⟩
    · have hge : i = 7 := by have := of_decide_eq_false hge; omega
      subst hge
      repeat' ((conv => whnf); first | ((with_reducible refine And.intro (?_ : @Eq Out _ _) (?_ : @Eq H _ _)) <;> exact rfl) | ((with_reducible refine And.intro (?_ : @Eq Out _ _) (?_ : @Eq H _ _)); rotate_left; exact rfl) | intro _ | refine And.intro rfl ?_ | refine apn_own ?_ | refine bsn_data ?_ | refine fro_nil ?_ | refine cfo_old ?_ | ((first | refine .inl (And.intro ?_ ?_) | refine And.intro ?_ ?_); focus ((repeat' apply And.intro) <;> first | rfl | omega | (unfold inR; omega) | (simp; done) | (unfold inR; simp at *; omega) | (simp at *; omega) | (intros; contradiction))) | fail)
      conv => whnf
      refine loop_use2 [(0, .d (.sl 1 rowsL)), (2, .p 0 0), (3, .p 1 0)] (fun j : Nat => j ≤ 8) (fun j => [(6, .d (.int .i64 j))]) (fun j => [.cells [.nl 5, .nl 3], .cells [.os 2, .nl 3], .rows 5 ((num8.map num ++ (lbl8.take j).map mkV).map encV)]) (fun j => 8 - j) 0 (Nat.zero_le _) ?_ ?_ ?_ (fun j hj => ?_)
      · exact (by repeat' (first | exact trivial | exact rfl | exact Or.inl rfl | refine And.intro ?_ ?_ | refine Or.inr ?_))
      · exact ⟨wkB_of rfl, wkB_of rfl, wkB_of rfl, trivial⟩
      · exact (by kernel_rfl)
      have hcl2 : ((num8.map num ++ (lbl8.take j).map mkV).map encV).length = 8 + j := by
        simp only [List.length_map, List.length_append, List.length_take]
        rw [Nat.min_eq_left (show j ≤ lbl8.length from hj)]
        rfl
      repeat' ((conv => whnf); first | ((with_reducible refine And.intro (?_ : @Eq Out _ _) (?_ : @Eq H _ _)) <;> exact rfl) | ((with_reducible refine And.intro (?_ : @Eq Out _ _) (?_ : @Eq H _ _)); rotate_left; exact rfl) | intro _ | refine And.intro rfl ?_ | refine apn_own ?_ | refine bsn_data ?_ | refine fro_nil ?_ | refine cfo_old ?_ | ((first | refine .inl (And.intro ?_ ?_) | refine And.intro ?_ ?_); focus ((repeat' apply And.intro) <;> first | rfl | omega | (unfold inR; omega) | (simp; done) | (unfold inR; simp at *; omega) | (simp at *; omega) | (intros; contradiction))) | fail)
      refine sp_intro (fun hlt => ?_) (fun hge => ?_)
      · have hlt : j < 8 := by have := of_decide_eq_true hlt; omega
        obtain ⟨x, hx⟩ : ∃ x, lbl8[j]? = some x := ⟨lbl8[j]'hlt, List.getElem?_eq_getElem hlt⟩
        have hs : (num8.map num ++ (lbl8.take (j + 1)).map mkV).map encV = (num8.map num ++ (lbl8.take j).map mkV).map encV ++ [encV (mkV x)] := by
          rw [List.take_add_one, hx]
          simp only [Option.toList, List.map_append, List.map_cons, List.map_nil, List.append_assoc]
        repeat' ((conv => whnf); first | ((with_reducible refine And.intro (?_ : @Eq Out _ _) (?_ : @Eq H _ _)) <;> exact rfl) | ((with_reducible refine And.intro (?_ : @Eq Out _ _) (?_ : @Eq H _ _)); rotate_left; exact rfl) | intro _ | refine And.intro rfl ?_ | refine ⟨_, labels31, ?_⟩ | refine (labels31).use ?_ | refine apn_own ?_ | refine bsn_data ?_ | refine fro_nil ?_ | refine cfo_old ?_ | ((first | refine .inl (And.intro ?_ ?_) | refine And.intro ?_ ?_); focus ((repeat' apply And.intro) <;> first | rfl | omega | (unfold inR; omega) | (simp; done) | (unfold inR; simp at *; omega) | (simp at *; omega) | (intros; contradiction))) | fail)
        refine ⟨rowL x, ⟨by omega, by simp [hx], rfl⟩, ?_⟩
        repeat' ((conv => whnf); first | ((with_reducible refine And.intro (?_ : @Eq Out _ _) (?_ : @Eq H _ _)) <;> exact rfl) | ((with_reducible refine And.intro (?_ : @Eq Out _ _) (?_ : @Eq H _ _)); rotate_left; exact rfl) | intro _ | refine And.intro rfl ?_ | refine (.inl ⟨by unfold inR; omega, ?_⟩) | refine apn_own ?_ | refine bsn_data ?_ | refine fro_nil ?_ | refine cfo_old ?_ | ((first | refine .inl (And.intro ?_ ?_) | refine And.intro ?_ ?_); focus ((repeat' apply And.intro) <;> first | rfl | omega | (unfold inR; omega) | (simp; done) | (unfold inR; simp at *; omega) | (simp at *; omega) | (intros; contradiction))) | fail)
        exact ⟨j + 1, by omega, by omega, (by repeat' (first | exact trivial | exact rfl | exact Or.inl rfl | refine And.intro ?_ ?_ | refine Or.inr ?_)), ⟨wkB_of rfl, wkB_of rfl, wkB_of (congrArg (B.rows 5) hs.symm), trivial⟩, rfl⟩
      · have hge : j = 8 := by have := of_decide_eq_false hge; omega
        subst hge
        repeat' ((conv => whnf); first | ((with_reducible refine And.intro (?_ : @Eq Out _ _) (?_ : @Eq H _ _)) <;> exact rfl) | ((with_reducible refine And.intro (?_ : @Eq Out _ _) (?_ : @Eq H _ _)); rotate_left; exact rfl) | intro _ | refine And.intro rfl ?_ | refine apn_own ?_ | refine bsn_data ?_ | refine fro_nil ?_ | refine cfo_old ?_ | ((first | refine .inl (And.intro ?_ ?_) | refine And.intro ?_ ?_); focus ((repeat' apply And.intro) <;> first | rfl | omega | (unfold inR; omega) | (simp; done) | (unfold inR; simp at *; omega) | (simp at *; omega) | (intros; contradiction))) | fail)
        conv => whnf
        refine loop_use2 [(0, .d (.sl 1 rowsL)), (2, .p 0 0), (3, .p 1 0)] (fun p : Nat × List Fn => p.1 ≤ 3 ∧ p.2.length = p.1 ∧ ∀ f ∈ p.2, GoodFn f) (fun p => [(7, .d (.int .i64 p.1))]) (fun p => g3 p.1 p.2) (fun p => 3 - p.1) (0, []) ⟨Nat.zero_le _, rfl, fun _ h => nomatch h⟩ ?_ ?_ ?_ (fun p hp => ?_)
        · exact (by repeat' (first | exact trivial | exact rfl | exact Or.inl rfl | refine And.intro ?_ ?_ | refine Or.inr ?_))
        · exact ⟨wkB_of rfl, wkB_of rfl, wkB_of rfl, trivial⟩
        · exact (by kernel_rfl)
        obtain ⟨i, fs⟩ := p
        obtain ⟨hi3, hfl, hfs⟩ := hp
        have hi3 : i ≤ 3 := hi3
        have hfl : fs.length = i := hfl
        have hfs : ∀ f ∈ fs, GoodFn f := hfs
        have hrl : rowsL.length = L.length := by rw [← hrows, List.length_map]
        have hget : ∀ k, k < L.length → ∃ l, byts l ∧ rowsL[k]? = some [D.sl 1 (rowsU l)] := fun k hk => ⟨L[k], hL _ (List.getElem_mem hk), by rw [← hrows, List.getElem?_map, List.getElem?_eq_getElem hk]; rfl⟩
        rcases i with _ | i
        · skip
          repeat' ((conv => whnf); first | ((with_reducible refine And.intro (?_ : @Eq Out _ _) (?_ : @Eq H _ _)) <;> exact rfl) | ((with_reducible refine And.intro (?_ : @Eq Out _ _) (?_ : @Eq H _ _)); rotate_left; exact rfl) | intro _ | refine And.intro rfl ?_ | refine apn_own ?_ | refine bsn_data ?_ | refine fro_nil ?_ | refine cfo_old ?_ | ((first | refine .inl (And.intro ?_ ?_) | refine And.intro ?_ ?_); focus ((repeat' apply And.intro) <;> first | rfl | omega | (unfold inR; omega) | (simp; done) | (unfold inR; simp at *; omega) | (simp at *; omega) | (intros; contradiction))) | fail)
          refine sp_intro (fun hin => ?_) (fun hout => ?_)
          · have hin : 0 < L.length := by have := of_decide_eq_true hin; omega
            obtain ⟨l, hl, hrow⟩ := hget 0 hin
            repeat' ((conv => whnf); first | ((with_reducible refine And.intro (?_ : @Eq Out _ _) (?_ : @Eq H _ _)) <;> exact rfl) | ((with_reducible refine And.intro (?_ : @Eq Out _ _) (?_ : @Eq H _ _)); rotate_left; exact rfl) | intro _ | refine And.intro rfl ?_ | refine apn_own ?_ | refine bsn_data ?_ | refine fro_nil ?_ | refine cfo_old ?_ | ((first | refine .inl (And.intro ?_ ?_) | refine And.intro ?_ ?_); focus ((repeat' apply And.intro) <;> first | rfl | omega | (unfold inR; omega) | (simp; done) | (unfold inR; simp at *; omega) | (simp at *; omega) | (intros; contradiction))) | fail)
            refine ⟨[D.sl 1 (rowsU l)], ⟨by omega, hrow, rfl⟩, ?_⟩
            repeat' ((conv => whnf); first | ((with_reducible refine And.intro (?_ : @Eq Out _ _) (?_ : @Eq H _ _)) <;> exact rfl) | ((with_reducible refine And.intro (?_ : @Eq Out _ _) (?_ : @Eq H _ _)); rotate_left; exact rfl) | intro _ | refine And.intro rfl ?_ | refine (.inl ⟨by unfold inR; omega, ?_⟩) | refine apn_own ?_ | refine bsn_data ?_ | refine fro_nil ?_ | refine cfo_old ?_ | ((first | refine .inl (And.intro ?_ ?_) | refine And.intro ?_ ?_); focus ((repeat' apply And.intro) <;> first | rfl | omega | (unfold inR; omega) | (simp; done) | (unfold inR; simp at *; omega) | (simp at *; omega) | (intros; contradiction))) | fail)
            conv => whnf
            refine loop_use2 [(0, .d (.sl 1 rowsL)), (2, .p 0 0), (3, .p 1 0), (7, .d (.int .i64 0)), (8, .p 3 0), (9, .d (.int .i64 (1)))] PI (fun q => [(10, .d (.int .i64 q.1))]) (fun q => gI0 (l) q.1 q.2.1 q.2.2) (fun q => 12 - q.1) (0, 0, []) ⟨.nil, by decide, by decide, by decide, by decide⟩ ?_ ?_ ?_ (fun q hq => ?_)
            · exact (by repeat' (first | exact trivial | exact rfl | exact Or.inl rfl | refine And.intro ?_ ?_ | refine Or.inr ?_))
            · exact ⟨wkB_of rfl, wkB_of rfl, wkB_of rfl, wkB_of rfl, trivial⟩
            · exact (by kernel_rfl)
            obtain ⟨k, a, c⟩ := q
            obtain ⟨q1, q2, q3, q4, q5⟩ := hq
            have hul := rowsU_len (l)
            have htd : 0 ≤ ((rowsU (l)).length : Int).tdiv 6 := Int.tdiv_nonneg (by omega) (by decide)
            rcases k with _ | k
            · skip
              repeat' ((conv => whnf); first | ((with_reducible refine And.intro (?_ : @Eq Out _ _) (?_ : @Eq H _ _)) <;> exact rfl) | ((with_reducible refine And.intro (?_ : @Eq Out _ _) (?_ : @Eq H _ _)); rotate_left; exact rfl) | intro _ | refine And.intro rfl ?_ | refine (.inl ⟨by unfold inR; omega, ?_⟩) | refine apn_own ?_ | refine bsn_data ?_ | refine fro_nil ?_ | refine cfo_old ?_ | ((first | refine .inl (And.intro ?_ ?_) | refine And.intro ?_ ?_); focus ((repeat' apply And.intro) <;> first | rfl | omega | (unfold inR; omega) | (simp; done) | (unfold inR; simp at *; omega) | (simp at *; omega) | (intros; contradiction))) | fail)
              refine sp_intro (fun hb => ?_) (fun hb => absurd (of_decide_eq_false hb) (by omega))
              repeat' ((conv => whnf); first | ((with_reducible refine And.intro (?_ : @Eq Out _ _) (?_ : @Eq H _ _)) <;> exact rfl) | ((with_reducible refine And.intro (?_ : @Eq Out _ _) (?_ : @Eq H _ _)); rotate_left; exact rfl) | intro _ | refine And.intro rfl ?_ | refine (.inr ?_ : (∃ _, _) ∨ _) | refine (Sat.own (by decide) 0 2 rfl rfl ?_) | refine (part32 (l) 0 [] _ hl ⟨by omega, by omega⟩ (by decide) ⟨by decide, by decide⟩ (fun a' c' hc' ha' => ?_)) | refine apn_own ?_ | refine bsn_data ?_ | refine fro_nil ?_ | refine cfo_old ?_ | ((first | refine .inl (And.intro ?_ ?_) | refine And.intro ?_ ?_); focus ((repeat' apply And.intro) <;> first | rfl | omega | (unfold inR; omega) | (simp; done) | (unfold inR; simp at *; omega) | (simp at *; omega) | (intros; contradiction))) | fail)
              repeat' ((conv => whnf); first | ((with_reducible refine And.intro (?_ : @Eq Out _ _) (?_ : @Eq H _ _)) <;> exact rfl) | ((with_reducible refine And.intro (?_ : @Eq Out _ _) (?_ : @Eq H _ _)); rotate_left; exact rfl) | intro _ | refine And.intro rfl ?_ | refine (.inl ⟨by unfold inR; omega, ?_⟩) | refine apn_own ?_ | refine bsn_data ?_ | refine fro_nil ?_ | refine cfo_old ?_ | ((first | refine .inl (And.intro ?_ ?_) | refine And.intro ?_ ?_); focus ((repeat' apply And.intro) <;> first | rfl | omega | (unfold inR; omega) | (simp; done) | (unfold inR; simp at *; omega) | (simp at *; omega) | (intros; contradiction))) | fail)
              exact ⟨(1, a', c'), PI.step (k := 0) (a := 0) (c := []) ⟨.nil, by decide, by decide, by decide, by decide⟩ (by decide) hc' ha', (by show (12 - 1 : Nat) < 12 - 0; decide), (by repeat' (first | exact trivial | exact rfl | exact Or.inl rfl | refine And.intro ?_ ?_ | refine Or.inr ?_)), ⟨wkB_of rfl, wkB_of rfl, wkB_of rfl, wkB_of rfl, wkB_of rfl, trivial⟩, rfl⟩
            · have q3 : 0 ≤ a := q3
              have q4 : a ≤ 20 * ((k + 1 : Nat) : Int) := q4
              have q5 : c.length ≤ 12 * (k + 1) := q5
              have q2 : k + 1 ≤ 12 := q2
              have q1 : Parts c (k + 1) := q1
              have hcl2 : (c.map encO).length = c.length := by simp
              repeat' ((conv => whnf); first | ((with_reducible refine And.intro (?_ : @Eq Out _ _) (?_ : @Eq H _ _)) <;> exact rfl) | ((with_reducible refine And.intro (?_ : @Eq Out _ _) (?_ : @Eq H _ _)); rotate_left; exact rfl) | intro _ | refine And.intro rfl ?_ | refine (.inl ⟨by unfold inR; omega, ?_⟩) | refine (.inr ?_ : (∃ _, _) ∨ _) | refine (part32 (l) a c _ hl ⟨by omega, by omega⟩ (by omega) ⟨by decide, by decide⟩ (fun a' c' hc' ha' => ?_)) | refine (next34' (l) _ _ hl ⟨by omega, by omega⟩ (fun n hn => ?_)) | refine (emit33 (l) _ _ _ _ (by (try simp only [List.length_append, List.length_cons, List.length_nil]); omega) ?_) | refine (fro_use [4] ?_) | refine apn_own ?_ | refine bsn_data ?_ | refine fro_nil ?_ | refine cfo_old ?_ | ((first | refine .inl (And.intro ?_ ?_) | refine And.intro ?_ ?_); focus ((repeat' apply And.intro) <;> first | rfl | omega | (unfold inR; omega) | (simp; done) | (unfold inR; simp at *; omega) | (simp at *; omega) | (intros; contradiction))) | refine sp_intro (fun hb => ?_) (fun hb => ?_) | fail)
              · have hk12 : k + 2 ≤ 12 := by have := of_decide_eq_true (by assumption : decide (((k + 1 : Nat) : Int) < 12) = true); omega
                exact ⟨(k + 2, a', c'), PI.step ⟨q1, q2, q3, q4, q5⟩ (by omega) hc' ha', (by show 12 - (k + 2) < 12 - (k + 1); omega), (by repeat' (first | exact trivial | exact rfl | exact Or.inl rfl | refine And.intro ?_ ?_ | refine Or.inr ?_)), ⟨wkB_of rfl, wkB_of rfl, wkB_of rfl, wkB_of rfl, wkB_of rfl, trivial⟩, rfl⟩
              all_goals
                exact ⟨(1, [⟨1, 7, c ++ [(⟨2, n.tmod 8⟩ : Op)] ++ [(⟨18, 0⟩ : Op)]⟩]), ⟨(by show (1 : Nat) ≤ 3; decide), rfl, fun f hf => by rw [List.mem_singleton.1 hf]; exact PI.good ⟨q1, q2, q3, q4, q5⟩ ⟨by omega, by omega⟩⟩, (by show (3 - 1 : Nat) < 3 - 0; decide), (by repeat' (first | exact trivial | exact rfl | exact Or.inl rfl | refine And.intro ?_ ?_ | refine Or.inr ?_)), ⟨wkB_of rfl, wkB_of rfl, wkB_of rfl, wkB_of rfl, trivial⟩, rfl⟩
          · skip
            repeat' ((conv => whnf); first | ((with_reducible refine And.intro (?_ : @Eq Out _ _) (?_ : @Eq H _ _)) <;> exact rfl) | ((with_reducible refine And.intro (?_ : @Eq Out _ _) (?_ : @Eq H _ _)); rotate_left; exact rfl) | intro _ | refine And.intro rfl ?_ | refine (.inl ⟨by unfold inR; omega, ?_⟩) | refine apn_own ?_ | refine bsn_data ?_ | refine fro_nil ?_ | refine cfo_old ?_ | ((first | refine .inl (And.intro ?_ ?_) | refine And.intro ?_ ?_); focus ((repeat' apply And.intro) <;> first | rfl | omega | (unfold inR; omega) | (simp; done) | (unfold inR; simp at *; omega) | (simp at *; omega) | (intros; contradiction))) | fail)
            conv => whnf
            obtain ⟨l, hl, hl0⟩ : ∃ l : List Int, byts l ∧ rowsU l = [] := ⟨[], (fun _ h => nomatch h), rfl⟩
            refine loop_use2 [(0, .d (.sl 1 rowsL)), (2, .p 0 0), (3, .p 1 0), (7, .d (.int .i64 0)), (8, .p 3 0), (9, .d (.int .i64 (1)))] PI (fun q => [(10, .d (.int .i64 q.1))]) (fun q => gI0 (l) q.1 q.2.1 q.2.2) (fun q => 12 - q.1) (0, 0, []) ⟨.nil, by decide, by decide, by decide, by decide⟩ ?_ ?_ ?_ (fun q hq => ?_)
            · exact (by repeat' (first | exact trivial | exact rfl | exact Or.inl rfl | refine And.intro ?_ ?_ | refine Or.inr ?_))
            · exact ⟨wkB_of rfl, wkB_of rfl, wkB_of rfl, .inr ⟨(by rw [hl0]; exact rfl), wkb_of rfl, wkb_of rfl, trivial⟩, trivial⟩
            · exact (by kernel_rfl)
            obtain ⟨k, a, c⟩ := q
            obtain ⟨q1, q2, q3, q4, q5⟩ := hq
            have hul := rowsU_len (l)
            have htd : 0 ≤ ((rowsU (l)).length : Int).tdiv 6 := Int.tdiv_nonneg (by omega) (by decide)
            rcases k with _ | k
            · skip
              repeat' ((conv => whnf); first | ((with_reducible refine And.intro (?_ : @Eq Out _ _) (?_ : @Eq H _ _)) <;> exact rfl) | ((with_reducible refine And.intro (?_ : @Eq Out _ _) (?_ : @Eq H _ _)); rotate_left; exact rfl) | intro _ | refine And.intro rfl ?_ | refine (.inl ⟨by unfold inR; omega, ?_⟩) | refine apn_own ?_ | refine bsn_data ?_ | refine fro_nil ?_ | refine cfo_old ?_ | ((first | refine .inl (And.intro ?_ ?_) | refine And.intro ?_ ?_); focus ((repeat' apply And.intro) <;> first | rfl | omega | (unfold inR; omega) | (simp; done) | (unfold inR; simp at *; omega) | (simp at *; omega) | (intros; contradiction))) | fail)
              refine sp_intro (fun hb => ?_) (fun hb => absurd (of_decide_eq_false hb) (by omega))
              repeat' ((conv => whnf); first | ((with_reducible refine And.intro (?_ : @Eq Out _ _) (?_ : @Eq H _ _)) <;> exact rfl) | ((with_reducible refine And.intro (?_ : @Eq Out _ _) (?_ : @Eq H _ _)); rotate_left; exact rfl) | intro _ | refine And.intro rfl ?_ | refine (.inr ?_ : (∃ _, _) ∨ _) | refine (Sat.own (by decide) 0 2 rfl rfl ?_) | refine (part32 (l) 0 [] _ hl ⟨by omega, by omega⟩ (by decide) ⟨by decide, by decide⟩ (fun a' c' hc' ha' => ?_)) | refine apn_own ?_ | refine bsn_data ?_ | refine fro_nil ?_ | refine cfo_old ?_ | ((first | refine .inl (And.intro ?_ ?_) | refine And.intro ?_ ?_); focus ((repeat' apply And.intro) <;> first | rfl | omega | (unfold inR; omega) | (simp; done) | (unfold inR; simp at *; omega) | (simp at *; omega) | (intros; contradiction))) | fail)
              repeat' ((conv => whnf); first | ((with_reducible refine And.intro (?_ : @Eq Out _ _) (?_ : @Eq H _ _)) <;> exact rfl) | ((with_reducible refine And.intro (?_ : @Eq Out _ _) (?_ : @Eq H _ _)); rotate_left; exact rfl) | intro _ | refine And.intro rfl ?_ | refine (.inl ⟨by unfold inR; omega, ?_⟩) | refine apn_own ?_ | refine bsn_data ?_ | refine fro_nil ?_ | refine cfo_old ?_ | ((first | refine .inl (And.intro ?_ ?_) | refine And.intro ?_ ?_); focus ((repeat' apply And.intro) <;> first | rfl | omega | (unfold inR; omega) | (simp; done) | (unfold inR; simp at *; omega) | (simp at *; omega) | (intros; contradiction))) | fail)
              exact ⟨(1, a', c'), PI.step (k := 0) (a := 0) (c := []) ⟨.nil, by decide, by decide, by decide, by decide⟩ (by decide) hc' ha', (by show (12 - 1 : Nat) < 12 - 0; decide), (by repeat' (first | exact trivial | exact rfl | exact Or.inl rfl | refine And.intro ?_ ?_ | refine Or.inr ?_)), ⟨wkB_of rfl, wkB_of rfl, wkB_of rfl, wkB_of rfl, wkB_of rfl, trivial⟩, rfl⟩
            · have q3 : 0 ≤ a := q3
              have q4 : a ≤ 20 * ((k + 1 : Nat) : Int) := q4
              have q5 : c.length ≤ 12 * (k + 1) := q5
              have q2 : k + 1 ≤ 12 := q2
              have q1 : Parts c (k + 1) := q1
              have hcl2 : (c.map encO).length = c.length := by simp
              repeat' ((conv => whnf); first | ((with_reducible refine And.intro (?_ : @Eq Out _ _) (?_ : @Eq H _ _)) <;> exact rfl) | ((with_reducible refine And.intro (?_ : @Eq Out _ _) (?_ : @Eq H _ _)); rotate_left; exact rfl) | intro _ | refine And.intro rfl ?_ | refine (.inl ⟨by unfold inR; omega, ?_⟩) | refine (.inr ?_ : (∃ _, _) ∨ _) | refine (part32 (l) a c _ hl ⟨by omega, by omega⟩ (by omega) ⟨by decide, by decide⟩ (fun a' c' hc' ha' => ?_)) | refine (next34' (l) _ _ hl ⟨by omega, by omega⟩ (fun n hn => ?_)) | refine (emit33 (l) _ _ _ _ (by (try simp only [List.length_append, List.length_cons, List.length_nil]); omega) ?_) | refine (fro_use [4] ?_) | refine apn_own ?_ | refine bsn_data ?_ | refine fro_nil ?_ | refine cfo_old ?_ | ((first | refine .inl (And.intro ?_ ?_) | refine And.intro ?_ ?_); focus ((repeat' apply And.intro) <;> first | rfl | omega | (unfold inR; omega) | (simp; done) | (unfold inR; simp at *; omega) | (simp at *; omega) | (intros; contradiction))) | refine sp_intro (fun hb => ?_) (fun hb => ?_) | fail)
              · have hk12 : k + 2 ≤ 12 := by have := of_decide_eq_true (by assumption : decide (((k + 1 : Nat) : Int) < 12) = true); omega
                exact ⟨(k + 2, a', c'), PI.step ⟨q1, q2, q3, q4, q5⟩ (by omega) hc' ha', (by show 12 - (k + 2) < 12 - (k + 1); omega), (by repeat' (first | exact trivial | exact rfl | exact Or.inl rfl | refine And.intro ?_ ?_ | refine Or.inr ?_)), ⟨wkB_of rfl, wkB_of rfl, wkB_of rfl, wkB_of rfl, wkB_of rfl, trivial⟩, rfl⟩
              all_goals
                exact ⟨(1, [⟨1, 7, c ++ [(⟨2, n.tmod 8⟩ : Op)] ++ [(⟨18, 0⟩ : Op)]⟩]), ⟨(by show (1 : Nat) ≤ 3; decide), rfl, fun f hf => by rw [List.mem_singleton.1 hf]; exact PI.good ⟨q1, q2, q3, q4, q5⟩ ⟨by omega, by omega⟩⟩, (by show (3 - 1 : Nat) < 3 - 0; decide), (by repeat' (first | exact trivial | exact rfl | exact Or.inl rfl | refine And.intro ?_ ?_ | refine Or.inr ?_)), ⟨wkB_of rfl, wkB_of rfl, wkB_of rfl, wkB_of rfl, trivial⟩, rfl⟩
        · have hfl3 : (fs.map encFn).length = i + 1 := by rw [List.length_map, hfl]
          repeat' ((conv => whnf); first | ((with_reducible refine And.intro (?_ : @Eq Out _ _) (?_ : @Eq H _ _)) <;> exact rfl) | ((with_reducible refine And.intro (?_ : @Eq Out _ _) (?_ : @Eq H _ _)); rotate_left; exact rfl) | intro _ | refine And.intro rfl ?_ | refine apn_own ?_ | refine bsn_data ?_ | refine fro_nil ?_ | refine cfo_old ?_ | ((first | refine .inl (And.intro ?_ ?_) | refine And.intro ?_ ?_); focus ((repeat' apply And.intro) <;> first | rfl | omega | (unfold inR; omega) | (simp; done) | (unfold inR; simp at *; omega) | (simp at *; omega) | (intros; contradiction))) | fail)
          refine sp_intro (fun hlt => ?_) (fun hge => ?_)
          · have hlt : i + 1 < 3 := by have := of_decide_eq_true hlt; omega
            have hab : 0 ≤ (((i + 1 : Nat) : Int) + 1).tmod 3 ∧ (((i + 1 : Nat) : Int) + 1).tmod 3 < 3 := by
              rw [Int.tmod_eq_emod_of_nonneg (by omega)]
              omega
            repeat' ((conv => whnf); first | ((with_reducible refine And.intro (?_ : @Eq Out _ _) (?_ : @Eq H _ _)) <;> exact rfl) | ((with_reducible refine And.intro (?_ : @Eq Out _ _) (?_ : @Eq H _ _)); rotate_left; exact rfl) | intro _ | refine And.intro rfl ?_ | refine apn_own ?_ | refine bsn_data ?_ | refine fro_nil ?_ | refine cfo_old ?_ | ((first | refine .inl (And.intro ?_ ?_) | refine And.intro ?_ ?_); focus ((repeat' apply And.intro) <;> first | rfl | omega | (unfold inR; omega) | (simp; done) | (unfold inR; simp at *; omega) | (simp at *; omega) | (intros; contradiction))) | fail)
            refine sp_intro (fun hin => ?_) (fun hout => ?_)
            · have hin : i + 1 < L.length := by have := of_decide_eq_true hin; omega
              obtain ⟨l, hl, hrow⟩ := hget (i + 1) hin
              repeat' ((conv => whnf); first | ((with_reducible refine And.intro (?_ : @Eq Out _ _) (?_ : @Eq H _ _)) <;> exact rfl) | ((with_reducible refine And.intro (?_ : @Eq Out _ _) (?_ : @Eq H _ _)); rotate_left; exact rfl) | intro _ | refine And.intro rfl ?_ | refine apn_own ?_ | refine bsn_data ?_ | refine fro_nil ?_ | refine cfo_old ?_ | ((first | refine .inl (And.intro ?_ ?_) | refine And.intro ?_ ?_); focus ((repeat' apply And.intro) <;> first | rfl | omega | (unfold inR; omega) | (simp; done) | (unfold inR; simp at *; omega) | (simp at *; omega) | (intros; contradiction))) | fail)
              refine ⟨[D.sl 1 (rowsU l)], ⟨by omega, by rw [show ((i + 1 : Nat) : Int).toNat = i + 1 by omega]; exact hrow, rfl⟩, ?_⟩
              repeat' ((conv => whnf); first | ((with_reducible refine And.intro (?_ : @Eq Out _ _) (?_ : @Eq H _ _)) <;> exact rfl) | ((with_reducible refine And.intro (?_ : @Eq Out _ _) (?_ : @Eq H _ _)); rotate_left; exact rfl) | intro _ | refine And.intro rfl ?_ | refine (.inl ⟨by unfold inR; omega, ?_⟩) | refine apn_own ?_ | refine bsn_data ?_ | refine fro_nil ?_ | refine cfo_old ?_ | ((first | refine .inl (And.intro ?_ ?_) | refine And.intro ?_ ?_); focus ((repeat' apply And.intro) <;> first | rfl | omega | (unfold inR; omega) | (simp; done) | (unfold inR; simp at *; omega) | (simp at *; omega) | (intros; contradiction))) | fail)
              conv => whnf
              refine loop_use2 [(0, .d (.sl 1 rowsL)), (2, .p 0 0), (3, .p 1 0), (7, .d (.int .i64 ((i + 1 : Nat) : Int))), (8, .p 6 0), (9, .d (.int .i64 ((((i + 1 : Nat) : Int) + 1).tmod 3)))] PI (fun q => [(10, .d (.int .i64 q.1))]) (fun q => gI6 fs (l) q.1 q.2.1 q.2.2) (fun q => 12 - q.1) (0, 0, []) ⟨.nil, by decide, by decide, by decide, by decide⟩ ?_ ?_ ?_ (fun q hq => ?_)
              · exact (by repeat' (first | exact trivial | exact rfl | exact Or.inl rfl | refine And.intro ?_ ?_ | refine Or.inr ?_))
              · exact ⟨wkB_of rfl, wkB_of rfl, wkB_of rfl, wkB_of rfl, wkB_of rfl, trivial⟩
              · exact (by kernel_rfl)
              obtain ⟨k, a, c⟩ := q
              obtain ⟨q1, q2, q3, q4, q5⟩ := hq
              have hul := rowsU_len (l)
              have htd : 0 ≤ ((rowsU (l)).length : Int).tdiv 6 := Int.tdiv_nonneg (by omega) (by decide)
              rcases k with _ | k
              · skip
                repeat' ((conv => whnf); first | ((with_reducible refine And.intro (?_ : @Eq Out _ _) (?_ : @Eq H _ _)) <;> exact rfl) | ((with_reducible refine And.intro (?_ : @Eq Out _ _) (?_ : @Eq H _ _)); rotate_left; exact rfl) | intro _ | refine And.intro rfl ?_ | refine (.inl ⟨by unfold inR; omega, ?_⟩) | refine apn_own ?_ | refine bsn_data ?_ | refine fro_nil ?_ | refine cfo_old ?_ | ((first | refine .inl (And.intro ?_ ?_) | refine And.intro ?_ ?_); focus ((repeat' apply And.intro) <;> first | rfl | omega | (unfold inR; omega) | (simp; done) | (unfold inR; simp at *; omega) | (simp at *; omega) | (intros; contradiction))) | fail)
                refine sp_intro (fun hb => ?_) (fun hb => absurd (of_decide_eq_false hb) (by omega))
                repeat' ((conv => whnf); first | ((with_reducible refine And.intro (?_ : @Eq Out _ _) (?_ : @Eq H _ _)) <;> exact rfl) | ((with_reducible refine And.intro (?_ : @Eq Out _ _) (?_ : @Eq H _ _)); rotate_left; exact rfl) | intro _ | refine And.intro rfl ?_ | refine (.inr ?_ : (∃ _, _) ∨ _) | refine (Sat.own (by decide) 0 2 rfl rfl ?_) | refine (part32 (l) 0 [] _ hl ⟨by omega, by omega⟩ (by decide) hab (fun a' c' hc' ha' => ?_)) | refine apn_own ?_ | refine bsn_data ?_ | refine fro_nil ?_ | refine cfo_old ?_ | ((first | refine .inl (And.intro ?_ ?_) | refine And.intro ?_ ?_); focus ((repeat' apply And.intro) <;> first | rfl | omega | (unfold inR; omega) | (simp; done) | (unfold inR; simp at *; omega) | (simp at *; omega) | (intros; contradiction))) | fail)
                repeat' ((conv => whnf); first | ((with_reducible refine And.intro (?_ : @Eq Out _ _) (?_ : @Eq H _ _)) <;> exact rfl) | ((with_reducible refine And.intro (?_ : @Eq Out _ _) (?_ : @Eq H _ _)); rotate_left; exact rfl) | intro _ | refine And.intro rfl ?_ | refine (.inl ⟨by unfold inR; omega, ?_⟩) | refine apn_own ?_ | refine bsn_data ?_ | refine fro_nil ?_ | refine cfo_old ?_ | ((first | refine .inl (And.intro ?_ ?_) | refine And.intro ?_ ?_); focus ((repeat' apply And.intro) <;> first | rfl | omega | (unfold inR; omega) | (simp; done) | (unfold inR; simp at *; omega) | (simp at *; omega) | (intros; contradiction))) | fail)
                exact ⟨(1, a', c'), PI.step (k := 0) (a := 0) (c := []) ⟨.nil, by decide, by decide, by decide, by decide⟩ (by decide) hc' ha', (by show (12 - 1 : Nat) < 12 - 0; decide), (by repeat' (first | exact trivial | exact rfl | exact Or.inl rfl | refine And.intro ?_ ?_ | refine Or.inr ?_)), ⟨wkB_of rfl, wkB_of rfl, wkB_of rfl, wkB_of rfl, wkB_of rfl, wkB_of rfl, trivial⟩, rfl⟩
              · have q3 : 0 ≤ a := q3
                have q4 : a ≤ 20 * ((k + 1 : Nat) : Int) := q4
                have q5 : c.length ≤ 12 * (k + 1) := q5
                have q2 : k + 1 ≤ 12 := q2
                have q1 : Parts c (k + 1) := q1
                have hcl2 : (c.map encO).length = c.length := by simp
                repeat' ((conv => whnf); first | ((with_reducible refine And.intro (?_ : @Eq Out _ _) (?_ : @Eq H _ _)) <;> exact rfl) | ((with_reducible refine And.intro (?_ : @Eq Out _ _) (?_ : @Eq H _ _)); rotate_left; exact rfl) | intro _ | refine And.intro rfl ?_ | refine (.inl ⟨by unfold inR; omega, ?_⟩) | refine (.inr ?_ : (∃ _, _) ∨ _) | refine (part32 (l) a c _ hl ⟨by omega, by omega⟩ (by omega) hab (fun a' c' hc' ha' => ?_)) | refine (next34' (l) _ _ hl ⟨by omega, by omega⟩ (fun n hn => ?_)) | refine (emit33 (l) _ _ _ _ (by (try simp only [List.length_append, List.length_cons, List.length_nil]); omega) ?_) | refine (fro_use [7] ?_) | refine apn_own ?_ | refine bsn_data ?_ | refine fro_nil ?_ | refine cfo_old ?_ | ((first | refine .inl (And.intro ?_ ?_) | refine And.intro ?_ ?_); focus ((repeat' apply And.intro) <;> first | rfl | omega | (unfold inR; omega) | (simp; done) | (unfold inR; simp at *; omega) | (simp at *; omega) | (intros; contradiction))) | refine sp_intro (fun hb => ?_) (fun hb => ?_) | fail)
                · have hk12 : k + 2 ≤ 12 := by have := of_decide_eq_true (by assumption : decide (((k + 1 : Nat) : Int) < 12) = true); omega
                  exact ⟨(k + 2, a', c'), PI.step ⟨q1, q2, q3, q4, q5⟩ (by omega) hc' ha', (by show 12 - (k + 2) < 12 - (k + 1); omega), (by repeat' (first | exact trivial | exact rfl | exact Or.inl rfl | refine And.intro ?_ ?_ | refine Or.inr ?_)), ⟨wkB_of rfl, wkB_of rfl, wkB_of rfl, wkB_of rfl, wkB_of rfl, wkB_of rfl, trivial⟩, rfl⟩
                all_goals
                  exact ⟨(i + 2, fs ++ [⟨1, 7, c ++ [(⟨2, n.tmod 8⟩ : Op)] ++ [(⟨18, 0⟩ : Op)]⟩]), ⟨(by show i + 2 ≤ 3; omega), (by simp only [List.length_append, List.length_cons, List.length_nil]; omega), fun f hf => (List.mem_append.1 hf).elim (hfs f) fun hf => by rw [List.mem_singleton.1 hf]; exact PI.good ⟨q1, q2, q3, q4, q5⟩ ⟨by omega, by omega⟩⟩, (by show 3 - (i + 2) < 3 - (i + 1); omega), (by repeat' (first | exact trivial | exact rfl | exact Or.inl rfl | refine And.intro ?_ ?_ | refine Or.inr ?_)), ⟨wkB_of rfl, wkB_of rfl, wkB_of rfl, wkB_of (fn_app fs ⟨1, 7, c ++ [(⟨2, n.tmod 8⟩ : Op)] ++ [(⟨18, 0⟩ : Op)]⟩ rfl), trivial⟩, rfl⟩
            · skip
              repeat' ((conv => whnf); first | ((with_reducible refine And.intro (?_ : @Eq Out _ _) (?_ : @Eq H _ _)) <;> exact rfl) | ((with_reducible refine And.intro (?_ : @Eq Out _ _) (?_ : @Eq H _ _)); rotate_left; exact rfl) | intro _ | refine And.intro rfl ?_ | refine (.inl ⟨by unfold inR; omega, ?_⟩) | refine apn_own ?_ | refine bsn_data ?_ | refine fro_nil ?_ | refine cfo_old ?_ | ((first | refine .inl (And.intro ?_ ?_) | refine And.intro ?_ ?_); focus ((repeat' apply And.intro) <;> first | rfl | omega | (unfold inR; omega) | (simp; done) | (unfold inR; simp at *; omega) | (simp at *; omega) | (intros; contradiction))) | fail)
              conv => whnf
              obtain ⟨l, hl, hl0⟩ : ∃ l : List Int, byts l ∧ rowsU l = [] := ⟨[], (fun _ h => nomatch h), rfl⟩
              refine loop_use2 [(0, .d (.sl 1 rowsL)), (2, .p 0 0), (3, .p 1 0), (7, .d (.int .i64 ((i + 1 : Nat) : Int))), (8, .p 6 0), (9, .d (.int .i64 ((((i + 1 : Nat) : Int) + 1).tmod 3)))] PI (fun q => [(10, .d (.int .i64 q.1))]) (fun q => gI6 fs (l) q.1 q.2.1 q.2.2) (fun q => 12 - q.1) (0, 0, []) ⟨.nil, by decide, by decide, by decide, by decide⟩ ?_ ?_ ?_ (fun q hq => ?_)
              · exact (by repeat' (first | exact trivial | exact rfl | exact Or.inl rfl | refine And.intro ?_ ?_ | refine Or.inr ?_))
              · exact ⟨wkB_of rfl, wkB_of rfl, wkB_of rfl, wkB_of rfl, .inr ⟨(by rw [hl0]; exact rfl), wkb_of rfl, wkb_of rfl, trivial⟩, trivial⟩
              · exact (by kernel_rfl)
              obtain ⟨k, a, c⟩ := q
              obtain ⟨q1, q2, q3, q4, q5⟩ := hq
              have hul := rowsU_len (l)
              have htd : 0 ≤ ((rowsU (l)).length : Int).tdiv 6 := Int.tdiv_nonneg (by omega) (by decide)
              rcases k with _ | k
              · skip
                repeat' ((conv => whnf); first | ((with_reducible refine And.intro (?_ : @Eq Out _ _) (?_ : @Eq H _ _)) <;> exact rfl) | ((with_reducible refine And.intro (?_ : @Eq Out _ _) (?_ : @Eq H _ _)); rotate_left; exact rfl) | intro _ | refine And.intro rfl ?_ | refine (.inl ⟨by unfold inR; omega, ?_⟩) | refine apn_own ?_ | refine bsn_data ?_ | refine fro_nil ?_ | refine cfo_old ?_ | ((first | refine .inl (And.intro ?_ ?_) | refine And.intro ?_ ?_); focus ((repeat' apply And.intro) <;> first | rfl | omega | (unfold inR; omega) | (simp; done) | (unfold inR; simp at *; omega) | (simp at *; omega) | (intros; contradiction))) | fail)
                refine sp_intro (fun hb => ?_) (fun hb => absurd (of_decide_eq_false hb) (by omega))
                repeat' ((conv => whnf); first | ((with_reducible refine And.intro (?_ : @Eq Out _ _) (?_ : @Eq H _ _)) <;> exact rfl) | ((with_reducible refine And.intro (?_ : @Eq Out _ _) (?_ : @Eq H _ _)); rotate_left; exact rfl) | intro _ | refine And.intro rfl ?_ | refine (.inr ?_ : (∃ _, _) ∨ _) | refine (Sat.own (by decide) 0 2 rfl rfl ?_) | refine (part32 (l) 0 [] _ hl ⟨by omega, by omega⟩ (by decide) hab (fun a' c' hc' ha' => ?_)) | refine apn_own ?_ | refine bsn_data ?_ | refine fro_nil ?_ | refine cfo_old ?_ | ((first | refine .inl (And.intro ?_ ?_) | refine And.intro ?_ ?_); focus ((repeat' apply And.intro) <;> first | rfl | omega | (unfold inR; omega) | (simp; done) | (unfold inR; simp at *; omega) | (simp at *; omega) | (intros; contradiction))) | fail)
                repeat' ((conv => whnf); first | ((with_reducible refine And.intro (?_ : @Eq Out _ _) (?_ : @Eq H _ _)) <;> exact rfl) | ((with_reducible refine And.intro (?_ : @Eq Out _ _) (?_ : @Eq H _ _)); rotate_left; exact rfl) | intro _ | refine And.intro rfl ?_ | refine (.inl ⟨by unfold inR; omega, ?_⟩) | refine apn_own ?_ | refine bsn_data ?_ | refine fro_nil ?_ | refine cfo_old ?_ | ((first | refine .inl (And.intro ?_ ?_) | refine And.intro ?_ ?_); focus ((repeat' apply And.intro) <;> first | rfl | omega | (unfold inR; omega) | (simp; done) | (unfold inR; simp at *; omega) | (simp at *; omega) | (intros; contradiction))) | fail)
                exact ⟨(1, a', c'), PI.step (k := 0) (a := 0) (c := []) ⟨.nil, by decide, by decide, by decide, by decide⟩ (by decide) hc' ha', (by show (12 - 1 : Nat) < 12 - 0; decide), (by repeat' (first | exact trivial | exact rfl | exact Or.inl rfl | refine And.intro ?_ ?_ | refine Or.inr ?_)), ⟨wkB_of rfl, wkB_of rfl, wkB_of rfl, wkB_of rfl, wkB_of rfl, wkB_of rfl, trivial⟩, rfl⟩
              · have q3 : 0 ≤ a := q3
                have q4 : a ≤ 20 * ((k + 1 : Nat) : Int) := q4
                have q5 : c.length ≤ 12 * (k + 1) := q5
                have q2 : k + 1 ≤ 12 := q2
                have q1 : Parts c (k + 1) := q1
                have hcl2 : (c.map encO).length = c.length := by simp
                repeat' ((conv => whnf); first | ((with_reducible refine And.intro (?_ : @Eq Out _ _) (?_ : @Eq H _ _)) <;> exact rfl) | ((with_reducible refine And.intro (?_ : @Eq Out _ _) (?_ : @Eq H _ _)); rotate_left; exact rfl) | intro _ | refine And.intro rfl ?_ | refine (.inl ⟨by unfold inR; omega, ?_⟩) | refine (.inr ?_ : (∃ _, _) ∨ _) | refine (part32 (l) a c _ hl ⟨by omega, by omega⟩ (by omega) hab (fun a' c' hc' ha' => ?_)) | refine (next34' (l) _ _ hl ⟨by omega, by omega⟩ (fun n hn => ?_)) | refine (emit33 (l) _ _ _ _ (by (try simp only [List.length_append, List.length_cons, List.length_nil]); omega) ?_) | refine (fro_use [7] ?_) | refine apn_own ?_ | refine bsn_data ?_ | refine fro_nil ?_ | refine cfo_old ?_ | ((first | refine .inl (And.intro ?_ ?_) | refine And.intro ?_ ?_); focus ((repeat' apply And.intro) <;> first | rfl | omega | (unfold inR; omega) | (simp; done) | (unfold inR; simp at *; omega) | (simp at *; omega) | (intros; contradiction))) | refine sp_intro (fun hb => ?_) (fun hb => ?_) | fail)
                · have hk12 : k + 2 ≤ 12 := by have := of_decide_eq_true (by assumption : decide (((k + 1 : Nat) : Int) < 12) = true); omega
                  exact ⟨(k + 2, a', c'), PI.step ⟨q1, q2, q3, q4, q5⟩ (by omega) hc' ha', (by show 12 - (k + 2) < 12 - (k + 1); omega), (by repeat' (first | exact trivial | exact rfl | exact Or.inl rfl | refine And.intro ?_ ?_ | refine Or.inr ?_)), ⟨wkB_of rfl, wkB_of rfl, wkB_of rfl, wkB_of rfl, wkB_of rfl, wkB_of rfl, trivial⟩, rfl⟩
                all_goals
                  exact ⟨(i + 2, fs ++ [⟨1, 7, c ++ [(⟨2, n.tmod 8⟩ : Op)] ++ [(⟨18, 0⟩ : Op)]⟩]), ⟨(by show i + 2 ≤ 3; omega), (by simp only [List.length_append, List.length_cons, List.length_nil]; omega), fun f hf => (List.mem_append.1 hf).elim (hfs f) fun hf => by rw [List.mem_singleton.1 hf]; exact PI.good ⟨q1, q2, q3, q4, q5⟩ ⟨by omega, by omega⟩⟩, (by show 3 - (i + 2) < 3 - (i + 1); omega), (by repeat' (first | exact trivial | exact rfl | exact Or.inl rfl | refine And.intro ?_ ?_ | refine Or.inr ?_)), ⟨wkB_of rfl, wkB_of rfl, wkB_of rfl, wkB_of (fn_app fs ⟨1, 7, c ++ [(⟨2, n.tmod 8⟩ : Op)] ++ [(⟨18, 0⟩ : Op)]⟩ rfl), trivial⟩, rfl⟩
          · have hge : i = 2 := by have := of_decide_eq_false hge; omega
            subst hge
            repeat' ((conv => whnf); first | ((with_reducible refine And.intro (?_ : @Eq Out _ _) (?_ : @Eq H _ _)) <;> exact rfl) | ((with_reducible refine And.intro (?_ : @Eq Out _ _) (?_ : @Eq H _ _)); rotate_left; exact rfl) | intro _ | refine And.intro rfl ?_ | refine apn_own ?_ | refine bsn_data ?_ | refine fro_nil ?_ | refine cfo_old ?_ | ((first | refine .inl (And.intro ?_ ?_) | refine And.intro ?_ ?_); focus ((repeat' apply And.intro) <;> first | rfl | omega | (unfold inR; omega) | (simp; done) | (unfold inR; simp at *; omega) | (simp at *; omega) | (intros; contradiction))) | fail)
            exact hk ⟨cs16, fs⟩ ⟨rfl, hfl, hfs⟩
end Go.Proofs.YtoibcfioicdlhaaGreatDoor
