/- What is gone on with behind an op that asks: the walk. Conditions: none. -/
import Derived.Test.YtoibcfioicdlhaaGreatDoorQBG
import Derived.Test.YtoibcfioicdlhaaGreatDoorQAY
namespace Go.Proofs.YtoibcfioicdlhaaGreatDoor
open Go.Vx
set_option maxRecDepth 100000
def gsk (c : Co) (o : Op) (i : Info) (F : Fr) (k : Nat) : H :=
  match k with
  | 0 => [.cells [.os 4, .d (.sl 5 ((popC c i.po).st.map encV)), .d (.sl 3 (c.tr.map encT))], .cells [.d (.int .i64 o.c), .d (.int .i64 o.a)], .cells [.nl 5, .nl 5, .nl 3], .cells [.d (.str i.nm), .d (.int .i64 i.ar), .d (.int .i64 i.po), .d (.int .i64 i.pu), .d (.bool (last o.c))], .rows 5 ((nxt c.fr F).map encF)]
  | k + 1 => [.cells [.d (.sl 5 ((nxt c.fr F).map encF)), .d (.sl 5 (((popC c i.po).st ++ List.replicate (k + 1) (num o.c)).map encV)), .d (.sl 3 (c.tr.map encT))], .cells [.d (.int .i64 o.c), .d (.int .i64 o.a)], .cells [.nl 5, .nl 5, .nl 3], .cells [.d (.str i.nm), .d (.int .i64 i.ar), .d (.int .i64 i.po), .d (.int .i64 i.pu), .d (.bool (last o.c))], .no]
set_option maxHeartbeats 4000000 in
theorem skip22 (c : Co) (o : Op) (i : Info) (F : Fr) (hi : inf o.c = some i) (hl : c.fr.getLast? = some F) (hpo : popOk c i.po = true) (hls : c.st.length < 800000000) (hlf : c.fr.length ≤ 16) (hpc : 0 ≤ F.pc ∧ F.pc < 1000000) : SatP Tryz.prog 22 [agC c, agO o] (agC (skipC c o i F)) := by
  have hab := about_yes hi
  have hpop := pop46 c i.po (by omega)
  rw [popR_yes hpo] at hpop
  have hp := inf_some hi
  have hne : 0 < c.fr.length := by
    cases h : c.fr with
    | nil => rw [h] at hl; cases hl
    | cons => simp
  have hfl : (c.fr.map encF).length ≤ 16 := by simpa using hlf
  have hrow : (c.fr.map encF)[(((c.fr.map encF).length : Int) - 1).toNat]? = some (encF F) := by
    have e : (((c.fr.map encF).length : Int) - 1).toNat = c.fr.length - 1 := by rw [List.length_map]; omega
    rw [e, List.getElem?_map]
    rw [List.getLast?_eq_getElem?] at hl
    rw [hl]
    rfl
  have hA : (List.map encF (popC c i.po).fr).length ≤ 9223372036854775807 := by show (c.fr.map encF).length ≤ _; omega
  have hB : (List.map encF (popC c i.po).fr).length * 56 ≤ 140737488355328 := by show (c.fr.map encF).length * 56 ≤ _; omega
  have hset : (c.fr.map encF).set (((c.fr.map encF).length : Int) - 1).toNat (encF { F with pc := F.pc + 1 }) = (nxt c.fr F).map encF := by
    have e : (((c.fr.map encF).length : Int) - 1).toNat = c.fr.length - 1 := by rw [List.length_map]; omega
    rw [e, nxt, List.map_set]
  have hst : (popC c i.po).st.length < 800000000 := by
    have : (popC c i.po).st.length ≤ c.st.length := by simp only [popC, cutn, List.length_take]; omega
    omega
  refine s22 (keep := false) rfl ?_
  have hC : 0 ≤ ((List.map encF (popC c i.po).fr).length : Int) - 1 ∧ (((List.map encF (popC c i.po).fr).length : Int) - 1 < ((List.map encF (popC c i.po).fr).length : Int)) := by
    have : (List.map encF (popC c i.po).fr).length = c.fr.length := by show (c.fr.map encF).length = _; rw [List.length_map]
    omega
  have hin : inR .i64 (F.pc + 1) := by unfold inR; omega
  repeat' ((conv => whnf); first | exact zf | refine zg ?_ | intro _ | refine And.intro rfl ?_ | refine ⟨_, hab, ?_⟩ | refine (hab).use ?_ | refine ⟨_, hpop, ?_⟩ | refine (hpop).use ?_ | refine za ?_ | refine zl ?_ | fail)
  refine ⟨encF F, hrow, ?_⟩
  repeat' ((conv => whnf); first | exact zf | refine zg ?_ | intro _ | refine And.intro rfl ?_ | refine (.inl ⟨hin, ?_⟩) | refine za ?_ | refine zl ?_ | fail)
  refine ⟨encF F, hrow, ⟨rfl, rfl, rfl⟩, ?_⟩
  repeat' ((conv => whnf); first | exact zf | refine zg ?_ | intro _ | refine And.intro rfl ?_ | refine za ?_ | refine zl ?_ | fail)
  conv => whnf
  refine loop_use2 [(2, .p 0 0), (3, .p 1 0), (4, .p 2 0), (5, .p 3 0)] (fun k : Nat => k ≤ i.pu.toNat) (fun k => [(7, .d (.int .i64 k))]) (gsk c o i F) (fun k => i.pu.toNat - k) 0 (Nat.zero_le _) ?_ ?_ ?_ (fun k hk => ?_)
  · exact (by repeat' (first | exact trivial | exact rfl | exact Or.inl rfl | refine And.intro ?_ ?_ | refine Or.inr ?_))
  · exact ⟨wkB_of rfl, wkB_of rfl, wkB_of rfl, wkB_of rfl, wkB_of (congrArg (B.rows 5) hset), trivial⟩
  · exact (by kernel_rfl)
  rcases k with _ | k
  · skip
    repeat' ((conv => whnf); first | exact zf | refine zg ?_ | intro _ | refine And.intro rfl ?_ | refine za ?_ | refine zl ?_ | fail)
    refine sp_intro (fun hlt => ?_) (fun hge => ?_)
    · have hlt : 0 < i.pu := by simpa using hlt
      repeat' ((conv => whnf); first | exact zf | refine zg ?_ | intro _ | refine And.intro rfl ?_ | refine ⟨_, number11 o.c, ?_⟩ | refine (number11 o.c).use ?_ | refine fro_use [4] ?_ | refine ⟨_, push48 ⟨nxt c.fr F, (popC c i.po).st, c.tr⟩ (num o.c) (by show (popC c i.po).st.length < _; omega), ?_⟩ | refine (push48 ⟨nxt c.fr F, (popC c i.po).st, c.tr⟩ (num o.c) (by show (popC c i.po).st.length < _; omega)).use ?_ | refine (.inl ⟨by unfold inR; omega, ?_⟩) | refine za ?_ | refine zl ?_ | fail)
      exact ⟨1, by omega, by omega, (by repeat' (first | exact trivial | exact rfl | exact Or.inl rfl | refine And.intro ?_ ?_ | refine Or.inr ?_)), ⟨wkB_of rfl, wkB_of rfl, wkB_of rfl, wkB_of rfl, trivial⟩, rfl⟩
    · have hge : i.pu = 0 := by
        have : ¬ ((0 : Nat) : Int) < i.pu := of_decide_eq_false hge
        omega
      repeat' ((conv => whnf); first | exact zf | refine zg ?_ | intro _ | refine And.intro rfl ?_ | refine za ?_ | refine zl ?_ | fail)
      have e : skipC c o i F = ⟨nxt c.fr F, (popC c i.po).st, c.tr⟩ := by simp [skipC, hge]
      rw [e]
      rfl
  · have hk : k + 1 ≤ i.pu.toNat := hk
    repeat' ((conv => whnf); first | exact zf | refine zg ?_ | intro _ | refine And.intro rfl ?_ | refine za ?_ | refine zl ?_ | fail)
    refine sp_intro (fun hlt => ?_) (fun hge => ?_)
    · have hlt : ((k + 1 : Nat) : Int) < i.pu := of_decide_eq_true hlt
      have e2 : (((popC c i.po).st ++ List.replicate (k + 1) (num o.c)) ++ [num o.c]) = (popC c i.po).st ++ List.replicate (k + 2) (num o.c) := by
        rw [List.append_assoc, ← List.replicate_succ']
      repeat' ((conv => whnf); first | exact zf | refine zg ?_ | intro _ | refine And.intro rfl ?_ | refine ⟨_, number11 o.c, ?_⟩ | refine (number11 o.c).use ?_ | refine ⟨_, push48 ⟨nxt c.fr F, (popC c i.po).st ++ List.replicate (k + 1) (num o.c), c.tr⟩ (num o.c) (by simp only [List.length_append, List.length_replicate]; omega), ?_⟩ | refine (push48 ⟨nxt c.fr F, (popC c i.po).st ++ List.replicate (k + 1) (num o.c), c.tr⟩ (num o.c) (by simp only [List.length_append, List.length_replicate]; omega)).use ?_ | refine (.inl ⟨by unfold inR; omega, ?_⟩) | refine za ?_ | refine zl ?_ | fail)
      refine ⟨k + 2, by omega, by omega, (by repeat' (first | exact trivial | exact rfl | exact Or.inl rfl | refine And.intro ?_ ?_ | refine Or.inr ?_)), ⟨wkB_of ?_, wkB_of rfl, wkB_of rfl, wkB_of rfl, trivial⟩, rfl⟩
      exact congrArg (fun l => B.cells [.d (.sl 5 ((nxt c.fr F).map encF)), .d (.sl 5 (l.map encV)), .d (.sl 3 (c.tr.map encT))]) e2
    · have hge : i.pu.toNat = k + 1 := by
        have : ¬ ((k + 1 : Nat) : Int) < i.pu := of_decide_eq_false hge
        omega
      repeat' ((conv => whnf); first | exact zf | refine zg ?_ | intro _ | refine And.intro rfl ?_ | refine za ?_ | refine zl ?_ | fail)
      have e : skipC c o i F = ⟨nxt c.fr F, (popC c i.po).st ++ List.replicate (k + 1) (num o.c), c.tr⟩ := by simp only [skipC, hge]
      rw [e]
      rfl
end Go.Proofs.YtoibcfioicdlhaaGreatDoor
