/- What the machine does of each code. Conditions: lists are not too long. -/
import Derived.Test.YtoibcfioicdlhaaGreatDoorQAU
namespace Go.Proofs.YtoibcfioicdlhaaGreatDoor
open Go.Vx
set_option maxRecDepth 100000
def MLay (f : Nat) (m : Mh) (st st' : List Va) (ts : List Tr) (tk : List Va) (frs : List Fr) : Prop :=
  ∀ K : Out → H → Prop, K (.ret (.tu [])) [.cells (mcs m (.d (.sl 5 (frs.map encF))) st' ts (tkd tk) went false 0), .no] →
    Sat Tryz.prog f [.p 0 0] [.cells (mcs m (.os 1) st ts (tkd tk) went false 0), .rows 5 (frs.map encF)] K
def MKeep (f : Nat) (m : Mh) (st : List Va) (ts ts' : List Tr) (tk : List Va) (frs frs' : List Fr) (wr : Bool) (cd : Int) : Prop :=
  ∀ K : Out → H → Prop, K (.ret (.tu [])) [.cells (mcs m (.os 1) st ts' (tkd tk) went wr cd), .rows 5 (frs'.map encF)] →
    Sat Tryz.prog f [.p 0 0] [.cells (mcs m (.os 1) st ts (tkd tk) went false 0), .rows 5 (frs.map encF)] K
theorem push51 (m : Mh) (st : List Va) (ts : List Tr) (tk : List Va) (frs : List Fr) (v : Va) (hs : st.length < 1000000000) (h0 : 0 ≤ m.o.a) (hv : m.im.cs[m.o.a.toNat]? = some v) : MLay 51 m st (st ++ [v]) ts tk frs := by
  intro K hk
  refine s51 (keep := false) rfl ?_
  have hrow : (m.im.cs.map encV)[m.o.a.toNat]? = some (encV v) := by simp [hv]
  repeat' ((conv => whnf); first | exact zf | refine zg ?_ | intro _ | refine And.intro rfl ?_ | refine za ?_ | refine zl ?_ | fail)
  refine ⟨encV v, ⟨h0, hrow, rfl⟩, ?_⟩
  repeat' ((conv => whnf); first | exact zf | refine zg ?_ | intro _ | refine And.intro rfl ?_ | refine (.inr ?_ : (∃ _, _) ∨ _) | refine layA93 m st ts tk went false 0 frs v hs ?_ | refine za ?_ | refine zl ?_ | fail)
  exact hk
theorem load52 (m : Mh) (st : List Va) (ts : List Tr) (tk : List Va) (frs : List Fr) (f : Fr) (v : Va) (hs : st.length < 1000000000) (hl : 0 < frs.length) (hlf : frs.length < 1000000000) (hf : frs[frs.length - 1]? = some f) (h0 : 0 ≤ m.o.a) (hv : f.vars[m.o.a.toNat]? = some v) : MLay 52 m st (st ++ [v]) ts tk frs := by
  intro K hk
  refine s52 (keep := false) rfl ?_
  have hrow : (frs.map encF)[(((frs.map encF).length : Int) - 1).toNat]? = some (encF f) := by
    rw [List.getElem?_map, List.length_map]
    have e : ((frs.length : Int) - 1).toNat = frs.length - 1 := by omega
    rw [e, hf]; rfl
  have hrow2 : (f.vars.map encV)[m.o.a.toNat]? = some (encV v) := by simp [hv]
  repeat' ((conv => whnf); first | exact zf | refine zg ?_ | intro _ | refine And.intro rfl ?_ | refine (cfo_new ?_ : cfo _ (rqc _ _ _ _ 74 _ _ _ _ _ _ _)) | refine ⟨_, _, top74 m st ts tk went false 0 _ (by simp; omega) (by simp; omega) (And.intro rfl rfl), ?_⟩ | refine za ?_ | refine zl ?_ | fail)
  refine ⟨encF f, hrow, ?_⟩
  repeat' ((conv => whnf); first | exact zf | refine zg ?_ | intro _ | refine And.intro rfl ?_ | refine za ?_ | refine zl ?_ | fail)
  refine ⟨encV v, ⟨h0, hrow2, rfl⟩, ?_⟩
  repeat' ((conv => whnf); first | exact zf | refine zg ?_ | intro _ | refine And.intro rfl ?_ | refine (.inr ?_ : (∃ _, _) ∨ _) | refine layA93 m st ts tk went false 0 frs v hs ?_ | refine za ?_ | refine zl ?_ | fail)
  exact hk
theorem pop54 (m : Mh) (st : List Va) (ts : List Tr) (tk : List Va) (frs : List Fr) : MKeep 54 m st ts ts tk frs frs false 0 := by
  intro K hk
  refine s54 (keep := false) rfl ?_
  repeat' ((conv => whnf); first | exact zf | refine zg ?_ | intro _ | refine And.intro rfl ?_ | refine za ?_ | refine zl ?_ | fail)
  exact hk
theorem dup55 (m : Mh) (st : List Va) (ts : List Tr) (a : Va) (frs : List Fr) (hs : st.length < 900000000) : MLay 55 m st ((st ++ [a]) ++ [a]) ts [a] frs := by
  intro K hk
  refine s55 (keep := false) rfl ?_
  repeat' ((conv => whnf); first | exact zf | refine zg ?_ | intro _ | refine And.intro rfl ?_ | refine (.inr ?_ : (∃ _, _) ∨ _) | refine layA93 m st ts [a] went false 0 frs a (by omega) ?_ | refine layB93 m (st ++ [a]) ts [a] went false 0 frs a (by simp; omega) ?_ | refine za ?_ | refine zl ?_ | refine ⟨_, ⟨by decide, rfl, rfl⟩, ?_⟩ | refine ⟨_, rfl, ?_⟩ | fail)
  exact hk
theorem swap56 (m : Mh) (st : List Va) (ts : List Tr) (a b : Va) (frs : List Fr) (hs : st.length < 900000000) : MLay 56 m st ((st ++ [b]) ++ [a]) ts [a, b] frs := by
  intro K hk
  refine s56 (keep := false) rfl ?_
  repeat' ((conv => whnf); first | exact zf | refine zg ?_ | intro _ | refine And.intro rfl ?_ | refine (.inr ?_ : (∃ _, _) ∨ _) | refine layA93 m st ts [a, b] went false 0 frs b (by omega) ?_ | refine layB93 m (st ++ [b]) ts [a, b] went false 0 frs a (by simp; omega) ?_ | refine za ?_ | refine zl ?_ | refine ⟨_, ⟨by decide, rfl, rfl⟩, ?_⟩ | refine ⟨_, rfl, ?_⟩ | fail)
  exact hk
theorem eq58 (m : Mh) (st : List Va) (ts : List Tr) (a b : Va) (frs : List Fr) (hs : st.length < 900000000) : MLay 58 m st (st ++ [truthV (eqV a b)]) ts [a, b] frs := by
  intro K hk
  refine s58 (keep := false) rfl ?_
  repeat' ((conv => whnf); first | exact zf | refine zg ?_ | intro _ | refine And.intro rfl ?_ | refine ⟨_, truth98 (eqV a b), ?_⟩ | refine (truth98 (eqV a b)).use ?_ | refine (.inr ?_ : (∃ _, _) ∨ _) | refine layA93 m st ts [a, b] went false 0 frs (truthV (eqV a b)) (by omega) ?_ | refine za ?_ | refine zl ?_ | refine ⟨_, ⟨by decide, rfl, rfl⟩, ?_⟩ | refine ⟨_, rfl, ?_⟩ | fail)
  exact hk
theorem num95A (m : Mh) (st : List Va) (ts : List Tr) (a b : Va) (frs : List Fr) (n : Int) (hs : st.length < 1000000000) (hc : 7 ≤ m.o.c ∧ m.o.c ≤ 13) (hn : numR m.o.c a.n b.n = okR2 n) : LayF 95 [agV a, agV b] m st (st ++ [num n]) ts [a, b] frs := by
  intro K hk
  have h := do96 m.o.c a.n b.n hc
  rw [hn] at h
  refine s95 (keep := false) rfl ?_
  repeat' ((conv => whnf); first | exact zf | refine zg ?_ | intro _ | refine And.intro rfl ?_ | refine ⟨_, h, ?_⟩ | refine (h).use ?_ | refine ⟨_, whole25 n, ?_⟩ | refine (whole25 n).use ?_ | refine (.inr ?_ : (∃ _, _) ∨ _) | refine layA93 m st ts [a, b] went false 0 frs (num n) hs ?_ | refine za ?_ | refine zl ?_ | fail)
  exact hk
theorem num95B (m : Mh) (st : List Va) (ts : List Tr) (a b : Va) (frs : List Fr) (hc : 7 ≤ m.o.c ∧ m.o.c ≤ 13) (hn : numR m.o.c a.n b.n = noR2) : KeepF 95 [agV a, agV b] m st ts [a, b] frs frs true (-2) := by
  intro K hk
  have h := do96 m.o.c a.n b.n hc
  rw [hn] at h
  refine s95 (keep := false) rfl ?_
  repeat' ((conv => whnf); first | exact zf | refine zg ?_ | intro _ | refine And.intro rfl ?_ | refine ⟨_, h, ?_⟩ | refine (h).use ?_ | refine (.inr ?_ : (∃ _, _) ∨ _) | refine except97 m st ts [a, b] went false 0 (frs.map encF) (-2) ?_ | refine za ?_ | refine zl ?_ | fail)
  exact hk
theorem number57A (m : Mh) (st : List Va) (ts : List Tr) (a b : Va) (frs : List Fr) (n : Int) (hs : st.length < 1000000000) (hc : 7 ≤ m.o.c ∧ m.o.c ≤ 13) (ha : a.k = 1) (hb : b.k = 1) (hn : numR m.o.c a.n b.n = okR2 n) : MLay 57 m st (st ++ [num n]) ts [a, b] frs := by
  intro K hk
  refine s57 (keep := false) rfl ?_
  repeat' ((conv => whnf); first | exact zf | refine zg ?_ | intro _ | refine And.intro rfl ?_ | refine (.inr ?_ : (∃ _, _) ∨ _) | refine twoA94 95 rfl m st (st ++ [num n]) ts a b 1 frs ha hb (num95A m st ts a b frs n hs hc hn) ?_ | refine za ?_ | refine zl ?_ | fail)
  exact hk
theorem number57B (m : Mh) (st : List Va) (ts : List Tr) (a b : Va) (frs : List Fr) (hc : 7 ≤ m.o.c ∧ m.o.c ≤ 13) (ha : a.k = 1) (hb : b.k = 1) (hn : numR m.o.c a.n b.n = noR2) : MKeep 57 m st ts ts [a, b] frs frs true (-2) := by
  intro K hk
  refine s57 (keep := false) rfl ?_
  repeat' ((conv => whnf); first | exact zf | refine zg ?_ | intro _ | refine And.intro rfl ?_ | refine (.inr ?_ : (∃ _, _) ∨ _) | refine twoB94 95 rfl m st ts a b 1 frs frs true (-2) ha hb (num95B m st ts a b frs hc hn) ?_ | refine za ?_ | refine zl ?_ | fail)
  exact hk
theorem number57E (m : Mh) (st : List Va) (ts : List Tr) (a b : Va) (frs : List Fr) (hab : ¬ (a.k = 1 ∧ b.k = 1)) : MKeep 57 m st ts ts [a, b] frs frs true (-1) := by
  intro K hk
  refine s57 (keep := false) rfl ?_
  repeat' ((conv => whnf); first | exact zf | refine zg ?_ | intro _ | refine And.intro rfl ?_ | refine (.inr ?_ : (∃ _, _) ∨ _) | refine twoE94 95 m st ts a b 1 frs hab ?_ | refine za ?_ | refine zl ?_ | fail)
  exact hk
theorem throw103 (m : Mh) (st : List Va) (ts : List Tr) (a : Va) (frs : List Fr) : KeepF 103 [agV a] m st ts [a] frs frs true a.n := by
  intro K hk
  refine s103 (keep := false) rfl ?_
  repeat' ((conv => whnf); first | exact zf | refine zg ?_ | intro _ | refine And.intro rfl ?_ | refine (.inr ?_ : (∃ _, _) ∨ _) | refine except97 m st ts [a] went false 0 (frs.map encF) a.n ?_ | refine za ?_ | refine zl ?_ | fail)
  exact hk
theorem throw64A (m : Mh) (st : List Va) (ts : List Tr) (a : Va) (frs : List Fr) (ha : a.k = 1) : MKeep 64 m st ts ts [a] frs frs true a.n := by
  intro K hk
  refine s64 (keep := false) rfl ?_
  repeat' ((conv => whnf); first | exact zf | refine zg ?_ | intro _ | refine And.intro rfl ?_ | refine (.inr ?_ : (∃ _, _) ∨ _) | refine oneB99 103 rfl m st ts a 1 frs frs true a.n ha (throw103 m st ts a frs) ?_ | refine za ?_ | refine zl ?_ | fail)
  exact hk
theorem throw64E (m : Mh) (st : List Va) (ts : List Tr) (a : Va) (frs : List Fr) (ha : ¬ a.k = 1) : MKeep 64 m st ts ts [a] frs frs true (-1) := by
  intro K hk
  refine s64 (keep := false) rfl ?_
  repeat' ((conv => whnf); first | exact zf | refine zg ?_ | intro _ | refine And.intro rfl ?_ | refine (.inr ?_ : (∃ _, _) ∨ _) | refine oneE99 103 m st ts a 1 frs ha ?_ | refine za ?_ | refine zl ?_ | fail)
  exact hk
end Go.Proofs.YtoibcfioicdlhaaGreatDoor
namespace Go.Proofs.YtoibcfioicdlhaaGreatDoor
open Go.Vx
theorem topD74 {K : Out → H → Prop} (m : Mh) (st : List Va) (ts : List Tr) (tk : List Va) (u : Ou) (wr : Bool) (cd : Int) (frs : List Fr) (f : Fr) (hl : 0 < frs.length) (hlf : frs.length < 1000000000) (hf : frs[frs.length - 1]? = some f)
    (hk : K (.ret (.e (encF f) 0)) [.cells (mcs m (.d (.sl 5 (frs.map encF))) st ts (tkd tk) u wr cd)]) :
    Sat Tryz.prog 74 [.p 0 0] [.cells (mcs m (.d (.sl 5 (frs.map encF))) st ts (tkd tk) u wr cd)] K := by
  have hrow : (frs.map encF)[(((frs.map encF).length : Int) - 1).toNat]? = some (encF f) := by
    rw [List.getElem?_map, List.length_map]
    have e : ((frs.length : Int) - 1).toNat = frs.length - 1 := by omega
    rw [e, hf]; rfl
  refine s74 (keep := false) rfl ?_
  repeat' ((conv => whnf); first | exact zf | refine zg ?_ | intro _ | refine And.intro rfl ?_ | refine za ?_ | refine zl ?_ | fail)
  refine ⟨encF f, ⟨by simp; omega, hrow, rfl⟩, ?_⟩
  repeat' ((conv => whnf); first | exact zf | refine zg ?_ | intro _ | refine And.intro rfl ?_ | refine za ?_ | refine zl ?_ | fail)
  exact hk
theorem exceptD97 {K : Out → H → Prop} (m : Mh) (st : List Va) (ts : List Tr) (tk : List Va) (u : Ou) (wr : Bool) (cd : Int) (rows : List (List D)) (n : Int)
    (hk : K (.ret (.tu [])) [.cells (mcs m (.d (.sl 5 rows)) st ts (tkd tk) u true n)]) :
    Sat Tryz.prog 97 [.p 0 0, .d (.int .i64 n)] [.cells (mcs m (.d (.sl 5 rows)) st ts (tkd tk) u wr cd)] K := by
  refine s97 (keep := false) rfl ?_
  repeat' ((conv => whnf); first | exact zf | refine zg ?_ | intro _ | refine And.intro rfl ?_ | refine za ?_ | refine zl ?_ | fail)
  exact hk
def lastSet (frs : List Fr) (f : Fr) : List Fr := frs.set (frs.length - 1) f
theorem lastSet_row {frs : List Fr} (hl : 0 < frs.length) (f : Fr) : (frs.map encF).set (((frs.map encF).length : Int) - 1).toNat (encF f) = (lastSet frs f).map encF := by
  rw [lastSet, List.map_set, List.length_map]
  congr 1
  omega
theorem last_row {frs : List Fr} {f : Fr} (hl : 0 < frs.length) (hf : frs[frs.length - 1]? = some f) : (frs.map encF)[(((frs.map encF).length : Int) - 1).toNat]? = some (encF f) := by
  rw [List.getElem?_map, List.length_map]
  have e : ((frs.length : Int) - 1).toNat = frs.length - 1 := by omega
  rw [e, hf]; rfl
theorem jump60 (m : Mh) (st : List Va) (ts : List Tr) (tk : List Va) (frs : List Fr) (f : Fr) (hl : 0 < frs.length) (hlf : frs.length < 1000000000) (hf : frs[frs.length - 1]? = some f) :
    MKeep 60 m st ts ts tk frs (lastSet frs { f with pc := m.o.a }) false 0 := by
  intro K hk
  have hrow := last_row hl hf
  rw [← lastSet_row hl] at hk
  refine s60 (keep := false) rfl ?_
  repeat' ((conv => whnf); first | exact zf | refine zg ?_ | intro _ | refine And.intro rfl ?_ | refine (cfo_new ?_ : cfo _ (rqc _ _ _ _ 74 _ _ _ _ _ _ _)) | refine ⟨_, _, top74 m st ts tk went false 0 _ (by simp; omega) (by simp; omega) (And.intro rfl rfl), ?_⟩ | refine za ?_ | refine zl ?_ | fail)
  refine ⟨encF f, hrow, ⟨rfl, rfl, rfl⟩, ?_⟩
  repeat' ((conv => whnf); first | exact zf | refine zg ?_ | intro _ | refine And.intro rfl ?_ | refine za ?_ | refine zl ?_ | fail)
  exact hk
def lessM (a : Int) (ma : Int) : Int := bitv .and .u8 ma (IntKind.u8.wrap (bitv .and .i64 a 255))
theorem less71 (m : Mh) (st : List Va) (ts : List Tr) (tk : List Va) (frs : List Fr) (f : Fr) (hl : 0 < frs.length) (hlf : frs.length < 1000000000) (hf : frs[frs.length - 1]? = some f) :
    MKeep 71 m st ts ts tk frs (lastSet frs { f with ma := lessM m.o.a f.ma }) false 0 := by
  intro K hk
  have hrow := last_row hl hf
  rw [← lastSet_row hl] at hk
  refine s71 (keep := false) rfl ?_
  repeat' ((conv => whnf); first | exact zf | refine zg ?_ | intro _ | refine And.intro rfl ?_ | refine (cfo_new ?_ : cfo _ (rqc _ _ _ _ 74 _ _ _ _ _ _ _)) | refine ⟨_, _, top74 m st ts tk went false 0 _ (by simp; omega) (by simp; omega) (And.intro rfl rfl), ?_⟩ | refine za ?_ | refine zl ?_ | fail)
  refine ⟨encF f, hrow, ?_⟩
  repeat' ((conv => whnf); first | exact zf | refine zg ?_ | intro _ | refine And.intro rfl ?_ | refine .inr ?_ | refine za ?_ | refine zl ?_ | fail)
  refine ⟨encF f, hrow, ⟨rfl, rfl, rfl⟩, ?_⟩
  repeat' ((conv => whnf); first | exact zf | refine zg ?_ | intro _ | refine And.intro rfl ?_ | refine za ?_ | refine zl ?_ | fail)
  exact hk
theorem own72 (m : Mh) (st : List Va) (ts : List Tr) (tk : List Va) (frs : List Fr) (f : Fr) (hs : st.length < 1000000000) (hl : 0 < frs.length) (hlf : frs.length < 1000000000) (hf : frs[frs.length - 1]? = some f) (hma : 0 ≤ f.ma ∧ f.ma ≤ 255) :
    MLay 72 m st (st ++ [num f.ma]) ts tk frs := by
  intro K hk
  have hrow := last_row hl hf
  refine s72 (keep := false) rfl ?_
  repeat' ((conv => whnf); first | exact zf | refine zg ?_ | intro _ | refine And.intro rfl ?_ | refine (.inr ?_ : (∃ _, _) ∨ _) | refine top74 m st ts tk went false 0 _ (by simp; omega) (by simp; omega) ?_ | refine za ?_ | refine zl ?_ | fail)
  refine ⟨encF f, hrow, ?_⟩
  repeat' ((conv => whnf); first | exact zf | refine zg ?_ | intro _ | refine And.intro rfl ?_ | refine ⟨_, whole25 f.ma, ?_⟩ | refine (whole25 f.ma).use ?_ | refine (.inr ?_ : (∃ _, _) ∨ _) | refine layA93 m st ts tk went false 0 frs (num f.ma) hs ?_ | refine za ?_ | refine zl ?_ | fail)
  exact hk
theorem jumpIf101A (m : Mh) (st : List Va) (ts : List Tr) (a : Va) (frs : List Fr) (f : Fr) (hl : 0 < frs.length) (hlf : frs.length < 1000000000) (hf : frs[frs.length - 1]? = some f) (hn : a.n ≠ 0) :
    KeepF 101 [agV a] m st ts [a] frs (lastSet frs { f with pc := m.o.a }) false 0 := by
  intro K hk
  refine s101 (keep := false) rfl ?_
  repeat' ((conv => whnf); first | exact zf | refine zg ?_ | intro _ | refine And.intro rfl ?_ | refine za ?_ | refine zl ?_ | fail)
  refine sp_intro (fun _ => ?_) (fun h => absurd (by simpa using h) hn)
  repeat' ((conv => whnf); first | exact zf | refine zg ?_ | intro _ | refine And.intro rfl ?_ | refine (.inr ?_ : (∃ _, _) ∨ _) | refine jump60 m st ts [a] frs f hl hlf hf _ ?_ | refine za ?_ | refine zl ?_ | fail)
  exact hk
theorem jumpIf101B (m : Mh) (st : List Va) (ts : List Tr) (a : Va) (frs : List Fr) (hn : a.n = 0) :
    KeepF 101 [agV a] m st ts [a] frs frs false 0 := by
  intro K hk
  refine s101 (keep := false) rfl ?_
  repeat' ((conv => whnf); first | exact zf | refine zg ?_ | intro _ | refine And.intro rfl ?_ | refine za ?_ | refine zl ?_ | fail)
  refine sp_intro (fun h => absurd hn (by simpa using h)) (fun _ => ?_)
  repeat' ((conv => whnf); first | exact zf | refine zg ?_ | intro _ | refine And.intro rfl ?_ | refine za ?_ | refine zl ?_ | fail)
  exact hk
theorem jumpIf61A (m : Mh) (st : List Va) (ts : List Tr) (a : Va) (frs : List Fr) (f : Fr) (hl : 0 < frs.length) (hlf : frs.length < 1000000000) (hf : frs[frs.length - 1]? = some f) (ha : a.k = 1) (hn : a.n ≠ 0) :
    MKeep 61 m st ts ts [a] frs (lastSet frs { f with pc := m.o.a }) false 0 := by
  intro K hk
  refine s61 (keep := false) rfl ?_
  repeat' ((conv => whnf); first | exact zf | refine zg ?_ | intro _ | refine And.intro rfl ?_ | refine (.inr ?_ : (∃ _, _) ∨ _) | refine oneB99 101 rfl m st ts a 1 frs _ false 0 ha (jumpIf101A m st ts a frs f hl hlf hf hn) ?_ | refine za ?_ | refine zl ?_ | fail)
  exact hk
theorem jumpIf61B (m : Mh) (st : List Va) (ts : List Tr) (a : Va) (frs : List Fr) (ha : a.k = 1) (hn : a.n = 0) :
    MKeep 61 m st ts ts [a] frs frs false 0 := by
  intro K hk
  refine s61 (keep := false) rfl ?_
  repeat' ((conv => whnf); first | exact zf | refine zg ?_ | intro _ | refine And.intro rfl ?_ | refine (.inr ?_ : (∃ _, _) ∨ _) | refine oneB99 101 rfl m st ts a 1 frs frs false 0 ha (jumpIf101B m st ts a frs hn) ?_ | refine za ?_ | refine zl ?_ | fail)
  exact hk
theorem jumpIf61E (m : Mh) (st : List Va) (ts : List Tr) (a : Va) (frs : List Fr) (ha : ¬ a.k = 1) : MKeep 61 m st ts ts [a] frs frs true (-1) := by
  intro K hk
  refine s61 (keep := false) rfl ?_
  repeat' ((conv => whnf); first | exact zf | refine zg ?_ | intro _ | refine And.intro rfl ?_ | refine (.inr ?_ : (∃ _, _) ∨ _) | refine oneE99 101 m st ts a 1 frs ha ?_ | refine za ?_ | refine zl ?_ | fail)
  exact hk
theorem not100 (m : Mh) (st : List Va) (ts : List Tr) (a : Va) (frs : List Fr) (hs : st.length < 1000000000) : LayF 100 [agV a] m st (st ++ [truthV (a.n == 0)]) ts [a] frs := by
  intro K hk
  refine s100 (keep := false) rfl ?_
  repeat' ((conv => whnf); first | exact zf | refine zg ?_ | intro _ | refine And.intro rfl ?_ | refine ⟨_, truth98 (a.n == 0), ?_⟩ | refine (truth98 (a.n == 0)).use ?_ | refine (.inr ?_ : (∃ _, _) ∨ _) | refine layA93 m st ts [a] went false 0 frs (truthV (a.n == 0)) hs ?_ | refine za ?_ | refine zl ?_ | fail)
  exact hk
theorem not59A (m : Mh) (st : List Va) (ts : List Tr) (a : Va) (frs : List Fr) (hs : st.length < 1000000000) (ha : a.k = 1) : MLay 59 m st (st ++ [truthV (a.n == 0)]) ts [a] frs := by
  intro K hk
  refine s59 (keep := false) rfl ?_
  repeat' ((conv => whnf); first | exact zf | refine zg ?_ | intro _ | refine And.intro rfl ?_ | refine (.inr ?_ : (∃ _, _) ∨ _) | refine oneA99 100 rfl m st _ ts a 1 frs ha (not100 m st ts a frs hs) ?_ | refine za ?_ | refine zl ?_ | fail)
  exact hk
theorem not59E (m : Mh) (st : List Va) (ts : List Tr) (a : Va) (frs : List Fr) (ha : ¬ a.k = 1) : MKeep 59 m st ts ts [a] frs frs true (-1) := by
  intro K hk
  refine s59 (keep := false) rfl ?_
  repeat' ((conv => whnf); first | exact zf | refine zg ?_ | intro _ | refine And.intro rfl ?_ | refine (.inr ?_ : (∃ _, _) ∨ _) | refine oneE99 100 m st ts a 1 frs ha ?_ | refine za ?_ | refine zl ?_ | fail)
  exact hk
theorem clip104 (l : List (List D)) : SatP Tryz.prog 104 [.d (.sl 3 l)] (.cl 3 l) := by
  refine s104 (keep := false) rfl ?_
  repeat' ((conv => whnf); first | exact zf | refine zg ?_ | intro _ | refine And.intro rfl ?_ | refine za ?_ | refine zl ?_ | fail)
  exact outs_eq (congrArg (V.cl 3) (by simp))
theorem try65 (m : Mh) (st : List Va) (ts : List Tr) (tk : List Va) (frs : List Fr) (ht : ts.length < 1000000000) :
    MKeep 65 m st ts (ts ++ [⟨frs.length, st.length, m.o.a⟩]) tk frs frs false 0 := by
  intro K hk
  refine s65 (keep := false) rfl ?_
  have ht' : (ts.map encT).length < 1000000000 := by simpa using ht
  repeat' ((conv => whnf); first | exact zf | refine zg ?_ | intro _ | refine And.intro rfl ?_ | refine ⟨_, clip104 (ts.map encT), ?_⟩ | refine (clip104 (ts.map encT)).use ?_ | refine za ?_ | refine zl ?_ | fail)
  have e : (ts ++ [(⟨frs.length, st.length, m.o.a⟩ : Tr)]).map encT = ts.map encT ++ [[.int .i64 ((frs.map encF).length : Int), .int .i64 ((st.map encV).length : Int), .int .i64 m.o.a]] := by simp [encT]
  unfold mcs at hk
  rw [e] at hk
  exact hk
def mcs2 (m : Mh) (c0 : V) (st : List Va) (c2 : V) (tk : V) (u : Ou) (wr : Bool) (cd : Int) : List V :=
  [.d (.sl 5 (m.im.cs.map encV)), .d (.sl 3 (m.im.fs.map encFn)), .d (.sl 5 (m.was.fr.map encF)), .d (.sl 5 (m.was.st.map encV)), .d (.sl 3 (m.was.tr.map encT)),
   c0, .d (.sl 5 (st.map encV)), c2, .d (.int .i64 m.o.c), .d (.int .i64 m.o.a), tk, .d (.int .i64 m.fr), .d (.int .i64 m.tr),
   .d (.int .i64 u.k), .d (.int .i64 u.v.k), .d (.int .i64 u.v.n), .d (.str u.v.nm), .d (.str u.v.ls), .d (.str u.v.li), .d (.int .i64 u.o.c), .d (.int .i64 u.o.a), .d (.bool wr), .d (.int .i64 cd)]
theorem end66A {K : Out → H → Prop} (m : Mh) (st : List Va) (ts : List Tr) (tk : List Va) (frs : List Fr) (hn : m.tr < ts.length) (h0 : 0 ≤ m.tr)
    (hk : K (.ret (.tu [])) [.cells (mcs2 m (.os 1) st (.cl 3 ((ts.take (ts.length - 1)).map encT)) (tkd tk) went false 0), .rows 5 (frs.map encF)]) :
    Sat Tryz.prog 66 [.p 0 0] [.cells (mcs m (.os 1) st ts (tkd tk) went false 0), .rows 5 (frs.map encF)] K := by
  refine s66 (keep := false) rfl ?_
  repeat' ((conv => whnf); first | exact zf | refine zg ?_ | intro _ | refine And.intro rfl ?_ | refine za ?_ | refine zl ?_ | fail)
  refine sp_intro (fun _ => ?_) (fun h => absurd h (by simp; omega))
  have e : ((ts.map encT).take (((ts.map encT).length : Int) - 1).toNat).drop (0 : Int).toNat = (ts.take (ts.length - 1)).map encT := by
    rw [List.length_map, ← List.map_take]
    show List.map encT _ = _
    congr 2
    omega
  rw [← e] at hk
  repeat' ((conv => whnf); first | exact zf | refine zg ?_ | intro _ | refine And.intro rfl ?_ | refine ⟨_, clip104 _, ?_⟩ | refine (clip104 _).use ?_ | refine za ?_ | refine zl ?_ | fail)
  exact hk
theorem end66B {K : Out → H → Prop} (m : Mh) (st : List Va) (ts : List Tr) (tk : List Va) (frs : List Fr) (hn : ¬ m.tr < ts.length)
    (hk : K (.ret (.tu [])) [.cells (mcs m (.os 1) st ts (tkd tk) went false 0), .rows 5 (frs.map encF)]) :
    Sat Tryz.prog 66 [.p 0 0] [.cells (mcs m (.os 1) st ts (tkd tk) went false 0), .rows 5 (frs.map encF)] K := by
  refine s66 (keep := false) rfl ?_
  repeat' ((conv => whnf); first | exact zf | refine zg ?_ | intro _ | refine And.intro rfl ?_ | refine za ?_ | refine zl ?_ | fail)
  refine sp_intro (fun h => absurd h (by simp; omega)) (fun _ => ?_)
  repeat' ((conv => whnf); first | exact zf | refine zg ?_ | intro _ | refine And.intro rfl ?_ | refine za ?_ | refine zl ?_ | fail)
  exact hk
theorem call62A {K : Out → H → Prop} (m : Mh) (st : List Va) (ts : List Tr) (tk : List Va) (frs : List Fr) (f : Fr) (g : Fn) (hl : 0 < frs.length) (hlf : frs.length < 1000000000) (htk : tk.length < 1000000000) (hf : frs[frs.length - 1]? = some f) (h0 : 0 ≤ m.o.a) (hg : m.im.fs[m.o.a.toNat]? = some g) (hy : enterOk ⟨frs, st, ts⟩ = true)
    (hk : K (.ret (.tu [])) [.cells (mcs m (.d (.sl 5 ((enterC ⟨frs, st, ts⟩ m.o.a g.vars tk f.ma).fr.map encF))) st ts (tkd tk) went false 0), .no]) :
    Sat Tryz.prog 62 [.p 0 0] [.cells (mcs m (.os 1) st ts (tkd tk) went false 0), .rows 5 (frs.map encF)] K := by
  have he := enter24 ⟨frs, st, ts⟩ m.o.a g.vars tk f.ma hlf htk
  simp only [enterR, hy, cond_true] at he
  have hrow : (m.im.fs.map encFn)[m.o.a.toNat]? = some (encFn g) := by simp [hg]
  refine s62 (keep := false) rfl ?_
  repeat' ((conv => whnf); first | exact zf | refine zg ?_ | intro _ | refine And.intro rfl ?_ | refine ⟨_, he, ?_⟩ | refine (he).use ?_ | refine fro_use [1] ?_ | refine (cfo_new ?_ : cfo _ (rqc _ _ _ _ 74 _ _ _ _ _ _ _)) | refine ⟨_, _, topD74 m st ts tk went false 0 frs f hl hlf hf (And.intro rfl rfl), ?_⟩ | refine za ?_ | refine zl ?_ | fail)
  refine ⟨encFn g, ⟨h0, hrow, rfl⟩, ?_⟩
  repeat' ((conv => whnf); first | exact zf | refine zg ?_ | intro _ | refine And.intro rfl ?_ | refine ⟨_, he, ?_⟩ | refine (he).use ?_ | refine (cfo_new ?_ : cfo _ (rqc _ _ _ _ 74 _ _ _ _ _ _ _)) | refine ⟨_, _, topD74 m st ts tk went false 0 frs f hl hlf hf (And.intro rfl rfl), ?_⟩ | refine za ?_ | refine zl ?_ | fail)
  exact hk
theorem call62B {K : Out → H → Prop} (m : Mh) (st : List Va) (ts : List Tr) (tk : List Va) (frs : List Fr) (f : Fr) (g : Fn) (hl : 0 < frs.length) (hlf : frs.length < 1000000000) (htk : tk.length < 1000000000) (hf : frs[frs.length - 1]? = some f) (h0 : 0 ≤ m.o.a) (hg : m.im.fs[m.o.a.toNat]? = some g) (hy : enterOk ⟨frs, st, ts⟩ = false)
    (hk : K (.ret (.tu [])) [.cells (mcs m (.d (.sl 5 (frs.map encF))) st ts (tkd tk) went true (-6)), .no]) :
    Sat Tryz.prog 62 [.p 0 0] [.cells (mcs m (.os 1) st ts (tkd tk) went false 0), .rows 5 (frs.map encF)] K := by
  have he := enter24 ⟨frs, st, ts⟩ m.o.a g.vars tk f.ma hlf htk
  simp only [enterR, hy, cond_false] at he
  have hrow : (m.im.fs.map encFn)[m.o.a.toNat]? = some (encFn g) := by simp [hg]
  refine s62 (keep := false) rfl ?_
  repeat' ((conv => whnf); first | exact zf | refine zg ?_ | intro _ | refine And.intro rfl ?_ | refine ⟨_, he, ?_⟩ | refine (he).use ?_ | refine fro_use [1] ?_ | refine (cfo_new ?_ : cfo _ (rqc _ _ _ _ 74 _ _ _ _ _ _ _)) | refine ⟨_, _, topD74 m st ts tk went false 0 frs f hl hlf hf (And.intro rfl rfl), ?_⟩ | refine za ?_ | refine zl ?_ | fail)
  refine ⟨encFn g, ⟨h0, hrow, rfl⟩, ?_⟩
  repeat' ((conv => whnf); first | exact zf | refine zg ?_ | intro _ | refine And.intro rfl ?_ | refine ⟨_, he, ?_⟩ | refine (he).use ?_ | refine (cfo_new ?_ : cfo _ (rqc _ _ _ _ 74 _ _ _ _ _ _ _)) | refine ⟨_, _, topD74 m st ts tk went false 0 frs f hl hlf hf (And.intro rfl rfl), ?_⟩ | refine (.inr ?_ : (∃ _, _) ∨ _) | refine exceptD97 m st ts tk went false 0 (frs.map encF) (-6) ?_ | refine za ?_ | refine zl ?_ | fail)
  exact hk
theorem ret63A {K : Out → H → Prop} (m : Mh) (st : List Va) (ts : List Tr) (tk : List Va) (frs : List Fr) (hf : m.was.fr.length < 1000000000) (hs : m.was.st.length < 1000000000) (ht : m.was.tr.length < 1000000000) (hy : retOk m.was = true) (hn : ((retC m.was).fr.length : Int) ≤ m.fr)
    (hk : K (.ret (.tu [])) [.cells (mcs m (.d (.sl 5 ((retC m.was).fr.map encF))) (retC m.was).st (retC m.was).tr (tkd tk) ⟨1, retV m.was, o0⟩ false 0), .rows 5 (frs.map encF)]) :
    Sat Tryz.prog 63 [.p 0 0] [.cells (mcs m (.os 1) st ts (tkd tk) went false 0), .rows 5 (frs.map encF)] K := by
  have he := ret102 m.was hf hs ht
  simp only [retR, hy, cond_true] at he
  refine s63 (keep := false) rfl ?_
  repeat' ((conv => whnf); first | exact zf | refine zg ?_ | intro _ | refine And.intro rfl ?_ | refine ⟨_, he, ?_⟩ | refine (he).use ?_ | refine za ?_ | refine zl ?_ | fail)
  refine sp_intro (fun _ => ?_) (fun h => absurd h (by simp; omega))
  repeat' ((conv => whnf); first | exact zf | refine zg ?_ | intro _ | refine And.intro rfl ?_ | refine za ?_ | refine zl ?_ | fail)
  exact hk
theorem ret63B {K : Out → H → Prop} (m : Mh) (st : List Va) (ts : List Tr) (tk : List Va) (frs : List Fr) (hf : m.was.fr.length < 1000000000) (hs : m.was.st.length < 1000000000) (ht : m.was.tr.length < 1000000000) (hs2 : (retC m.was).st.length < 1000000000) (hy : retOk m.was = true) (hn : ¬ ((retC m.was).fr.length : Int) ≤ m.fr)
    (hk : K (.ret (.tu [])) [.cells (mcs m (.d (.sl 5 ((retC m.was).fr.map encF))) ((retC m.was).st ++ [retV m.was]) (retC m.was).tr (tkd tk) went false 0), .rows 5 (frs.map encF)]) :
    Sat Tryz.prog 63 [.p 0 0] [.cells (mcs m (.os 1) st ts (tkd tk) went false 0), .rows 5 (frs.map encF)] K := by
  have he := ret102 m.was hf hs ht
  simp only [retR, hy, cond_true] at he
  refine s63 (keep := false) rfl ?_
  repeat' ((conv => whnf); first | exact zf | refine zg ?_ | intro _ | refine And.intro rfl ?_ | refine ⟨_, he, ?_⟩ | refine (he).use ?_ | refine za ?_ | refine zl ?_ | fail)
  refine sp_intro (fun h => absurd h (by simp; omega)) (fun _ => ?_)
  repeat' ((conv => whnf); first | exact zf | refine zg ?_ | intro _ | refine And.intro rfl ?_ | refine (.inr ?_ : (∃ _, _) ∨ _) | refine layB93 m (retC m.was).st (retC m.was).tr tk went false 0 (retC m.was).fr (retV m.was) hs2 ?_ | refine za ?_ | refine zl ?_ | fail)
  exact hk
end Go.Proofs.YtoibcfioicdlhaaGreatDoor
namespace Go.Proofs.YtoibcfioicdlhaaGreatDoor
open Go.Vx
def codes : List (Int × Nat) := [(1, 1000051), (2, 1000052), (3, 1000053), (4, 1000054), (5, 1000055), (6, 1000056), (7, 1000057), (8, 1000057), (9, 1000057), (10, 1000057), (11, 1000057), (12, 1000058), (13, 1000057), (14, 1000059), (15, 1000060), (16, 1000061), (17, 1000062), (18, 1000063), (19, 1000064), (20, 1000065), (21, 1000066), (22, 1000067), (23, 1000068), (24, 1000069), (31, 1000070), (44, 1000071), (47, 1000072)]
def tbl (id : Nat) : List (V × V) := codes.map fun p => (.d (.int .i64 p.1), .fc p.2 [.p id 0])
set_option maxRecDepth 100000 in
set_option maxHeartbeats 4000000 in
theorem table26 {K : Out → H → Prop} (m : Mh) (hk : K (.ret (.mp 1)) [.cells (mcs0 m), .mp (tbl 0)]) : Sat Tryz.prog 26 [.p 0 0] [.cells (mcs0 m)] K := by
  refine s26 (keep := true) rfl ?_
  repeat' ((conv => whnf); first | exact zf | refine zg ?_ | intro _ | refine And.intro rfl ?_ | refine ⟨_, rfl, ?_⟩ | refine za ?_ | refine zl ?_ | fail)
  exact hk
end Go.Proofs.YtoibcfioicdlhaaGreatDoor
